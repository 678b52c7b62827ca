/-
Texts of this proof,one behind the other. No conditions.
-/
import Derived.Test.YtecepaehmojpgaaGreatKd
import Derived.Test.YtecepaehmojpgaaGreatKdb
import Derived.Shelf.SlMaps.Clone
import Derived.WalkKit
open Nat renaming reduceAdd→jA,reduceSub→jB,reduceLT→jC,reduceLeDiff→jD,reduceEqDiff→jE
open Int renaming reduceToNat→jF,toNat_natCast→jG,natCast_add→jH,natCast_one→jI,natCast_zero→jJ
open List renaming length_map→jK,length_cons→jL,length_nil→jM,replicate_succ→jN,replicate_zero→jO,cons_append→jP,nil_append→jQ
set_option linter.unusedSimpArgs false
set_option linter.unusedVariables false
set_option linter.unusedSectionVars false
namespace Go.Proofs.YtecepaehmojpgaaGreat
open Go.RowKit
def jX(a b:Int):Int:=if a<b then-1 else if b<a then 1 else 0
theorem aBm{P:Program}{f:Nat}(hL:aH P f=some LB.NaNInt)(a:Int)(h:Hp):aZ P f [.int .i64 a] h (.bool false):=by
 refine aU (fun L=>trivial) fun h' nx hh=>aD hL fun hd=>?_
 simp only[jL,jM,jA,jB,jN,jO,jP,jQ,V.undef]
 refine wl ?_
 refine bU (aG h' (Hp.le_refl _) ⟨?_,rfl⟩)
 simp[bne]
theorem rM{P:Program}{f f0:Nat}(hL:aH P f=some (LB.CmpInt f0))(hL0:aH P f0=some LB.NaNInt)(a b:Int)(h:Hp):aZ P f [.int .i64 a, .int .i64 b] h (.int .i64 (jX a b)):=by
 refine aU (fun L=>trivial) fun h' nx hh=>aD hL fun hd=>?_
 simp only[jL,jM,jA,jB,jN,jO,jP,jQ,V.undef]
 refine wl ?_
 refine aQ (aBm hL0 a _) rfl (aR _) ?_
 simp only[ go_sem,reduceIte,jA,jB,jC,jD,reduceCtorEq,jE,jF]
 refine wl ?_
 refine aQ (aBm hL0 b _) rfl (aR _) ?_
 simp only[ go_sem,reduceIte,jA,jB,jC,jD,reduceCtorEq,jE,jF]
 refine wl ?_
 refine cP _ rfl (fun hc=>?_) (fun hc=>?_)
 ·cases hc
 refine wl ?_
 refine cP _ rfl (fun hc=>?_) (fun hc=>?_)
 ·cases hc
 refine wl ?_
 refine cP _ rfl (fun hc=>?_) (fun hc=>?_)
 ·refine wl ?_
  refine bU ?_
  repeat (first|with_reducible refine gK ?_|with_reducible refine eL ?_|with_reducible refine fA ?_|with_reducible refine fB ?_)
  refine aG h' (Hp.le_refl _) ⟨?_,rfl⟩
  have:a<b:=by simpa using hc
  simp only[jX,if_pos this,go_sem,reduceIte,jA,jB,jC,jD,reduceCtorEq,jE,jF]
 refine wl ?_
 have h1:¬a<b:=by simpa using hc
 refine cP _ rfl (fun hc2=>?_) (fun hc2=>?_)
 ·refine wl ?_
  refine bU ?_
  repeat (first|with_reducible refine gK ?_|with_reducible refine eL ?_|with_reducible refine fA ?_|with_reducible refine fB ?_)
  refine aG h' (Hp.le_refl _) ⟨?_,rfl⟩
  have:b<a:=by simpa using hc2
  simp only[jX,if_neg h1,if_pos this,go_sem,reduceIte,jA,jB,jC,jD,reduceCtorEq,jE,jF]
 refine wl ?_
 have h2:¬b<a:=by simpa using hc2
 refine bU (aG h' (Hp.le_refl _) ⟨?_,rfl⟩)
 simp only[jX,if_neg h1,if_neg h2,go_sem,reduceIte,jA,jB,jC,jD,reduceCtorEq,jE,jF]
def orI:List Int→Int
 | []=>0
 |x::l=>if x=0 then orI l else x
theorem aAY{P:Program}{f:Nat}(hL:aH P f=some LB.OrInt)(own:Own)(l:List Int)(hl:l.length≤1000000000)(h:Hp):aZ P f [.sl .leaf own (l.map (V.int .i64))] h (.int .i64 (orI l)):=by
 refine aU (fun L=>trivial) fun h' nx hh=>aD hL fun hd=>?_
 simp only[jL,jM,jA,jB,jN,jO,jP,jQ,V.undef]
 refine wle trivial ?_
 refine mO (fun i:Nat=>i≤l.length∧orI l=orI (l.drop i)) (fun i=>⟨aB 18 0 [(0, .sl .leaf own (l.map (V.int .i64))),(3, .int .i64 0),(6, .sl .leaf own (l.map (V.int .i64))),(7, .int .i64 l.length),(8, .int .i64 i)],h',nx⟩) (fun i=>l.length-i) 0 ⟨Nat.zero_le _,by simp⟩ ?_ ?_
 ·refine nV (by simp only[WkL,aB,jH,jI,jJ,go_sem,reduceIte,jA,jB,jC,jD,reduceCtorEq,jE,jF]) ?_ ?_
  ·exact Hp.le_refl _
  omega
 rintro i ⟨hi,hno⟩
 simp only[aB,go_sem,reduceIte,jA,jB,jC,jD,reduceCtorEq,jE,jF]
 refine wl ?_
 refine cP _ rfl (fun hc=>?_) (fun hc=>?_)
 ·have hlt:i<l.length:=by simpa using hc
  have hg:=cE (V.int .i64) l i hlt
  refine wle hg ?_
  rw[List.drop_eq_getElem_cons hlt] at hno
  refine cP _ rfl (fun hc=>?_) (fun hc=>?_)
  ·refine wl ?_
   refine bU ?_
   repeat (first|with_reducible refine gK ?_|with_reducible refine eL ?_|with_reducible refine fA ?_|with_reducible refine fB ?_)
   refine aG h' (Hp.le_refl _) ⟨?_,rfl⟩
   have:l[i]≠0:=by simpa using hc
   simp only[hno,orI,if_neg this,go_sem,reduceIte,jA,jB,jC,jD,reduceCtorEq,jE,jF]
  refine wl ?_
  have:l[i]=0:=by simpa using hc
  refine gL (i+1) ⟨by omega,by rw[hno];simp[orI,this]⟩ (by omega) ?_
  rw[bM (by omega) (by omega)]
  refine nV (by simp only[WkL,aB,jH,jI,jJ,go_sem,reduceIte,jA,jB,jC,jD,reduceCtorEq,jE,jF]) ?_ ?_
  ·exact Hp.le_refl _
  omega
 have hge:i=l.length:=by have:¬i<l.length:=by simpa using hc
                         omega
 refine lE ?_
 repeat (first|with_reducible refine iV ?_|with_reducible refine iD ?_|with_reducible refine iE ?_|with_reducible refine bQ (by decide) ?_|with_reducible refine gA ?_|with_reducible refine aO ?_)
 refine wl ?_
 refine bU (aG h' (Hp.le_refl _) ⟨?_,rfl⟩)
 simp only[go_sem,reduceIte,jA,jB,jC,jD,reduceCtorEq,jE,jF]
 rw[hno,hge,List.drop_length];rfl
section
variable{P:Program}{k:Sh}{α:Type}(e:α→V)(hfit:∀x,(e x).fits k=true)
include hfit
theorem aBo [DecidableEq α]{f:Nat}{ks:List LK}(hL:aH P f=some (LB.Equal k (.plain k ks)))(heq:∀x y,veq (.plain k ks) (e x) (e y)=some (decide (x=y)))(own own':Own)(a b:List α)(ha:a.length≤1000000000)(h:Hp):
 aZ P f [.sl k own (a.map e), .sl k own' (b.map e)] h (.bool (decide (a=b))):=by
 refine aU (fun L=>trivial) fun h' nx hh=>aD hL fun hd=>?_
 simp only[jL,jM,jA,jB,jN,jO,jP,jQ,V.undef]
 refine wle trivial ?_
 refine cP _ rfl (fun hc=>?_) (fun hc=>?_)
 ·refine wl ?_
  refine bU ?_
  repeat (first|with_reducible refine gK ?_|with_reducible refine eL ?_|with_reducible refine fA ?_|with_reducible refine fB ?_)
  refine aG h' (Hp.le_refl _) ⟨?_,rfl⟩
  have:a≠b:=by rintro rfl;simp at hc
  simp only[this,go_sem,reduceIte,jA,jB,jC,jD,reduceCtorEq,jE,jF]
 have hab:a.length=b.length:=by
  have:((a.length:Int))=b.length:=by simpa using hc
  omega
 refine wle trivial ?_
 refine mO (fun p:Nat×Nat=>p.1≤a.length∧a.take p.1=b.take p.1∧nx≤p.2) (fun p=>⟨aB 26 0 [(0, .sl k own (a.map e)),(1, .sl k own' (b.map e)),(12, .int .i64 a.length),(13, .int .i64 p.1)],h',p.2⟩) (fun p=>a.length-p.1) (0,nx) ⟨Nat.zero_le _,rfl,Nat.le_refl _⟩ ?_ ?_
 ·refine nV (by simp only[WkL,aB,jH,jI,jJ,go_sem,reduceIte,jA,jB,jC,jD,reduceCtorEq,jE,jF]) ?_ ?_
  ·exact Hp.le_refl _
  omega
 rintro⟨i,nx1⟩ ⟨hi,hno,hnx⟩
 simp only at hi hno hnx
 simp only[aB,go_sem,reduceIte,jA,jB,jC,jD,reduceCtorEq,jE,jF]
 refine wl ?_
 refine cP _ rfl (fun hc=>?_) (fun hc=>?_)
 ·have hlt:i<a.length:=by simpa using hc
  have hlt':i<b.length:=by omega
  have hg:=cE e a i hlt
  have hg':=cE e b i hlt'
  refine wl ?_
  refine eU rfl ?_
  have hveq:=heq a[i] b[i]
  refine dI rfl (by simp only[hg,hg',hveq,hfit,jG,Option.isSome_some,jK,go_sem,reduceIte,jA,jB,jC,jD,reduceCtorEq,jE,jF];try omega) ?_
  simp only[hg,hg',hveq,hfit,jG,jK,Option.getD_some,go_sem,reduceIte,jA,jB,jC,jD,reduceCtorEq,jE,jF]
  refine dH (dN ?_)
  simp only[go_sem,reduceIte,jA,jB,jC,jD,reduceCtorEq,jE,jF]
  refine aO ?_
  refine cP _ rfl (fun hc=>?_) (fun hc=>?_)
  ·refine wl ?_
   refine bU ?_
   repeat (first|with_reducible refine gK ?_|with_reducible refine eL ?_|with_reducible refine fA ?_|with_reducible refine fB ?_)
   refine aG h' (Hp.le_refl _) ⟨?_,rfl⟩
   have hne:a[i]≠b[i]:=by simpa using hc
   have:a≠b:=by rintro rfl;exact hne rfl
   simp only[this,go_sem,reduceIte,jA,jB,jC,jD,reduceCtorEq,jE,jF]
  refine wl ?_
  have he:a[i]=b[i]:=by simpa using hc
  refine gL (i+1,nx1+9) ⟨by simp only;omega,?_,by simp only;omega⟩ (by simp only;omega) ?_
  ·simp only
   rw[List.take_succ_eq_append_getElem hlt,List.take_succ_eq_append_getElem hlt',hno,he]
  rw[bM (by omega) (by omega)]
  refine nV (by simp only[WkL,aB,jH,jI,jJ,go_sem,reduceIte,jA,jB,jC,jD,reduceCtorEq,jE,jF]) ?_ ?_
  ·exact Hp.le_refl _
  omega
 have hge:i=a.length:=by have:¬i<a.length:=by simpa using hc
                         omega
 refine lE ?_
 repeat (first|with_reducible refine iV ?_|with_reducible refine iD ?_|with_reducible refine iE ?_|with_reducible refine bQ (by decide) ?_|with_reducible refine gA ?_|with_reducible refine aO ?_)
 refine wl ?_
 refine bU (aG h' (Hp.le_refl _) ⟨?_,rfl⟩)
 have:a=b:=by
  rw[hge,List.take_length] at hno
  rw[hno,hab,List.take_length]
 simp only[this,go_sem,reduceIte,jA,jB,jC,jD,reduceCtorEq,jE,jF]
end
def aKA(k:Sh)(own:Own)(es:List V)(nx:Nat)(h:Hp)(v:V)(h':Hp):Prop:=(own= .nil∧v= .sl k .nil []∧h'=h)∨(own≠ .nil∧∃id,nx≤id∧v= .sl k (.tok id) es∧h'=h.set id .tip)
theorem aDL{P:Program}{k:Sh}{f bs:Nat}(hL:aH P f=some (LB.Clone k bs))(hbs:bs≤140737)(own:Own)(es:List V)(hl:es.length≤1000000000)(hn:own= .nil→es=[])(h:Hp)(nx:Nat):
 aW P f [.sl k own es] h nx fun v h' _=>aKA k own es nx h v h':=by
 refine aD hL fun hd=>?_
 simp only[jL,jM,jA,jB,jN,jO,jP,jQ,V.undef]
 refine wl ?_
 by_cases ho:own= .nil
 ·subst ho
  refine cP _ rfl (fun hc=>?_) (fun hc=>?_)
  ·refine wl ?_
   refine bU ?_
   repeat (first|with_reducible refine gK ?_|with_reducible refine eL ?_|with_reducible refine fA ?_|with_reducible refine fB ?_)
   refine aG h (Hp.le_refl _) (.inl ⟨rfl,?_,rfl⟩)
   simp only[go_sem,reduceIte,jA,jB,jC,jD,reduceCtorEq,jE,jF]
  cases hc
 refine cP _ rfl (fun hc=>?_) (fun hc=>?_)
 ·exact absurd (by simpa using hc) ho
 have hb1:es.length*bs≤140737488355328:=aBx hl hbs
 repeat (first|with_reducible refine bI ?_|with_reducible refine cT ?_|with_reducible refine dZ ?_|with_reducible refine aO ?_|with_reducible refine bT ?_|with_reducible refine bN ?_|(refine eW rfl (by simp only[dX,hb1,go_sem,reduceIte,jA,jB,jC,jD,reduceCtorEq,jE,jF];try omega) ?_;simp only[dX,hb1,go_sem,reduceIte,jA,jB,jC,jD,reduceCtorEq,jE,jF])|(with_reducible refine dL ?_))
 refine bU (aG (h.set (nx+1) .tip) ?_ (.inr ⟨ho,nx+1,by omega,?_,rfl⟩))
 ·intro m b e
  have hm:∀b,h m=some b→m<nx:=fun b hb=>hd m b hb
  simp only[Hp.set_app,Hp.del_app] at e⊢
  split at e
  ·rename_i e1;rw[if_pos e1];exact e
  rename_i e1
  have:=hm _ e
  rw[if_neg e1,if_neg (by omega),if_neg (by omega)];exact e
 simp only[go_sem,reduceIte,jA,jB,jC,jD,reduceCtorEq,jE,jF]
theorem zR{P:Program}{k:Sh}{f bs:Nat}(hL:aH P f=some (LB.Clone k bs))(hbs:bs≤140737)(own:Own)(es:List V)(hl:es.length≤1000000000)(hn:own= .nil→es=[])(hnm:∀L,bP L es)(h:Hp):
 aZ P f [.sl k own es] h (V.sl k own es).loose:=by
 refine gN (fun L=>by cases own<;>simp[V.loose,V.names,hnm L,bP]) fun h' nx hh=>?_
 have c:=aDL hL hbs own es hl hn h' nx
 refine⟨c.1,fun K cargs hlv hr hv=>((c.mono (R':=fun v' h'' _=>v'.loose=(V.sl k own es).loose∧h'.le h'') ?_).2 K cargs hlv hr hv)⟩
 rintro v h'' nx' hnx (⟨rfl,rfl,rfl⟩|⟨ho,id,hid,rfl,rfl⟩)
 ·have he:=hn rfl
  subst he
  exact⟨rfl,Hp.le_refl _⟩
 refine⟨(by cases own<;>first|exact absurd rfl ho|rfl),kB (Hp.le_refl _) (aM.none (fun m b hm=>hlv m (hr.lt m b hm)) hid) _⟩
end Go.Proofs.YtecepaehmojpgaaGreat
namespace Go.Proofs.YtecepaehmojpgaaGreat
open Go.RowKit Go.Shelf
section
variable{P:Program}{Q:St→Prop}{s:St}{dst:Option Nat}{r:List aA}{x:aL}
theorem aJs(h:aV P r Q ⟨bF s.sl dst (.map s.nx),s.h.set s.nx (.mp [] 0),s.nx+1⟩):aV P (⟨dst,none, .mp .mk⟩::r) Q s:=h
theorem yO{n c:Nat}{es:List ME}(hx:x.ev s.sl= .map n)(hn:s.h n=some (.mp es c))(h:aV P r Q ⟨bF s.sl dst (.ptr s.nx .leaf 0 0),s.h.set s.nx (.mit n c [] c),s.nx+1⟩):aV P (⟨dst,none, .mp (.rng x)⟩::r) Q s:=by
 unfold aV
 simp only[LOp.run,LOp.sem,MOp.sem,hx,hn]
 exact h
theorem yQ{it m c since last:Nat}{seen:List Nat}{es:List ME}(hx:x.ev s.sl= .ptr it .leaf 0 0)(hi:s.h it=some (.mit m since seen last))(hm:s.h m=some (.mp es c))(hb:∀e∈es,e.b<since)(hl:since≤last)
 (h1:∀e∈es,e.b∉seen→aV P r Q ⟨bF s.sl dst (.tup [.bool true,e.k,e.v]),s.h.set it (.mit m since (seen++[e.b]) c),s.nx+1⟩) (h2:(∀e∈es,e.b∈seen)→aV P r Q ⟨bF s.sl dst (.tup [.bool false]),s.h,s.nx+1⟩):aV P (⟨dst,none, .mp (.nxt x)⟩::r) Q s:=by
 unfold aV
 simp only[LOp.run,LOp.sem,MOp.sem,hx,hi,hm]
 exact⟨hb,hl,h1,h2⟩
theorem yR{it m c since:Nat}{seen:List Nat}{es:List ME}(hx:x.ev s.sl= .ptr it .leaf 0 0)(hi:s.h it=some (.mit m since seen c))(hm:s.h m=some (.mp es c)){b:Nat}{e:ME}(hs:seen.getLast?=some b)(he:es.find? (fun e=>e.b==b)=some e)
 (h:aV P r Q ⟨bF s.sl dst (.tup [e.k,e.v]),s.h,s.nx+1⟩):aV P (⟨dst,none, .mp (.key x)⟩::r) Q s:=by
 unfold aV
 simp only[LOp.run,LOp.sem,MOp.sem,hx,hi,hm]
 exact⟨trivial,b,e,hs,he,h⟩
theorem yP{kS:Sh}{ks:List LK}{n c:Nat}{es:List ME}{k v:aL}{f:Option Nat}(hk:(k.ev s.sl).fits kS=true)(hx:x.ev s.sl= .map n)(hn:s.h n=some (.mp es c))(hf:eJ (.plain kS ks) (k.ev s.sl) es=some f)
 (h1:∀j,f=some j→aV P r Q ⟨bF s.sl dst V.undef,s.h.set n (.mp (es.set j ⟨k.ev s.sl,v.ev s.sl,(es.getD j default).b⟩) c),s.nx+1⟩) (h2:f=none→aV P r Q ⟨bF s.sl dst V.undef,s.h.set n (.mp (es++[⟨k.ev s.sl,v.ev s.sl,c⟩]) (c+1)),s.nx+1⟩):aV P (⟨dst,none, .mp (.put kS ks x k v)⟩::r) Q s:=by
 unfold aV
 simp only[LOp.run,LOp.sem,MOp.sem,hx,hn,hf]
 refine⟨hk,?_⟩
 cases f with
 |some j=>exact h1 j rfl
 |none=>exact h2 rfl
theorem aDh{kS:Sh}{ks:List LK}{n c j:Nat}{es:List ME}{k:aL}(hk:(k.ev s.sl).fits kS=true)(hx:x.ev s.sl= .map n)(hn:s.h n=some (.mp es c))(hf:eJ (.plain kS ks) (k.ev s.sl) es=some (some j))
 (h:aV P r Q ⟨bF s.sl dst V.undef,s.h.set n (.mp (es.eraseIdx j) c),s.nx+1⟩):aV P (⟨dst,none, .mp (.del kS ks x k)⟩::r) Q s:=by
 unfold aV
 simp only[LOp.run,LOp.sem,MOp.sem,hx,hn,hf]
 exact⟨hk,h⟩
end
section
variable{β:Type}(bn:β→Nat)
theorem aKx{l:List β}(hn:(l.map bn).Nodup){x y:β}(hx:x∈l)(hy:y∈l)(h:bn x=bn y):x=y:=by
 induction l with
 |nil=>cases hx
 |cons a l ih=>
  rw[List.map_cons,List.nodup_cons] at hn
  rcases List.mem_cons.1 hx with e1|h1
  ·rcases List.mem_cons.1 hy with e2|h2
   ·rw[e1,e2]
   exact absurd (List.mem_map.2 ⟨y,h2,by rw[←h,e1]⟩) hn.1
  rcases List.mem_cons.1 hy with e2|h2
  ·exact absurd (List.mem_map.2 ⟨x,h1,by rw[h,e2]⟩) hn.1
  exact ih hn.2 h1 h2
theorem nF{l:List β}(hn:(l.map bn).Nodup):l.Nodup:=by
 refine(List.pairwise_map.1 hn).imp ?_
 rintro a b h rfl
 exact h rfl
theorem aBW{l js:List β}(hl:(l.map bn).Nodup)(hj:(js.map bn).Nodup)(hs:∀y∈js,y∈l)(h:∀y∈l,bn y∈js.map bn):js.Perm l:=by
 rw[List.perm_ext_iff_of_nodup (nF bn hj) (nF bn hl)]
 intro y
 refine⟨hs y,fun hy=>?_⟩
 obtain⟨z,hz,hzy⟩:=List.mem_map.1 (h y hy)
 rw[aKx bn hl hy (hs z hz) hzy.symm];exact hz
theorem nG:∀{js l:List β},js.Nodup→(∀y∈js,y∈l)→js.length≤l.length
 | [],_,_,_=>Nat.zero_le _
 |y::js,l,hn,hs=>by
  obtain⟨a,b,rfl⟩:=List.append_of_mem (hs y (List.mem_cons_self ..))
  have hn:=List.nodup_cons.1 hn
  have:=nG (l:=a++b) hn.2 (fun z hz=>by
   have:=hs z (List.mem_cons_of_mem _ hz)
   rw[List.mem_append,List.mem_cons] at this
   rcases this with h|h|h
   ·exact List.mem_append.2 (.inl h)
   ·subst h;exact absurd hz hn.1
   exact List.mem_append.2 (.inr h))
  simp only[List.length_append,jL] at this⊢
  omega
theorem tX{l js:List β}(hj:(js.map bn).Nodup)(hs:∀y∈js,y∈l){y:β}(hy:y∈l)(hn:bn y∉js.map bn):js.length<l.length:=by
 have:=nG (js:=y::js) (l:=l) (List.nodup_cons.2 ⟨fun h=>hn (List.mem_map.2 ⟨y,h,rfl⟩),nF bn hj⟩) (fun z hz=>by
  rcases List.mem_cons.1 hz with rfl|hz
  ·exact hy
  exact hs z hz)
 simp only[jL] at this
 omega
theorem yF{js:List β}(hj:(js.map bn).Nodup){y:β}(hn:bn y∉js.map bn):((js++[y]).map bn).Nodup:=by
 rw[List.map_append,List.nodup_append]
 refine⟨hj,by simp,?_⟩
 intro a ha b hb hab
 simp only[List.map_cons,List.map_nil,List.mem_singleton] at hb
 subst hab;subst hb
 exact hn ha
end
theorem aCf{β:Type}(me:β→ME){l:List β}(hn:(l.map fun y=>(me y).b).Nodup){y:β}(hy:y∈l):(l.map me).find? (fun e=>e.b==(me y).b)=some (me y):=by
 induction l with
 |nil=>cases hy
 |cons a l ih=>
  rw[List.map_cons,List.nodup_cons] at hn
  rw[List.map_cons,List.find?_cons]
  rcases List.mem_cons.1 hy with rfl|hy
  ·simp
  have:((me a).b==(me y).b)=false:=by
   simp only[beq_eq_false_iff_ne,ne_eq]
   exact fun h=>hn.1 (List.mem_map.2 ⟨y,hy,h.symm⟩)
  rw[this]
  exact ih hn.2 hy
namespace LB
end LB
attribute [local irreducible] IntKind.wrap
end Go.Proofs.YtecepaehmojpgaaGreat
namespace Go.Proofs.YtecepaehmojpgaaGreat
open Go.RowKit Go.Shelf
theorem oT{P:Program}{ρ:Ren}(L:SlLaysW.n5 P ρ)(hen:fR P (ρ.f 5)=true)(m:Nat)(es:List ME)(c:Nat)(h:Hp)(nx:Nat)(hm:h m=some (.mp es c)):
 aW P (ρ.f 5) [.map m] h nx fun v h' nx'=>v= .map nx∧nx'=nx+1∧h'=h.set nx (.mp es c):=by
 refine⟨hen,fun K cargs hlv hr hv=>?_⟩
 obtain⟨hsz,hv⟩:=hv
 have hsz:cargs.size=1:=by simpa using hsz.symm
 obtain⟨c1,rfl⟩:∃c1,cargs=#[c1]:=⟨cargs[0],by
  apply Array.ext
  ·simp[hsz]
  intro i h1 h2
  have:i=0:=by simp at h2;omega
  subst this;rfl⟩
 have v1:=hv 0 (by simp)
 simp only[List.getD_cons_zero] at v1
 have e1:(#[c1]:Array Value).getD 0 Go.undef=c1:=rfl
 rw[e1] at v1
 cases v1
 obtain⟨ces,hh,hms⟩:=(hr.blk m _ hm).toMEs
 refine(AnyW.maps_Clone L (K.mu m) ces c K.w hh).mono ?_
 rintro e w' ⟨rfl,rfl⟩
 have hfresh:¬K.live nx:=fun hl=>by have:=hlv _ hl;omega
 have hmu:(K.push nx (.map ces c) 0).mu nx=K.w.heap.size:=by simp[Ker.push]
 have hle:=K.le_push nx hfresh (.map ces c) 0
 obtain⟨h1,h2,h3⟩:=hr.newBlk hfresh (o:= .map ces c) (b:= .mp es c) (.ofMEs (by rw[hmu];exact cQ _ _) (hms.monoV hle.toV))
 have hv:=VR.map (K:=K.push nx (.map ces c) 0) nx (.inl rfl)
 rw[hmu] at hv
 refine⟨K.push nx (.map ces c) 0, .map nx,_,h.set nx (.mp es c),nx+1,by simp[Ker.push],rfl,h1,hv,h3,?_,Nat.le_succ _,rfl,rfl,rfl⟩
 intro q hq
 rcases h2 q hq with hq|rfl
 ·have:=hlv q hq;exact⟨by omega, .inl hq⟩
 exact⟨Nat.lt_succ_self _, .inr (Nat.le_refl _)⟩
end Go.Proofs.YtecepaehmojpgaaGreat
namespace Go.Proofs.YtecepaehmojpgaaGreat
open Go.RowKit
theorem rH{K:Ker}{h:Hp}(hr:Rel K h){n a:Nat}{k:Sh}{es:List V}{off len:Nat}{cv:Value}(hn:h n=some (.arr k es))(ha:¬K.live a)(hb0:off+len≤es.length)(hv:VR K (.rs n k off len) cv):
 ∃K',K'.w=K.w∧K.le K'∧(∀m,K'.live m→K.live m∨m=a)∧VR K' (.sl k .free ((es.drop off).take len)) cv∧Rel K' (h.del n):=by
 have hb:=hr.blk n _ hn
 cases hb with
 |arr _ _ c T hh hcs himm hfit hcv=>
  cases hv with
  |rs _ _ _ _ cap hl hcap hm=>
   obtain⟨T',m,hm1,hm2⟩:=hm
   have hcm:m=c.size:=by simp[World.shape?,hh] at hm1;exact hm1.2.symm
   subst hcm
   have hblk:K.mu n<K.w.heap.size:=by
    rcases Nat.lt_or_ge (K.mu n) K.w.heap.size with hlt|hge
    ·exact hlt
    rw[Array.getElem?_eq_none hge] at hh;exact absurd hh (by simp)
   have hle:K.le (K.claim a (K.mu n) (es.length*k.size)):=K.le_claim ha (by rw[himm];exact Nat.zero_le _)
   have hmu:(K.claim a (K.mu n) (es.length*k.size)).mu a=K.mu n:=by simp[Ker.claim]
   have hrel:Rel (K.claim a (K.mu n) (es.length*k.size)) ((h.del n).set a .tip):=hr.claim hn ha (by rw[himm];exact Nat.zero_le _) (.tip c T (by rw[hmu];exact hh) (by simp[Ker.claim]) (by simp only[Ker.claim,if_true];exact hcs))
   have hlen:((es.drop off).take len).length=len:=by simp;omega
   have hsz:(off+len)*k.size≤es.length*k.size:=Nat.mul_le_mul_right _ hb0
   rw[Nat.add_mul] at hsz
   have hget:∀i,i<len→((es.drop off).take len).getD i V.undef=es.getD (off+i) V.undef:=fun i hi=>by
    rw[List.getD_eq_getElem?_getD,List.getD_eq_getElem?_getD,List.getElem?_take_of_lt hi,List.getElem?_drop]
   refine⟨K.claim a (K.mu n) (es.length*k.size),rfl,hle,fun m hm=>hm.symm,?_,hrel.weaken fun m b e=>?_⟩
   ·have:=VR.sl (K:=K.claim a (K.mu n) (es.length*k.size)) k .free ((es.drop off).take len) (K.mu n) (off*k.size) cap (fun j=>c.getD (off*k.size+j) Go.undef) hblk (fun e he=>hfit e (List.mem_of_mem_drop (List.mem_of_mem_take he)))
     (fun j hj=>by
       rw[hlen] at hj
       show K.w.cell? _=_
       simp only[World.cell?,hh]
       rw[Array.getD_eq_getD_getElem?,Array.getElem?_eq_getElem (by omega)]
       rfl)
     (fun j hj=> .inr (by rw[hlen] at hj;simp only[Ker.claim,if_true];omega))
     (fun i hi j hj=>by
       rw[hlen] at hi
       rw[hget i hi]
       have:=(hcv (off+i) (by omega) j hj).mono hle
       rwa [Nat.add_mul,Nat.add_assoc] at this) (by rw[hlen];exact hcap) (by simp) (by simp)
     (fun m hm=>by cases hm)
    rw[hlen] at this
    exact this
   unfold Hp.del at e
   unfold Hp.set Hp.del
   by_cases e1:m=n
   ·rw[if_pos e1] at e;cases e
   rw[if_neg e1] at e
   have hma:m≠a:=fun e2=>ha (e2▸hr.lt m b e)
   rw[if_neg hma,if_neg e1];exact e
theorem tN{P:Program}{f:FuncId}{args:List V}{h:Hp}{nx n:Nat}{k:Sh}{G:List V→Prop}
 (c:aW P f args h nx fun v h' _=>∃off len es,v= .rs n k off len∧off+len≤es.length∧h'=h.set n (.arr k es)∧G ((es.drop off).take len)):
 aW P f args h nx fun v h' _=>∃es,v= .sl k .free es∧h'=h.del n∧G es:=by
 refine⟨c.1,fun K cargs hl hr hv=>(c.2 K cargs hl hr hv).mono ?_⟩
 rintro e w' ⟨K',v,cv,h',nx',rfl,he,hle,hvr,hrel,hlv,hnx,off,len,es,rfl,hb,rfl,hG⟩
 have hfr:¬K'.live nx':=fun hh=>Nat.lt_irrefl _ (hlv nx' hh).1
 have hset:(h.set n (.arr k es)) n=some (.arr k es):=by simp[Hp.set]
 obtain⟨K'',q1,q2,q3,q4,q5⟩:=rH hrel hset hfr hb hvr
 have hh:(h.set n (.arr k es)).del n=h.del n:=by
  funext x
  unfold Hp.set Hp.del
  by_cases e1:x=n
  ·simp[e1]
  simp[e1]
 rw[hh] at q5
 refine⟨K'',_,cv,_,nx'+1,q1,he,hle.trans q2,q4,q5,fun m hm=>?_,by omega,_,rfl,rfl,hG⟩
 rcases q3 m hm with hm|rfl
 ·exact⟨by have:=(hlv m hm).1;omega,(hlv m hm).2⟩
 exact⟨by omega, .inr hnx⟩
theorem Rel.reblk{K:Ker}{h:Hp}(r:Rel K h){n:Nat}{b0 b1:Blk}(hn:h n=some b0)(hb:BR K n b1):Rel K (h.set n b1) where
 lt m b e:=by
  unfold Hp.set at e
  split at e
  ·rename_i em;subst em;exact r.lt m b0 hn
  exact r.lt m b e
 base m b e:=by
  unfold Hp.set at e
  split at e
  ·rename_i em;subst em;exact r.base m b0 hn
  exact r.base m b e
 blk m b e:=by
  unfold Hp.set at e
  split at e
  ·rename_i em;subst em;injection e with e;subst e;exact hb
  exact r.blk m b e
 inj m m' b b' e e' em:=by
  unfold Hp.set at e e'
  split at e<;>split at e'
  ·rename_i e1 e2;rw[e1,e2]
  ·rename_i e1 _;subst e1;exact r.inj m m' b0 b' hn e' em
  ·rename_i _ e2;subst e2;exact r.inj m m' b b0 e hn em
  exact r.inj m m' b b' e e' em
 size:=r.size
theorem aDw{K:Ker}{h:Hp}(hr:Rel K h){O m a i:Nat}{k:Sh}{es ls:List V}{off len:Nat}(hO:h O=some (.arr .leaf es))(hi:i<es.length)(he:es[i]= .rs m k off len)(hm:h m=some (.arr k ls))(hne:O≠m)(ha:¬K.live a)(hb0:off+len≤ls.length):
 ∃K',K'.w=K.w∧K.le K'∧(∀x,K'.live x→K.live x∨x=a)∧Rel K' ((h.del m).set O (.arr .leaf (es.set i (.sl k .free ((ls.drop off).take len))))):=by
 have hb:=hr.blk O _ hO
 cases hb with
 |arr _ _ c T hh hcs himm hfit hcv=>
  have hg:es.getD i V.undef= .rs m k off len:=by rw[List.getD_eq_getElem?_getD,List.getElem?_eq_getElem hi];exact he
  have h0:=hcv i hi 0 (by simp[Sh.size])
  rw[hg] at h0
  have hv:VR K (.rs m k off len) (c.getD (i*Sh.leaf.size+0) Go.undef):=h0
  obtain⟨K',q1,q2,q3,q4,q5⟩:=rH hr hm ha hb0 hv
  refine⟨K',q1,q2,q3,?_⟩
  have hO':(h.del m) O=some (.arr .leaf es):=by unfold Hp.del;rw[if_neg hne];exact hO
  have hmu:K'.mu O=K.mu O:=q2.mu O (hr.lt O _ hO)
  have hb':=q5.blk O _ hO'
  have himm':K'.imm (K'.mu O)=0:=by
   cases hb' with
   |arr _ _ c' T' hh' hcs' himm' hfit' hcv'=>exact himm'
  refine q5.reblk hO' (.arr .leaf _ c T (by rw[hmu,q1];exact hh) (by simpa using hcs) himm' ?_ ?_)
  ·intro e hx
   rcases List.mem_or_eq_of_mem_set hx with hx|rfl
   ·exact hfit e hx
   rfl
  intro j hj x hx
  have hj':j<es.length:=by simpa using hj
  by_cases e:j=i
  ·subst e
   have hx0:x=0:=by simp[Sh.size] at hx;exact hx
   subst hx0
   rw[List.getD_eq_getElem?_getD,List.getElem?_set_self hi]
   exact q4
  have:(es.set i (.sl k .free ((ls.drop off).take len))).getD j V.undef=es.getD j V.undef:=by
   rw[List.getD_eq_getElem?_getD,List.getD_eq_getElem?_getD,List.getElem?_set_ne (by omega)]
  rw[this]
  exact(hcv j hj' x hx).mono q2
def tG(k:Sh)(m:Nat)(l:List V):V:=if l.isEmpty=true then .sl k .nil [] else .rs m k 0 l.length
structure aAf(h:Hp)(O:Nat)(k:Sh)(ν:Nat→Nat)(ls:List (List V))(j:Nat)(es:List V):Prop where
 blk:h O=some (.arr .leaf es)
 len:es.length=ls.length
 old:∀i (hi:i<ls.length) (hi':i<es.length),i<j→es[i]=lst k ls[i]
 new:∀i (hi:i<ls.length) (hi':i<es.length),j≤i→es[i]=tG k (ν i) ls[i]
 mem:∀i (hi:i<ls.length),j≤i→ls[i]≠ []→h (ν i)=some (.arr k ls[i])∧ν i≠O
 apart:∀i i' (hi:i<ls.length) (hi':i'<ls.length),j≤i→i<i'→ls[i]≠ []→ls[i']≠ []→ν i≠ν i'
theorem pB{k:Sh}{O:Nat}{ν:Nat→Nat}{ls:List (List V)}:∀(r j:Nat) (K:Ker) (h:Hp) (es:List V) (b:Nat),r+j=ls.length→Rel K h→aAf h O k ν ls j es→(∀x,K.live x→x<b)→
 ∃K' h2,K'.w=K.w∧K.le K'∧(∀x,K'.live x→x<b+r∧(K.live x∨b≤x))∧Rel K' h2∧h2 O=some (.arr .leaf (ls.map (lst k)))∧∀x,x≠O→(∀i (hi:i<ls.length),ls[i]≠ []→x≠ν i)→h2 x=h x
 |0,j,K,h,es,b,hj,hr,R,hb=>by
  refine⟨K,h,rfl, .refl K,fun x hx=>⟨hb x hx, .inl hx⟩,hr,?_,fun _ _ _=>rfl⟩
  rw[R.blk]
  congr 2
  refine List.ext_getElem (by simpa using R.len) fun i h1 h2=>?_
  have hi:i<ls.length:=by simpa using h2
  rw[R.old i hi h1 (by omega)]
  simp
 |r+1,j,K,h,es,b,hj,hr,R,hb=>by
  have hjl:j<ls.length:=by omega
  have hje:j<es.length:=by rw[R.len];exact hjl
  have hcell:=R.new j hjl hje (Nat.le_refl _)
  by_cases hemp:ls[j]=[]
  ·--nothing is to be done
   have R':aAf h O k ν ls (j+1) es:=by
    refine⟨R.blk,R.len,fun i hi hi' hij=>?_,fun i hi hi' hij=>R.new i hi hi' (by omega),fun i hi hij=>R.mem i hi (by omega),fun i i' hi hi' hij=>R.apart i i' hi hi' (by omega)⟩
    by_cases e:i=j
    ·subst e
     rw[hcell,hemp];rfl
    exact R.old i hi hi' (by omega)
   obtain⟨K',h2,q1,q2,q3,q4,q5,q6⟩:=pB r (j+1) K h es b (by omega) hr R' hb
   exact⟨K',h2,q1,q2,fun x hx=>⟨by have:=(q3 x hx).1;omega,(q3 x hx).2⟩,q4,q5,q6⟩
  have hc:es[j]= .rs (ν j) k 0 ls[j].length:=by
   rw[hcell];unfold tG
   cases e:ls[j] with
   |nil=>exact absurd e hemp
   |cons=>rfl
  obtain⟨hm,hmo⟩:=R.mem j hjl (Nat.le_refl _) hemp
  obtain⟨K1,q1,q2,q3,q4⟩:=aDw hr R.blk hje hc hm (fun e=>hmo e.symm) (fun hl=>Nat.lt_irrefl _ (hb b hl)) (by simp)
  have hfz:(.sl k .free ((ls[j].drop 0).take ls[j].length):V)=lst k ls[j]:=by
   simp only[List.drop_zero,List.take_length]
   cases e:ls[j] with
   |nil=>exact absurd e hemp
   |cons=>rfl
  rw[hfz] at q4
  have hset:∀x,x≠O→x≠ν j→((h.del (ν j)).set O (.arr .leaf (es.set j (lst k ls[j])))) x=h x:=fun x h1 h2=>by
   unfold Hp.set Hp.del;rw[if_neg h1,if_neg h2]
  have R':aAf ((h.del (ν j)).set O (.arr .leaf (es.set j (lst k ls[j])))) O k ν ls (j+1) (es.set j (lst k ls[j])):=by
   refine⟨by unfold Hp.set;rw[if_pos rfl],by simpa using R.len,fun i hi hi' hij=>?_,fun i hi hi' hij=>?_,fun i hi hij hne=>?_,fun i i' hi hi' hij=>R.apart i i' hi hi' (by omega)⟩
   ·by_cases e:i=j
    ·subst e;simp
    rw[List.getElem_set_ne (by omega)];exact R.old i hi _ (by omega)
   ·rw[List.getElem_set_ne (by omega)];exact R.new i hi _ (by omega)
   obtain⟨k1,k2⟩:=R.mem i hi (by omega) hne
   exact⟨(hset _ k2 fun e=>R.apart j i hjl hi (Nat.le_refl _) (by omega) hemp hne e.symm).trans k1,k2⟩
  obtain⟨K',h2,p1,p2,p3,p4,p5,p6⟩:=pB r (j+1) K1 _ _ (b+1) (by omega) q4 R' (fun x hx=>by
   rcases q3 x hx with h|h
   ·have:=hb x h;omega
   omega)
  refine⟨K',h2,p1.trans q1,q2.trans p2,fun x hx=>⟨by have:=(p3 x hx).1;omega,?_⟩,p4,p5,fun x h1 h2'=>(p6 x h1 h2').trans (hset x h1 (h2' j hjl hemp))⟩
  rcases(p3 x hx).2 with h|h
  ·rcases q3 x h with h|h
   ·exact .inl h
   exact .inr (by omega)
  exact .inr (by omega)
theorem rS{P:Program}{f:FuncId}{args:List V}{h:Hp}{nx:Nat}{k:Sh}{G:List (List V)→Prop}
 (c:aW P f args h nx fun v h' _=>∃O ν ls es,v= .rs O .leaf 0 ls.length∧nx≤O∧(∀i (hi:i<ls.length),ls[i]≠ []→nx≤ν i)∧aAf h' O k ν ls 0 es∧(∀x,x<nx→h' x=h x)∧G ls):
 aW P f args h nx fun v h' _=>∃ls,v= .sl .leaf .free (ls.map (lst k))∧h'=h∧G ls:=by
 refine⟨c.1,fun K cargs hl hr hv=>(c.2 K cargs hl hr hv).mono ?_⟩
 rintro e w' ⟨K',v,cv,h',nx',rfl,he,hle,hvr,hrel,hlv,hnx,O,ν,ls,es,rfl,hO,hν,R,hold,hG⟩
 obtain⟨K1,h2,p1,p2,p3,p4,p5,p6⟩:=pB ls.length 0 K' h' es nx' (by omega) hrel R (fun x hx=>(hlv x hx).1)
 have hvr1:=hvr.mono p2
 obtain⟨K2,q1,q2,q3,q4,q5⟩:=rH p4 p5 (a:=nx'+ls.length) (fun hl=>by have:=(p3 _ hl).1;omega) (by simp) hvr1
 have hsl:(((ls.map (lst k)).drop 0).take ls.length)=ls.map (lst k):=by
  rw[List.drop_zero,List.take_of_length_le (by simp)]
 rw[hsl] at q4
 refine⟨K2,_,cv,h,nx'+ls.length+1,q1.trans p1,he,hle.trans (p2.trans q2),q4,q5.weaken fun m b hm=>?_,fun x hx=>?_,by omega,ls,rfl,rfl,hG⟩
 ·have hmn:m<nx:=hl m (hr.lt m b hm)
  unfold Hp.del
  rw[if_neg (by omega),p6 m (by omega) (fun i hi hne=>by have:=hν i hi hne;omega),hold m hmn]
  exact hm
 rcases q3 x hx with h|h
 ·have h1:=p3 x h
  refine⟨by omega,?_⟩
  rcases h1.2 with h2|h2
  ·exact(hlv x h2).2
  exact .inr (by omega)
 exact⟨by omega, .inr (by omega)⟩
theorem aJd{P:Program}{f:FuncId}{args:List V}{h:Hp}{c:Option Con}{v:Nat→V}{k:Sh}{es:List V}(hm:aIX v)(hv:∀L,bP L es)(hvn:∀(L:Nat→Prop) n,L n→(v n).names L)
 (hcond:∀c',c=some c'→c'.new=none∧(∃k es,c'.old= .arr k es)∧h c'.n=some c'.old) (hc:∀h' nx,h.has h'→aW P f args h' nx fun v' h'' _=>∃id,nx≤id∧v'=v id∧h''=(h'.turn c).set id (.arr k es)):aHp P f args h c v k es:=by
 refine⟨hm,hv,hcond,?_⟩
 intro h' nx hh
 have cc:=hc h' nx hh
 refine⟨cc.1,fun K cargs hlv hrel hargs=>(cc.2 K cargs hlv hrel hargs).mono ?_⟩
 rintro e w' ⟨K',v',cv,h'',nx',rfl,he,hle,hvr,hrel',hlv',hnx,id,hid,rfl,rfl⟩
 have hdom:∀n b,h' n=some b→n<nx:=fun n b e=>hlv n (hrel.lt n b e)
 have h1le:(h'.turn c).le h':=fun n b e=>by
  cases c with
  |none=>exact e
  |some c'=>
   have:=(hcond c' rfl).1
   simp only[Hp.turn,this,Hp.del] at e
   split at e
   ·cases e
   exact e
 generalize h'.turn c=h1 at h1le hrel'
 have hset:(h1.set id (.arr k es)) id=some (.arr k es):=by simp[Hp.set]
 have hoth:∀n b,n≠id→(h1.set id (.arr k es)) n=some b→h' n=some b:=fun n b hne e=>by
  unfold Hp.set at e;rw[if_neg hne] at e;exact h1le n b e
 have hle1:K.le (K'.only fun n=>(K'.live n∧n<nx)∨n=id):=⟨fun n hn=> .inl ⟨hle.live n hn,hlv n hn⟩,hle.mu,hle.tp,hle.fro,hle.imm,hle.cell,hle.shape,hle.below⟩
 have hlid:K'.live id:=hrel'.lt id _ hset
 have hrelA:Rel (K'.only fun n=>(K'.live n∧n<nx)∨n=id) (h1.set id (.arr k es)):=by
  refine⟨fun n b e=>?_,hrel'.base,fun n b e=>?_,hrel'.inj,hrel'.size⟩
  ·by_cases hne:n=id
   ·exact .inr hne
   have e':=hoth n b hne e
   exact .inl ⟨hle.live n (hrel.lt n b e'),hdom n b e'⟩
  have hb':=hrel'.blk n b e
  cases hb' with
  |tip c T hh hi ht=>exact .tip c T hh hi ht
  |obj o U hh ho _ hU=>
   have hne:n≠id:=by rintro rfl;rw[hset] at e;cases e
   have hb:=hrel.blk n _ (hoth n _ hne e)
   cases hb with
   |obj _ _ _ _ hu _=>exact .obj o U hh ho (hU _ _ hle1.toV hu) hU
  |mp es c ces hh hl hvv=>
   have hne:n≠id:=by rintro rfl;rw[hset] at e;cases e
   have hb:=hrel.blk n _ (hoth n _ hne e)
   cases hb with
   |mp _ _ ces0 hh0 hl0 hv0=>exact .mp es c ces hh hl fun i hi=>⟨(hvv i hi).1.only _ (cA (fun m hm=> .inl ⟨hle.live m hm,hlv m hm⟩) (hv0 i hi).1.names),(hvv i hi).2.1.only _ (cA (fun m hm=> .inl ⟨hle.live m hm,hlv m hm⟩) (hv0 i hi).2.1.names),(hvv i hi).2.2⟩
  |mit m since seen last hh hm=>
   have hne:n≠id:=by rintro rfl;rw[hset] at e;cases e
   have hb:=hrel.blk n _ (hoth n _ hne e)
   cases hb with
   |mit _ _ _ _ hh0 hm0=>exact .mit m since seen last hh (.inl ⟨hle.live m hm0,hlv m hm0⟩)
  |arr k2 es2 c T hh hsz hi hfit hvs=>
   by_cases hne:n=id
   ·subst hne
    rw[hset] at e
    injection e with e
    injection e with e1 e2
    subst e1 e2
    exact .arr k es c T hh hsz hi hfit fun i hi j hj=>(hvs i hi j hj).only _ (lD (dY (hv _) i) j)
   refine .arr k2 es2 c T hh hsz hi hfit fun i hi j hj=>(hvs i hi j hj).only _ ?_
   have hb:=hrel.blk n _ (hoth n _ hne e)
   cases hb with
   |arr _ _ c0 T0 hh0 hsz0 hi0 hfit0 hvs0=>exact cA (fun m hm=> .inl ⟨hle.live m hm,hlv m hm⟩) (hvs0 i hi j hj).names
 have hvrA:VR (K'.only fun n=>(K'.live n∧n<nx)∨n=id) (v id) cv:=hvr.only _ (hvn _ _ (.inr rfl))
 by_cases hidn:id=nx
 ·subst hidn
  refine⟨K'.only fun n=>(K'.live n∧n<id)∨n=id,_,cv,_,id+1,rfl,he,hle1,hvrA,hrelA,fun n hn=>?_,by omega,rfl,rfl,rfl⟩
  rcases hn with hn|hn
  ·exact⟨by omega,(hlv' n hn.1).2⟩
  exact⟨by omega, .inr (by omega)⟩
 have hfr:¬((K'.live nx∧nx<nx)∨nx=id):=fun h=>h.elim (fun h=>Nat.lt_irrefl _ h.2) (fun h=>hidn h.symm)
 generalize hKA:(K'.only fun n=>(K'.live n∧n<nx)∨n=id)=KA at hle1 hrelA hvrA
 have hfr':¬KA.live nx:=by rw[←hKA];exact hfr
 have hbr:=hrelA.blk id _ hset
 have hle2:=KA.le_claim (b:=KA.mu id) (m:=KA.imm (KA.mu id)) hfr' (Nat.le_refl _)
 have hrelB:=hrelA.claim hset (a:=nx) (m:=KA.imm (KA.mu id)) hfr' (Nat.le_refl _) (b1:= .arr k es) (by
  cases hbr with
  |arr _ _ c T hh hsz hi hfit hvs=>exact .arr k es c T (by simpa [Ker.claim] using hh) hsz (by simpa [Ker.claim] using hi) hfit fun i hi j hj=>(hvs i hi j hj).mono hle2)
 have hn0:h1 id=none:=by
  cases e:h1 id with
  |none=>rfl
  |some b=>have:=hdom id b (h1le id b e);omega
 have hdel:((h1.set id (.arr k es)).del id).set nx (.arr k es)=h1.set nx (.arr k es):=by
  funext x
  unfold Hp.set Hp.del
  by_cases e1:x=nx
  ·simp[e1]
  by_cases e2:x=id
  ·simp[e1,e2,hn0]
  simp[e1,e2]
 rw[hdel] at hrelB
 have hvrC:=hm KA id nx cv (fun n=>(K'.live n∧n<nx)∨n=nx) hfr' (.inr rfl) hvrA
 have hleC:K.le ((KA.claim nx (KA.mu id) (KA.imm (KA.mu id))).only fun n=>(K'.live n∧n<nx)∨n=nx):=by
  have:=hle1.trans hle2
  exact⟨fun n hn=> .inl ⟨hle.live n hn,hlv n hn⟩,this.mu,this.tp,this.fro,this.imm,this.cell,this.shape,this.below⟩
 have hothB:∀n b,n≠nx→(h1.set nx (.arr k es)) n=some b→h' n=some b:=fun n b hne e=>by
  unfold Hp.set at e;rw[if_neg hne] at e;exact h1le n b e
 have hsetB:(h1.set nx (.arr k es)) nx=some (.arr k es):=by simp[Hp.set]
 refine⟨(KA.claim nx (KA.mu id) (KA.imm (KA.mu id))).only fun n=>(K'.live n∧n<nx)∨n=nx,_,cv,_,nx+1,?_,he,hleC,hvrC,?_,fun n hn=>?_,by omega,rfl,rfl,rfl⟩
 ·rw[←hKA];rfl
 ·refine⟨fun n b e=>?_,hrelB.base,fun n b e=>?_,hrelB.inj,hrelB.size⟩
  ·by_cases hne:n=nx
   ·exact .inr hne
   have e':=hothB n b hne e
   exact .inl ⟨hle.live n (hrel.lt n b e'),hdom n b e'⟩
  have hb':=hrelB.blk n b e
  cases hb' with
  |tip c T hh hi ht=>exact .tip c T hh hi ht
  |obj o U hh ho _ hU=>
   have hne:n≠nx:=by rintro rfl;rw[hsetB] at e;cases e
   have hb:=hrel.blk n _ (hothB n _ hne e)
   cases hb with
   |obj _ _ _ _ hu _=>exact .obj o U hh ho (hU _ _ hleC.toV hu) hU
  |mp es c ces hh hl hvv=>
   have hne:n≠nx:=by rintro rfl;rw[hsetB] at e;cases e
   have hb:=hrel.blk n _ (hothB n _ hne e)
   cases hb with
   |mp _ _ ces0 hh0 hl0 hv0=>exact .mp es c ces hh hl fun i hi=>⟨(hvv i hi).1.only _ (cA (fun m hm=> .inl ⟨hle.live m hm,hlv m hm⟩) (hv0 i hi).1.names),(hvv i hi).2.1.only _ (cA (fun m hm=> .inl ⟨hle.live m hm,hlv m hm⟩) (hv0 i hi).2.1.names),(hvv i hi).2.2⟩
  |mit m since seen last hh hm=>
   have hne:n≠nx:=by rintro rfl;rw[hsetB] at e;cases e
   have hb:=hrel.blk n _ (hothB n _ hne e)
   cases hb with
   |mit _ _ _ _ hh0 hm0=>exact .mit m since seen last hh (.inl ⟨hle.live m hm0,hlv m hm0⟩)
  |arr k2 es2 c T hh hsz hi hfit hvs=>
   by_cases hne:n=nx
   ·subst hne
    rw[hsetB] at e
    injection e with e
    injection e with e1 e2
    subst e1 e2
    exact .arr k es c T hh hsz hi hfit fun i hi j hj=>(hvs i hi j hj).only _ (lD (dY (hv _) i) j)
   refine .arr k2 es2 c T hh hsz hi hfit fun i hi j hj=>(hvs i hi j hj).only _ ?_
   have hb:=hrel.blk n _ (hothB n _ hne e)
   cases hb with
   |arr _ _ c0 T0 hh0 hsz0 hi0 hfit0 hvs0=>exact cA (fun m hm=> .inl ⟨hle.live m hm,hlv m hm⟩) (hvs0 i hi j hj).names
 rcases hn with hn|hn
 ·exact⟨by omega,(hlv' n hn.1).2⟩
 exact⟨by omega, .inr (by omega)⟩
theorem aGA(k:Sh)(len:Nat)(b:Bool):aIX fun a=> .tup [.rs a k 0 len, .bool b]:=by
 intro K a a' cv L ha hL hvr
 cases hvr with
 |tup cs ccs hl hv=>
  refine .tup _ ccs (by simpa using hl) fun i hi=>?_
  have hi2:i=0∨i=1:=by simp at hi;omega
  rcases hi2 with rfl|rfl
  ·have h0:VR K (.rs a k 0 len) (ccs.getD 0 Go.undef):=hv 0 (by simp)
   show VR _ (.rs a' k 0 len) (ccs.getD 0 Go.undef)
   generalize ccs.getD 0 Go.undef=x at h0
   cases h0 with
   |rs _ _ _ _ cap hl hcap hsh=>
    have hmu:((K.claim a' (K.mu a) (K.imm (K.mu a))).only L).mu a'=K.mu a:=by simp[Ker.claim,Ker.only]
    have:=VR.rs (K:=(K.claim a' (K.mu a) (K.imm (K.mu a))).only L) a' k 0 len cap hL hcap (by rw[hmu];exact hsh)
    rw[hmu] at this
    exact this
  have h1:VR K (.bool b) (ccs.getD 1 Go.undef):=hv 1 (by simp)
  show VR _ (.bool b) (ccs.getD 1 Go.undef)
  generalize ccs.getD 1 Go.undef=x at h1
  cases h1
  exact .bool b
end Go.Proofs.YtecepaehmojpgaaGreat
namespace Go.Proofs.YtecepaehmojpgaaGreat
inductive fU{α:Type}(E:α→α→Prop):α→α→Prop where
 |one {a b:α}:E a b→fU E a b
 |cons {a b c:α}:E a b→fU E b c→fU E a c
namespace fU
variable{α:Type}{E F:α→α→Prop}
theorem trans{a b c:α}(h:fU E a b)(k:fU E b c):fU E a c:=by
 induction h with
 |one e=>exact .cons e k
 |cons e _ ih=>exact .cons e (ih k)
theorem snoc{a b c:α}(h:fU E a b)(e:E b c):fU E a c:=h.trans (.one e)
theorem mono(hs:∀a b,E a b→F a b){a b:α}(h:fU E a b):fU F a b:=by
 induction h with
 |one e=>exact .one (hs _ _ e)
 |cons e _ ih=>exact .cons (hs _ _ e) ih
theorem last{a b:α}(h:fU E a b):∃c,E c b∧(c=a∨fU E a c):=by
 induction h with
 |one e=>exact⟨_,e, .inl rfl⟩
 |cons e k ih=>
  obtain⟨c,hc,hh⟩:=ih
  rcases hh with rfl|hh
  ·exact⟨_,hc, .inr (.one e)⟩
  exact⟨c,hc, .inr (.cons e hh)⟩
theorem closed{S:α→Prop}(hS:∀a b,S a→E a b→S b){a b:α}(h:fU E a b)(ha:S a):S b:=by
 induction h with
 |one e=>exact hS _ _ ha e
 |cons e _ ih=>exact ih (hS _ _ ha e)
end fU
theorem lC:∀(n:Nat) (l:List Nat),l.Nodup→(∀x∈l,x<n)→l.length≤n
 |0,l,_,h=>by
  cases l with
  |nil=>exact Nat.le_refl _
  |cons x l=>exact absurd (h x (by simp)) (by omega)
 |n+1,l,hn,h=>by
  have h1:=lC n (l.filter (fun x=>x≠n)) (hn.filter _) (fun x hx=>by
   simp only[List.mem_filter,decide_eq_true_eq,ne_eq,decide_not,Bool.not_eq_true',decide_eq_false_iff_not] at hx
   have:=h x hx.1
   omega)
  have h2:l.length≤(l.filter (fun x=>x≠n)).length+1:=by
   clear h h1
   induction l with
   |nil=>simp
   |cons x l ih=>
    rw[List.nodup_cons] at hn
    by_cases e:x=n
    ·subst e
     have:l.filter (fun y=>y≠x)=l:=List.filter_eq_self.2 (fun y hy=>by
      simp only[ne_eq,decide_not,Bool.not_eq_true',decide_eq_false_iff_not]
      rintro rfl
      exact hn.1 hy)
     simp only[ne_eq,decide_not] at this
     simp[this]
    have:=ih hn.2
    simp[e]
    simpa using this
  omega
theorem aGx{n:Nat}{l:List Nat}(hn:l.Nodup)(h:∀x∈l,x<n)(hl:n≤l.length)(x:Nat)(hx:x<n):x∈l:=by
 refine Decidable.byContradiction fun hm=>?_
 have:=lC n (x::l) (List.nodup_cons.2 ⟨hm,hn⟩) (fun y hy=>by
  rcases List.mem_cons.1 hy with rfl|hy
  ·exact hx
  exact h y hy)
 simp at this
 omega
theorem aBQ{n:Nat}{E:Nat→Nat→Prop}{S:Nat→Prop}(hS:∀x,S x→x<n∧∃y,S y∧E y x)(x:Nat)(hx:S x):∃y,fU E y y:=by
 --a walk back of any length
 have walk:∀m:Nat,∃l:List Nat,l.length=m+1∧(∀y∈l,S y)∧l.Pairwise (fun a b=>fU E b a):=by
  --the head is the last one gone to
  have walk':∀m:Nat,∃(y:Nat) (l:List Nat),l.length=m∧S y∧(∀z∈l,S z∧fU E y z)∧l.Pairwise (fun a b=>fU E a b):=by
   intro m
   induction m with
   |zero=>exact⟨x,[],rfl,hx,by simp,by simp⟩
   |succ m ih=>
    obtain⟨y,l,hl,hy,hall,hp⟩:=ih
    obtain⟨_,z,hz,he⟩:=hS y hy
    refine⟨z,y::l,by simp[hl],hz,?_,?_⟩
    ·intro u hu
     rcases List.mem_cons.1 hu with rfl|hu
     ·exact⟨hy, .one he⟩
     exact⟨(hall u hu).1, .cons he (hall u hu).2⟩
    exact List.pairwise_cons.2 ⟨fun u hu=>(hall u hu).2,hp⟩
  intro m
  obtain⟨y,l,hl,hy,hall,hp⟩:=walk' m
  refine⟨(y::l).reverse,by simp[hl],?_,?_⟩
  ·intro z hz
   rcases List.mem_cons.1 (List.mem_reverse.1 hz) with rfl|hz
   ·exact hy
   exact(hall z hz).1
  rw[List.pairwise_reverse]
  exact List.pairwise_cons.2 ⟨fun u hu=>(hall u hu).2,hp⟩
 obtain⟨l,hl,hall,hp⟩:=walk n
 refine Classical.byContradiction fun hno=>?_
 have hnd:l.Nodup:=hp.imp (fun{a b} h=>by
  rintro rfl
  exact hno ⟨a,h⟩)
 have:=lC n l hnd (fun y hy=>(hS y (hall y hy)).1)
 omega
structure aCx(n:Nat)(E:List (Nat×Nat))(i:Nat)(bK:List Int)(row:List Nat):Prop where
 len:bK.length=n
 nd:row.Nodup
 lt:∀x∈row,x<n
 cnt:∀j,j<n→bK.getD j 0=((E.filter fun e=>decide (e.2=j)&& !((row.take i).contains e.1)).length:Int)
 iff:∀j,j<n→(j∈row↔bK.getD j 0=0)
 back:∀m (h:m<row.length),∀y,(y,row[m])∈E→y∈row.take m
theorem aCx.done{n:Nat}{E:List (Nat×Nat)}{bK:List Int}{row:List Nat}(hE:∀e∈E,e.1<n∧e.2<n)(K:aCx n E row.length bK row):
 (row.length<n)↔∃y,fU (fun a b=>(a,b)∈E) y y:=by
 constructor
 ·intro hlt
  have hex:∃x,x<n∧x∉row:=by
   refine Classical.byContradiction fun hno=>?_
   have hall:∀x,x<n→x∈row:=fun x hx=>Classical.byContradiction fun h=>hno ⟨x,hx,h⟩
   have:=lC row.length (List.range n) List.nodup_range (fun x hx=>?_)
   ·simp at this;omega
   exact absurd (lC n (List.range n) List.nodup_range (by simp)) (by
    have hsub:(List.range n).length≤row.length:=(List.nodup_range (n:=n)).length_le_of_subset (fun x hx=>hall x (by simpa using hx))
    simp at hsub;omega)
  obtain⟨x,hx,hnx⟩:=hex
  refine aBQ (n:=n) (S:=fun x=>x<n∧x∉row) (fun x hS=>⟨hS.1,?_⟩) x ⟨hx,hnx⟩
  have h0:bK.getD x 0≠0:=fun h=>hS.2 ((K.iff x hS.1).2 h)
  rw[K.cnt x hS.1,List.take_length] at h0
  have hne:(E.filter fun e=>decide (e.2=x)&& !(row.contains e.1))≠ []:=fun h=>h0 (by rw[h];rfl)
  obtain⟨e,he⟩:=List.exists_mem_of_ne_nil _ hne
  obtain⟨h1,h2⟩:=List.mem_filter.1 he
  simp only[Bool.and_eq_true,decide_eq_true_eq,Bool.not_eq_true',List.contains_eq_mem,decide_eq_false_iff_not] at h2
  refine⟨e.1,⟨(hE e h1).1,h2.2⟩,?_⟩
  have:e=(e.1,x):=by rw[←h2.1]
  rw[←this];exact h1
 rintro⟨y,hy⟩
 refine Classical.byContradiction fun hge=>?_
 have hle:n≤row.length:=by omega
 have hall:=aGx K.nd K.lt hle
 --no place of a ring stands in the row
 have key:∀(m:Nat) (h:m<row.length),¬fU (fun a b=>(a,b)∈E) row[m] row[m]:=by
  intro m
  induction m using Nat.strongRecOn with
  |ind m ih=>
   intro h hr
   obtain⟨c,hc,hcy⟩:=hr.last
   have hb:=K.back m h c hc
   obtain⟨k,hk,hkc⟩:=List.getElem_of_mem hb
   have hk':k<m:=by simp at hk;omega
   have e:row[k]'(by omega)=c:=by rw[←hkc];simp
   have hring:fU (fun a b=>(a,b)∈E) c c:=by
    rcases hcy with rfl|hcy
    ·exact .one hc
    exact .cons hc hcy
   exact ih k hk' (by omega) (by rw[e];exact hring)
 have hlt:y<n:=by
  obtain⟨c,hc,_⟩:=hy.last
  exact(hE _ hc).2
 obtain⟨m,hm,hmy⟩:=List.getElem_of_mem (hall y hlt)
 exact key m hm (by rw[hmy];exact hy)
structure KIn(n:Nat)(E D R:List (Nat×Nat))(i k:Nat)(bK:List Int)(row:List Nat):Prop where
 eq:E=D++R
 hk:row[i]?=some k
 len:bK.length=n
 nd:row.Nodup
 lt:∀x∈row,x<n
 cnt:∀j,j<n→bK.getD j 0+((D.filter fun e=>decide (e.2=j)&&decide (e.1=k)).length:Int)=((E.filter fun e=>decide (e.2=j)&& !((row.take i).contains e.1)).length:Int)
 iff:∀j,j<n→(j∈row↔bK.getD j 0=0)
 back:∀m (h:m<row.length),∀y,(y,row[m])∈E→y∈row.take m
theorem aCx.start{n:Nat}{E:List (Nat×Nat)}{i k:Nat}{bK:List Int}{row:List Nat}(K:aCx n E i bK row)(hk:row[i]?=some k):KIn n E [] E i k bK row:=
 ⟨rfl,hk,K.len,K.nd,K.lt,fun j hj=>by simpa using K.cnt j hj,K.iff,K.back⟩
theorem xY{row:List Nat}{i k:Nat}(hn:row.Nodup)(hk:row[i]?=some k):k∉row.take i:=by
 intro h
 obtain⟨m,hm,e⟩:=List.getElem_of_mem h
 obtain⟨hi,e2⟩:=List.getElem?_eq_some_iff.1 hk
 have hm':m<i∧m<row.length:=by simp at hm;omega
 rw[List.getElem_take] at e
 have hp:=List.pairwise_iff_getElem.1 hn m i hm'.2 hi hm'.1
 exact hp (e.trans e2.symm)
theorem aBF{row:List Nat}{i k:Nat}(hk:row[i]?=some k):row.take (i+1)=row.take i++[k]:=by
 obtain⟨hi,e2⟩:=List.getElem?_eq_some_iff.1 hk
 rw[List.take_succ_eq_append_getElem hi,e2]
theorem KIn.finish{n:Nat}{E:List (Nat×Nat)}{i k:Nat}{bK:List Int}{row:List Nat}(K:KIn n E E [] i k bK row):aCx n E (i+1) bK row:=by
 refine⟨K.len,K.nd,K.lt,fun j hj=>?_,K.iff,K.back⟩
 have h:=K.cnt j hj
 have hnk:=xY K.nd K.hk
 have key:∀l:List (Nat×Nat),((l.filter fun e=>decide (e.2=j)&& !((row.take i).contains e.1)).length:Int)=((l.filter fun e=>decide (e.2=j)&&decide (e.1=k)).length:Int)+((l.filter fun e=>decide (e.2=j)&& !((row.take (i+1)).contains e.1)).length:Int):=by
  intro l
  rw[aBF K.hk]
  induction l with
  |nil=>simp
  |cons e l ih=>
   simp only[List.filter_cons,List.contains_eq_mem,List.mem_append,List.mem_singleton] at ih⊢
   by_cases h1:e.2=j
   ·by_cases h2:e.1=k
    ·simp only[h1,h2,hnk,List.contains_eq_mem,decide_true,decide_false,Bool.not_false,Bool.and_self,if_true,List.length_cons,List.mem_append,List.mem_singleton,or_true,Bool.not_true,Bool.and_false,Bool.false_eq_true,if_false]
     omega
    by_cases h3:e.1∈row.take i
    ·simp only[h1,h2,h3,List.contains_eq_mem,decide_true,decide_false,Bool.not_false,Bool.and_self,if_true,List.length_cons,List.mem_append,List.mem_singleton,true_or,Bool.not_true,Bool.and_false,Bool.false_eq_true,if_false]
     omega
    simp only[h1,h2,h3,List.contains_eq_mem,decide_true,decide_false,Bool.not_false,Bool.and_self,if_true,List.length_cons,List.mem_append,List.mem_singleton,or_self,Bool.not_true,Bool.and_false,Bool.false_eq_true,if_false]
    omega
   simp only[h1,decide_false,Bool.false_and,Bool.false_eq_true,if_false]
   exact ih
 have:=key E
 omega
theorem KIn.other{n:Nat}{E D R:List (Nat×Nat)}{i k:Nat}{bK:List Int}{row:List Nat}{e:Nat×Nat}(K:KIn n E D (e::R) i k bK row)(he:e.1≠k):KIn n E (D++[e]) R i k bK row:=
 ⟨by rw[K.eq];simp,K.hk,K.len,K.nd,K.lt,fun j hj=>by rw[List.filter_append];simpa [he] using K.cnt j hj,K.iff,K.back⟩
theorem aDt(l:List Int)(i j:Nat)(v:Int)(h:i<l.length):(l.set i v).getD j 0=if j=i then v else l.getD j 0:=by
 rw[List.getD_eq_getElem?_getD,List.getD_eq_getElem?_getD]
 by_cases e:j=i
 ·subst e;simp[h]
 rw[List.getElem?_set_ne (by omega)];simp[e]
theorem KIn.one{n:Nat}{E D R:List (Nat×Nat)}{i k x:Nat}{bK:List Int}{row:List Nat}(K:KIn n E D ((k,x)::R) i k bK row)(hx:x<n):
 1≤bK.getD x 0∧KIn n E (D++[(k,x)]) R i k (bK.set x (bK.getD x 0-1)) (if bK.getD x 0-1=0 then row++[x] else row):=by
 obtain⟨hi,hik⟩:=List.getElem?_eq_some_iff.1 K.hk
 have hnk:=xY K.nd K.hk
 have hcx:=K.cnt x hx
 --ways to x from k are among those that count
 have sub:∀l:List (Nat×Nat),((l.filter fun e=>decide (e.2=x)&&decide (e.1=k)).length:Int)≤((l.filter fun e=>decide (e.2=x)&& !((row.take i).contains e.1)).length:Int):=by
  intro l
  induction l with
  |nil=>simp
  |cons e l ih=>
   simp only[List.filter_cons,List.contains_eq_mem,List.mem_append,List.mem_singleton] at ih⊢
   by_cases h1:e.2=x
   ·by_cases h2:e.1=k
    ·simp only[h1,h2,hnk,List.contains_eq_mem,decide_true,decide_false,Bool.not_false,Bool.and_self,if_true,List.length_cons]
     omega
    simp only[h1,h2,decide_true,decide_false,Bool.and_false,Bool.false_eq_true,if_false,Bool.true_and]
    split<;>(try simp only[List.length_cons])<;>omega
   simp only[h1,decide_false,Bool.false_and,Bool.false_eq_true,if_false]
   exact ih
 have s1:=sub E
 have s2:((E.filter fun e=>decide (e.2=x)&&decide (e.1=k)).length:Int)=((D.filter fun e=>decide (e.2=x)&&decide (e.1=k)).length:Int)+1+((R.filter fun e=>decide (e.2=x)&&decide (e.1=k)).length:Int):=by
  rw[K.eq,List.filter_append,List.filter_cons]
  simp
  omega
 have hge:1≤bK.getD x 0:=by omega
 refine⟨hge,?_⟩
 have hxr:x∉row:=fun h=>by have:=(K.iff x hx).1 h;omega
 have hset:∀j,(bK.set x (bK.getD x 0-1)).getD j 0=if j=x then bK.getD x 0-1 else bK.getD j 0:=fun j=>aDt _ _ _ _ (by rw[K.len];exact hx)
 have hcnt:∀row':List Nat,row'.take i=row.take i→∀j,j<n→(bK.set x (bK.getD x 0-1)).getD j 0+(((D++[(k,x)]).filter fun e=>decide (e.2=j)&&decide (e.1=k)).length:Int)=((E.filter fun e=>decide (e.2=j)&& !((row'.take i).contains e.1)).length:Int):=by
  intro row' hr j hj
  rw[hr,hset,←K.cnt j hj,List.filter_append]
  by_cases e:j=x
  ·subst e;simp;omega
  have e':¬x=j:=fun h=>e h.symm
  simp[e,e']
 split
 ·rename_i h0
  have htk:(row++[x]).take i=row.take i:=by rw[List.take_append_of_le_length (by omega)]
  refine⟨by rw[K.eq];simp,by rw[List.getElem?_append_left hi];exact K.hk,by simp[K.len],?_,?_,hcnt _ htk,?_,?_⟩
  ·exact List.nodup_append.2 ⟨K.nd,by simp,fun a ha b hb=>by
    rintro rfl
    simp at hb
    subst hb
    exact hxr ha⟩
  ·intro y hy
   rcases List.mem_append.1 hy with h|h
   ·exact K.lt y h
   simp at h;omega
  ·intro j hj
   rw[hset,List.mem_append,List.mem_singleton]
   by_cases e:j=x
   ·simp only[e,or_true,if_true,true_iff];exact h0
   simp only[e,or_false,if_false];exact K.iff j hj
  intro m hm y hy
  by_cases hml:m<row.length
  ·rw[List.getElem_append_left hml] at hy
   rw[List.take_append_of_le_length (by omega)]
   exact K.back m hml y hy
  have hme:m=row.length:=by simp at hm;omega
  subst hme
  have hyx:(y,x)∈E:=by simpa using hy
  rw[List.take_append_of_le_length (by omega),List.take_length]
  --all ways to x that count come from k
  refine Classical.byContradiction fun hny=>?_
  have hyk:y≠k:=fun e=>hny (by rw[e,←hik];exact List.getElem_mem hi)
  have hyt:y∉row.take i:=fun h=>hny (List.mem_of_mem_take h)
  have strict:∀l:List (Nat×Nat),(y,x)∈l→((l.filter fun e=>decide (e.2=x)&&decide (e.1=k)).length:Int)+1≤((l.filter fun e=>decide (e.2=x)&& !((row.take i).contains e.1)).length:Int):=by
   intro l hl
   obtain⟨a,b,hab⟩:=List.append_of_mem hl
   subst hab
   have subg:∀l:List (Nat×Nat),((l.filter fun e=>decide (e.2=x)&&decide (e.1=k)).length:Int)≤((l.filter fun e=>decide (e.2=x)&& !((row.take i).contains e.1)).length:Int):=sub
   have ha:=subg a
   have hb:=subg b
   rw[List.filter_append,List.filter_append,List.filter_cons,List.filter_cons]
   simp only[hyk,hyt,List.contains_eq_mem,decide_true,decide_false,Bool.not_false,Bool.and_self,Bool.and_false,Bool.false_eq_true,if_false,if_true,List.length_append,List.length_cons] at ha hb⊢
   omega
  have:=strict E hyx
  omega
 rename_i h0
 refine⟨by rw[K.eq];simp,K.hk,by simp[K.len],K.nd,K.lt,hcnt _ rfl,?_,K.back⟩
 intro j hj
 rw[hset]
 by_cases e:j=x
 ·simp only[e,if_true,hxr,false_iff];exact h0
 simp only[e,if_false];exact K.iff j hj
theorem aCx.first{n:Nat}{E:List (Nat×Nat)}{bK:List Int}(hl:bK.length=n)(hc:∀j,j<n→bK.getD j 0=((E.filter fun e=>decide (e.2=j)).length:Int)):
 aCx n E 0 bK ((List.range n).filter fun j=>decide (bK.getD j 0=0)):=by
 refine⟨hl,List.nodup_range.filter _,fun x hx=>by simpa using(List.mem_filter.1 hx).1,fun j hj=>by simpa using hc j hj,fun j hj=>by simp[hj],?_⟩
 intro m hm y hy
 exfalso
 have hmem:((List.range n).filter fun j=>decide (bK.getD j 0=0))[m]∈(List.range n).filter fun j=>decide (bK.getD j 0=0):=List.getElem_mem hm
 generalize ((List.range n).filter fun j=>decide (bK.getD j 0=0))[m]=z at hmem hy
 obtain⟨h1,h2⟩:=List.mem_filter.1 hmem
 have h1':z<n:=by simpa using h1
 have h2':bK.getD z 0=0:=by simpa using h2
 rw[hc z h1'] at h2'
 have hne:(E.filter fun e=>decide (e.2=z))≠ []:=List.ne_nil_of_mem (List.mem_filter.2 ⟨hy,by simp⟩)
 have:=List.length_pos_iff.2 hne
 omega
structure Bfs(n:Nat)(E:Nat→Nat→Prop)(a b:Nat)(seen:List Bool)(todo:List Nat):Prop where
 len:seen.length=n
 lt:∀x∈todo,x<n
 from':∀x,(x∈todo∨seen.getD x false=true)→x=a∨fU E a x
 start:a∈todo∨(a≠b∧∀y,E a y→seen.getD y false=true)
 on:∀x,seen.getD x false=true→x∈todo∨(x≠b∧∀y,E x y→seen.getD y false=true)
structure qS(n:Nat)(E:Nat→Nat→Prop)(a b k:Nat)(D:Nat→Prop)(seen:List Bool)(todo:List Nat):Prop where
 len:seen.length=n
 lt:∀x∈todo,x<n
 kf:k=a∨fU E a k
 kb:k≠b
 got:∀y,D y→seen.getD y false=true
 from':∀x,(x∈todo∨seen.getD x false=true)→x=a∨fU E a x
 start:a=k∨a∈todo∨(a≠b∧∀y,E a y→seen.getD y false=true)
 on:∀x,seen.getD x false=true→x=k∨x∈todo∨(x≠b∧∀y,E x y→seen.getD y false=true)
theorem aGQ(l:List Bool)(i j:Nat)(v:Bool)(h:i<l.length):(l.set i v).getD j false=if j=i then v else l.getD j false:=by
 rw[List.getD_eq_getElem?_getD,List.getD_eq_getElem?_getD]
 by_cases e:j=i
 ·subst e;simp[h]
 rw[List.getElem?_set_ne (by omega)];simp[e]
theorem Bfs.first{n:Nat}{E:Nat→Nat→Prop}{a b:Nat}(ha:a<n):Bfs n E a b (List.replicate n false) [a]:=by
 have hf:∀x,(List.replicate n false).getD x false=false:=fun x=>by
  rw[List.getD_eq_getElem?_getD,List.getElem?_replicate];split<;>rfl
 refine⟨by simp,by simpa using ha,fun x hx=>?_, .inl (by simp),fun x hx=>by rw[hf x] at hx;cases hx⟩
 rcases hx with hx|hx
 ·exact .inl (by simpa using hx)
 rw[hf x] at hx;cases hx
theorem Bfs.yes{n:Nat}{E:Nat→Nat→Prop}{a b:Nat}{seen:List Bool}{todo:List Nat}(B:Bfs n E a b seen (b::todo)):b=a∨fU E a b:=B.from' b (.inl (by simp))
theorem Bfs.no{n:Nat}{E:Nat→Nat→Prop}{a b:Nat}{seen:List Bool}(B:Bfs n E a b seen []):¬(b=a∨fU E a b):=by
 have hs:a≠b∧∀y,E a y→seen.getD y false=true:=by
  rcases B.start with h|h
  ·cases h
  exact h
 have key:∀x,(x=a∨seen.getD x false=true)→x≠b∧∀y,E x y→(y=a∨seen.getD y false=true):=by
  rintro x (rfl|hx)
  ·exact⟨hs.1,fun y hy=> .inr (hs.2 y hy)⟩
  rcases B.on x hx with h|h
  ·cases h
  exact⟨h.1,fun y hy=> .inr (h.2 y hy)⟩
 rintro(rfl|h)
 ·exact hs.1 rfl
 exact(key b (h.closed (S:=fun x=>x=a∨seen.getD x false=true) (fun x y hx e=>(key x hx).2 y e) (.inl rfl))).1 rfl
theorem Bfs.start'{n:Nat}{E:Nat→Nat→Prop}{a b k:Nat}{seen:List Bool}{todo:List Nat}(B:Bfs n E a b seen (k::todo))(hk:k≠b):qS n E a b k (fun _=>False) seen todo:=by
 refine⟨B.len,fun x hx=>B.lt x (by simp[hx]),B.from' k (.inl (by simp)),hk,(fun y hy=>hy.elim),fun x hx=>B.from' x (hx.imp (fun h=>by simp[h]) id),?_,?_⟩
 ·rcases B.start with h|h
  ·rcases List.mem_cons.1 h with h|h
   ·exact .inl h
   exact .inr (.inl h)
  exact .inr (.inr h)
 intro x hx
 rcases B.on x hx with h|h
 ·rcases List.mem_cons.1 h with h|h
  ·exact .inl h
  exact .inr (.inl h)
 exact .inr (.inr h)
theorem qS.more{n:Nat}{E:Nat→Nat→Prop}{a b k:Nat}{D:Nat→Prop}{seen:List Bool}{todo:List Nat}(B:qS n E a b k D seen todo){D':Nat→Prop}(hD:∀y,D' y→D y∨seen.getD y false=true):qS n E a b k D' seen todo:=
 ⟨B.len,B.lt,B.kf,B.kb,fun y hy=>(hD y hy).elim (B.got y) id,B.from',B.start,B.on⟩
theorem qS.one{n:Nat}{E:Nat→Nat→Prop}{a b k x:Nat}{D:Nat→Prop}{seen:List Bool}{todo:List Nat}(B:qS n E a b k D seen todo)(hx:x<n)(he:E k x):qS n E a b k (fun y=>D y∨y=x) (seen.set x true) (todo++[x]):=by
 have hset:∀j,(seen.set x true).getD j false=if j=x then true else seen.getD j false:=fun j=>aGQ _ _ _ _ (by rw[B.len];exact hx)
 have up:∀y,seen.getD y false=true→(seen.set x true).getD y false=true:=fun y hy=>by rw[hset];split<;>simp_all
 have hfx:x=a∨fU E a x:=by
  rcases B.kf with h|h
  ·rw[←h];exact .inr (.one he)
  exact .inr (h.snoc he)
 refine⟨by simp[B.len],?_,B.kf,B.kb,?_,?_,?_,?_⟩
 ·intro y hy
  rcases List.mem_append.1 hy with h|h
  ·exact B.lt y h
  simp at h;omega
 ·rintro y (hy|rfl)
  ·exact up y (B.got y hy)
  rw[hset,if_pos rfl]
 ·intro y hy
  by_cases e:y=x
  ·rw[e];exact hfx
  rw[hset,if_neg e] at hy
  refine B.from' y (hy.imp (fun h=>?_) id)
  rcases List.mem_append.1 h with h|h
  ·exact h
  exact absurd (by simpa using h) e
 ·rcases B.start with h|h|⟨h1,h2⟩
  ·exact .inl h
  ·exact .inr (.inl (by simp[h]))
  exact .inr (.inr ⟨h1,fun y hy=>up y (h2 y hy)⟩)
 intro y hy
 by_cases e:y=x
 ·exact .inr (.inl (by simp[e]))
 rw[hset,if_neg e] at hy
 rcases B.on y hy with h|h|⟨h1,h2⟩
 ·exact .inl h
 ·exact .inr (.inl (by simp[h]))
 exact .inr (.inr ⟨h1,fun z hz=>up z (h2 z hz)⟩)
theorem qS.finish{n:Nat}{E:Nat→Nat→Prop}{a b k:Nat}{seen:List Bool}{todo:List Nat}(B:qS n E a b k (E k) seen todo):Bfs n E a b seen todo:=by
 refine⟨B.len,B.lt,B.from',?_,?_⟩
 ·rcases B.start with h|h|h
  ·exact .inr ⟨by rw[h];exact B.kb,by rw[h];exact B.got⟩
  ·exact .inl h
  exact .inr h
 intro x hx
 rcases B.on x hx with h|h|h
 ·exact .inr ⟨by rw[h];exact B.kb,by rw[h];exact B.got⟩
 ·exact .inl h
 exact .inr h
def kV(seen:List Bool):Nat:=(seen.filter (·=false)).length
theorem xG:∀(seen:List Bool) (x:Nat),x<seen.length→seen.getD x false=false→kV (seen.set x true)+1=kV seen
 | [],x,h,_=>by simp at h
 |s::l,0,_,h=>by
  simp at h
  subst h
  simp[kV]
 |s::l,x+1,hx,h=>by
  have ih:=xG l x (by simpa using hx) (by simpa using h)
  unfold kV at ih⊢
  rw[List.set_cons_succ,List.filter_cons,List.filter_cons]
  split<;>(try simp only[List.length_cons])<;>omega
structure Pa where
 n:Bool
 a:Int
 deriving DecidableEq,Inhabited
def Pa.ok(p:Pa):Bool:=decide (0≤p.a)&&decide (p.a≤1048576)
def Pa.le(p q:Pa):Bool:=(p.n|| !q.n)&&decide (p.a≤q.a)
def Pa.thn(p q:Pa):Option Pa:=
 if (!p.ok|| !q.ok)=true then none
 else if q.n=true then some q
 else if Pa.ok ⟨p.n,p.a+q.a⟩=false then none else some ⟨p.n,p.a+q.a⟩
theorem Pa.le_refl(p:Pa):p.le p=true:=by cases p with|mk n a=>cases n<;>simp[Pa.le]
theorem Pa.le_trans{p q r:Pa}(h:p.le q=true)(k:q.le r=true):p.le r=true:=by
 obtain⟨a,x⟩:=p;obtain⟨b,y⟩:=q;obtain⟨c,z⟩:=r
 cases a<;>cases b<;>cases c<;>simp[Pa.le] at*<;>omega
theorem Pa.le_antisymm{p q:Pa}(h:p.le q=true)(k:q.le p=true):p=q:=by
 obtain⟨a,x⟩:=p;obtain⟨b,y⟩:=q
 cases a<;>cases b<;>simp[Pa.le] at*<;>omega
theorem Pa.thn_ok{p q r:Pa}(h:p.thn q=some r):r.ok=true∧q.ok=true∧p.ok=true:=by
 unfold Pa.thn at h
 split at h
 ·cases h
 rename_i h0
 simp only[Bool.or_eq_true,Bool.not_eq_true',not_or,Bool.not_eq_false] at h0
 split at h
 ·injection h with h;subst h;exact⟨h0.2,h0.2,h0.1⟩
 split at h
 ·cases h
 rename_i h1
 injection h with h;subst h
 exact⟨by simpa using h1,h0.2,h0.1⟩
theorem Pa.thn_mono{p p' q r':Pa}(hp:p.ok=true)(hl:p.le p'=true)(h:p'.thn q=some r'):∃r,p.thn q=some r∧r.le r'=true:=by
 obtain⟨hr,hq,hp'⟩:=Pa.thn_ok h
 unfold Pa.thn at h⊢
 simp only[hp,hp',hq,Bool.not_true,Bool.or_self,Bool.false_eq_true,if_false] at h⊢
 split at h
 ·rename_i hn
  injection h with h;subst h
  exact⟨q,by rw[if_pos hn],Pa.le_refl _⟩
 rename_i hn
 split at h
 ·cases h
 injection h with h;subst h
 rw[if_neg hn]
 obtain⟨n,a⟩:=p;obtain⟨m,b⟩:=p';obtain⟨o,c⟩:=q
 have hok:Pa.ok ⟨n,a+c⟩=true:=by
  simp only[Pa.ok,Pa.le,Bool.and_eq_true,decide_eq_true_eq] at*
  omega
 simp only[hok,Bool.true_eq_false,if_false]
 refine⟨_,rfl,?_⟩
 simp only[Pa.le,Bool.and_eq_true,decide_eq_true_eq] at hl⊢
 exact⟨hl.1,by omega⟩
theorem Pa.thn_up{p q r:Pa}(hn:q.n=false)(h:p.thn q=some r):p.le r=true:=by
 obtain⟨hr,hq,hp⟩:=Pa.thn_ok h
 unfold Pa.thn at h
 simp only[hp,hq,hn,Bool.not_true,Bool.or_self,Bool.false_eq_true,if_false] at h
 split at h
 ·cases h
 injection h with h;subst h
 obtain⟨n,a⟩:=p;obtain⟨o,c⟩:=q
 simp only[Pa.ok,Bool.and_eq_true,decide_eq_true_eq] at hq
 cases n<;>simp[Pa.le]<;>omega
structure We where
 f:Nat
 t:Nat
 p:Pa
 deriving DecidableEq,Inhabited
def fM(ws:List We):Nat→List We→Nat→Prop
 |a,[],k=>a=k
 |a,w::l,k=>w∈ws∧w.f=a∧fM ws w.t l k
def run:Pa→List We→Option Pa
 |p,[]=>some p
 |p,w::l=>(p.thn w.p).bind fun q=>run q l
def Pa.nought:Pa:=⟨false,0⟩
def Val(ws:List We)(a k:Nat)(p:Pa):Prop:=∃l,fM ws a l k∧run Pa.nought l=some p
theorem fM.append{ws:List We}:∀{l m:List We} {a b c:Nat},fM ws a l b→fM ws b m c→fM ws a (l++m) c
 | [],_,_,_,_,h,k=>by have h:_=_:=h;subst h;exact k
 |w::l,_,_,_,_,⟨h1,h2,h3⟩,k=>⟨h1,h2,fM.append h3 k⟩
theorem xN:∀(l m:List We) (p:Pa),run p (l++m)=(run p l).bind fun q=>run q m
 | [],m,p=>rfl
 |w::l,m,p=>by
  show((p.thn w.p).bind fun q=>run q (l++m))=((p.thn w.p).bind fun q=>run q l).bind fun q=>run q m
  cases p.thn w.p with
  |none=>rfl
  |some q=>exact xN l m q
theorem aHN:∀(l:List We) {p q:Pa},p.ok=true→run p l=some q→q.ok=true
 | [],p,q,hp,h=>by have h:some p=some q:=h;injection h with h;subst h;exact hp
 |w::l,p,q,hp,h=>by
  have h:((p.thn w.p).bind fun q=>run q l)=some q:=h
  cases e:p.thn w.p with
  |none=>rw[e] at h;cases h
  |some r=>rw[e] at h;exact aHN l (Pa.thn_ok e).1 h
theorem aHM:∀(l:List We) {p q:Pa},(∀w∈l,w.p.n=false)→run p l=some q→p.le q=true
 | [],p,q,_,h=>by have h:some p=some q:=h;injection h with h;subst h;exact Pa.le_refl p
 |w::l,p,q,hn,h=>by
  have h:((p.thn w.p).bind fun q=>run q l)=some q:=h
  cases e:p.thn w.p with
  |none=>rw[e] at h;cases h
  |some r=>
   rw[e] at h
   exact Pa.le_trans (Pa.thn_up (hn w (by simp)) e) (aHM l (fun v hv=>hn v (by simp[hv])) h)
def aCy(ws:List We)(i j:Nat):Prop:=∃w∈ws,w.f=i∧w.t=j
theorem fM.plus{ws:List We}:∀{l:List We} {a b:Nat},fM ws a l b→a=b∨fU (aCy ws) a b
 | [],_,_,h=> .inl h
 |w::l,_,_,⟨h1,h2,h3⟩=>by
  rcases fM.plus h3 with h|h
  ·subst h;exact .inr (.one ⟨w,h1,h2,rfl⟩)
  exact .inr (.cons ⟨w,h1,h2,rfl⟩ h)
theorem fM.split{ws:List We}:∀{l m:List We} {a c:Nat},fM ws a (l++m) c→∃b,fM ws a l b∧fM ws b m c
 | [],_,a,_,h=>⟨a,rfl,h⟩
 |w::l,_,_,_,⟨h1,h2,h3⟩=>by
  obtain⟨b,h4,h5⟩:=fM.split h3
  exact⟨b,⟨h1,h2,h4⟩,h5⟩
def gI:Nat→List We→List Nat
 |a,[]=>[a]
 |a,w::l=>a::gI w.t l
theorem aAP:∀(a:Nat) (l:List We),(gI a l).length=l.length+1
 |_,[]=>rfl
 |_,w::l=>by simp[gI,aAP w.t l]
theorem xK{ws:List We}:∀{l:List We} {a b:Nat},fM ws a l b→∀i (h:i<(gI a l).length),fM ws a (l.take i) ((gI a l)[i])∧fM ws ((gI a l)[i]) (l.drop i) b
 | [],a,b,hw,i,h=>by
  have:i=0:=by simp[gI] at h;omega
  subst this
  exact⟨rfl,hw⟩
 |w::l,a,b,hw,0,h=>⟨rfl,hw⟩
 |w::l,a,b,⟨h1,h2,h3⟩,i+1,h=>by
  have:=xK h3 i (by simpa [gI] using h)
  exact⟨⟨h1,h2,this.1⟩,this.2⟩
def aCw(ws:List We):Prop:=∀w∈ws,w.p.n=true→¬(w.t=w.f∨fU (aCy ws) w.t w.f)
def Can(l:List Pa):Prop:=l.Pairwise fun p q=>p.n=false∧q.n=true∧p.a<q.a
theorem Can.unique:∀{l m:List Pa},Can l→Can m→(∀x,x∈l↔x∈m)→l=m
 | [],[],_,_,_=>rfl
 | [],y::m,_,_,h=>by have:=(h y).2 (by simp);cases this
 |x::l,[],_,_,h=>by have:=(h x).1 (by simp);cases this
 |x::l,y::m,hl,hm,h=>by
  have hl':=List.pairwise_cons.1 hl
  have hm':=List.pairwise_cons.1 hm
  have e:x=y:=by
   rcases List.mem_cons.1 ((h x).1 (by simp)) with e|e
   ·exact e
   rcases List.mem_cons.1 ((h y).2 (by simp)) with e2|e2
   ·exact e2.symm
   have h1:=hm'.1 x e
   have h2:=hl'.1 y e2
   rw[h1.1] at h2
   exact absurd h2.2.2 (by have:=h1.2.2;omega)
  subst e
  have hx1:x∉l:=fun hx=>absurd (hl'.1 x hx).2.2 (by omega)
  have hx2:x∉m:=fun hx=>absurd (hm'.1 x hx).2.2 (by omega)
  rw[Can.unique hl'.2 hm'.2 fun z=>?_]
  constructor
  ·intro hz
   rcases List.mem_cons.1 ((h z).1 (by simp[hz])) with e|e
   ·subst e;exact absurd hz hx1
   exact e
  intro hz
  rcases List.mem_cons.1 ((h z).2 (by simp[hz])) with e|e
  ·subst e;exact absurd hz hx2
  exact e
theorem Can.anti{l:List Pa}(h:Can l){p q:Pa}(hp:p∈l)(hq:q∈l)(hle:p.le q=true):p=q:=by
 induction l with
 |nil=>cases hp
 |cons x l ih=>
  obtain⟨h1,h2⟩:=List.pairwise_cons.1 h
  rcases List.mem_cons.1 hp with ep|ep<;>rcases List.mem_cons.1 hq with eq|eq
  ·rw[ep,eq]
  ·have:=h1 q eq
   subst ep
   simp[Pa.le,this.1,this.2.1] at hle
  ·have:=h1 p ep
   subst eq
   simp[Pa.le,this.1,this.2.1] at hle
   exact absurd hle (by have:=this.2.2;omega)
  exact ih h2 ep eq
def kM(l:List Pa)(p:Pa):Prop:=∃q∈l,q.le p=true
theorem aDI(l:List Pa)(p:Pa):(l.any fun x=>x.le p)=true↔kM l p:=by simp[kM]
def fC(l:List Pa)(p:Pa):List Pa:=if p.n=true then (l.filter fun x=> !(p.le x))++[p] else p::(l.filter fun x=> !(p.le x))
theorem fX(l:List Pa)(p x:Pa):x∈fC l p↔x=p∨(x∈l∧p.le x=false):=by
 unfold fC
 split
 ·simp[or_comm]
 simp
theorem aCU{l:List Pa}{p x:Pa}:kM (fC l p) x↔kM l x∨p.le x=true:=by
 constructor
 ·rintro⟨q,hq,hle⟩
  rcases(fX l p q).1 hq with e|⟨h1,_⟩
  ·subst e;exact .inr hle
  exact .inl ⟨q,h1,hle⟩
 rintro(⟨q,hq,hle⟩|h)
 ·cases e:p.le q with
  |true=>exact⟨p,(fX l p p).2 (.inl rfl),Pa.le_trans e hle⟩
  |false=>exact⟨q,(fX l p q).2 (.inr ⟨hq,e⟩),hle⟩
 exact⟨p,(fX l p p).2 (.inl rfl),h⟩
theorem Can.put{l:List Pa}(h:Can l){p:Pa}(hd:¬kM l p):Can (fC l p):=by
 unfold fC Can
 have hf:Can (l.filter fun x=> !(p.le x)):=List.Pairwise.sublist List.filter_sublist h
 have hno:∀x∈l,x.le p=false:=fun x hx=>by
  cases e:x.le p with
  |false=>rfl
  |true=>exact absurd ⟨x,hx,e⟩ hd
 split
 ·rename_i hn
  refine List.pairwise_append.2 ⟨hf,by simp,fun x hx q hq=>?_⟩
  simp at hq
  subst hq
  obtain⟨hx1,hx2⟩:=List.mem_filter.1 hx
  have h1:=hno x hx1
  have h2:q.le x=false:=by simpa using hx2
  obtain⟨a,b⟩:=x;obtain⟨c,d⟩:=q
  simp at hn
  subst hn
  cases a<;>simp[Pa.le] at*<;>omega
 rename_i hn
 refine List.pairwise_cons.2 ⟨fun x hx=>?_,hf⟩
 obtain⟨hx1,hx2⟩:=List.mem_filter.1 hx
 have h1:=hno x hx1
 have h2:p.le x=false:=by simpa using hx2
 obtain⟨a,b⟩:=x;obtain⟨c,d⟩:=p
 simp at hn
 subst hn
 cases a<;>simp[Pa.le] at*<;>omega
def qC(l:List Pa):Nat:=l.foldr (fun p m=>min p.a.toNat m) 1048577
def co(l:List Pa):Nat:=qC l+qC (l.filter fun p=>p.n)
theorem pQ{l:List Pa}{p:Pa}(h:p∈l):qC l≤p.a.toNat:=by
 induction l with
 |nil=>cases h
 |cons x l ih=>
  show min x.a.toNat (qC l)≤_
  rcases List.mem_cons.1 h with e|e
  ·subst e;omega
  have:=ih e;omega
theorem sJ(l:List Pa):qC l≤1048577:=by
 induction l with
 |nil=>exact Nat.le_refl _
 |cons x l ih=>show min x.a.toNat (qC l)≤_;omega
theorem wX{l:List Pa}{m:Nat}(hm:m≤1048577)(h:∀p∈l,m≤p.a.toNat):m≤qC l:=by
 induction l with
 |nil=>exact hm
 |cons x l ih=>
  show m≤min x.a.toNat (qC l)
  have h1:=h x (by simp)
  have h2:=ih (fun p hp=>h p (by simp[hp]))
  omega
theorem aIM{l:List Pa}(hok:∀x∈l,x.ok=true){p:Pa}(hp:p.ok=true)(hd:¬kM l p):co (fC l p)+1≤co l:=by
 have hno:∀x∈l,x.le p=false:=fun x hx=>by
  cases e:x.le p with
  |false=>rfl
  |true=>exact absurd ⟨x,hx,e⟩ hd
 have hpa:0≤p.a∧p.a≤1048576:=by simpa [Pa.ok] using hp
 --all of the list,and those that begin anew
 have h1:qC (fC l p)≤qC l:=by
  refine wX (sJ _) fun x hx=>?_
  cases e:p.le x with
  |false=>exact pQ ((fX l p x).2 (.inr ⟨hx,e⟩))
  |true=>
   have:=pQ ((fX l p p).2 (.inl rfl))
   simp[Pa.le] at e
   omega
 have hall:∀q∈(fC l p).filter (fun p=>p.n),q∈fC l p∧q.n=true:=fun q hq=>by simpa using List.mem_filter.1 hq
 have h2:qC ((fC l p).filter fun p=>p.n)≤qC (l.filter fun p=>p.n):=by
  refine wX (sJ _) fun x hx=>?_
  obtain⟨hx1,hx2⟩:=List.mem_filter.1 hx
  cases e:p.le x with
  |false=>exact pQ (List.mem_filter.2 ⟨(fX l p x).2 (.inr ⟨hx1,e⟩),hx2⟩)
  |true=>
   have hx2':x.n=true:=hx2
   simp[Pa.le,hx2'] at e
   have:=pQ (List.mem_filter.2 ⟨(fX l p p).2 (.inl rfl),by simpa using e.1⟩:p∈(fC l p).filter fun p=>p.n)
   omega
 unfold co
 cases hn:p.n with
 |false=>
  have h3:qC (fC l p)≤p.a.toNat:=pQ ((fX l p p).2 (.inl rfl))
  have h4:p.a.toNat+1≤qC l:=wX (by omega) fun x hx=>by
   have:=hno x hx
   have hxo:=hok x hx
   simp[Pa.le,hn,Pa.ok] at this hxo
   omega
  omega
 |true=>
  have h3:qC ((fC l p).filter fun p=>p.n)≤p.a.toNat:=pQ (List.mem_filter.2 ⟨(fX l p p).2 (.inl rfl),hn⟩)
  have h4:p.a.toNat+1≤qC (l.filter fun p=>p.n):=wX (by omega) fun x hx=>by
   obtain⟨hx1,hx2⟩:=List.mem_filter.1 hx
   have:=hno x hx1
   have hxo:=hok x hx1
   have hx2':x.n=true:=hx2
   simp[Pa.le,hn,hx2',Pa.ok] at this hxo
   omega
  omega
theorem Val.ok{ws:List We}{a k:Nat}{p:Pa}(h:Val ws a k p):p.ok=true:=by
 obtain⟨l,_,hr⟩:=h
 exact aHN l (by rfl) hr
theorem Val.step{ws:List We}{a:Nat}{p r:Pa}{w:We}(h:Val ws a w.f p)(hw:w∈ws)(e:p.thn w.p=some r):Val ws a w.t r:=by
 obtain⟨l,h1,h2⟩:=h
 refine⟨l++[w],h1.append ⟨hw,rfl,rfl⟩,?_⟩
 rw[xN,h2]
 show((p.thn w.p).bind fun q=>run q [])=some r
 rw[e];rfl
theorem Val.nought(ws:List We)(a:Nat):Val ws a a Pa.nought:=⟨[],rfl,rfl⟩
def aIZ(ws:List We)(out:List (List Pa))(k:Nat):Prop:=∀p∈out.getD k [],∀w∈ws,w.f=k→∀r,p.thn w.p=some r→kM (out.getD w.t []) r
structure aCv(ws:List We)(n a:Nat)(out:List (List Pa))(todo:List Nat):Prop where
 len:out.length=n
 can:∀k,Can (out.getD k [])
 val:∀k,∀p∈out.getD k [],Val ws a k p
 start:kM (out.getD a []) Pa.nought
 lt:∀x∈todo,x<n
 clo:∀k,k<n→k∉todo→aIZ ws out k
structure lM(ws:List We)(n a k:Nat)(paths:List Pa)(D:We→Pa→Prop)(out:List (List Pa))(todo:List Nat):Prop where
 len:out.length=n
 can:∀k,Can (out.getD k [])
 val:∀k,∀p∈out.getD k [],Val ws a k p
 start:kM (out.getD a []) Pa.nought
 lt:∀x∈todo,x<n
 clo:∀j,j<n→j∉todo→j≠k→aIZ ws out j
 pv:∀p∈paths,Val ws a k p
 me:k∈todo∨(out.getD k []=paths∧∀w∈ws,∀p∈paths,D w p→w.f=k→∀r,p.thn w.p=some r→kM (out.getD w.t []) r)
theorem aCv.begin{ws:List We}{n a k:Nat}{out:List (List Pa)}{todo:List Nat}(W:aCv ws n a out (k::todo)):lM ws n a k (out.getD k []) (fun _ _=>False) out todo:=
 ⟨W.len,W.can,W.val,W.start,fun x hx=>W.lt x (by simp[hx]),fun j hj hn hk=>W.clo j hj (by simp[hn,hk]),W.val k, .inr ⟨rfl,fun _ _ _ _ h=>h.elim⟩⟩
theorem lM.more{ws:List We}{n a k:Nat}{paths:List Pa}{D D':We→Pa→Prop}{out:List (List Pa)}{todo:List Nat}(W:lM ws n a k paths D out todo)
 (h:∀w∈ws,∀p∈paths,D' w p→w.f=k→D w p∨∀r,p.thn w.p=some r→kM (out.getD w.t []) r):lM ws n a k paths D' out todo:=
 ⟨W.len,W.can,W.val,W.start,W.lt,W.clo,W.pv,W.me.imp id fun⟨e,hd⟩=>⟨e,fun w hw p hp hD hf r hr=>(h w hw p hp hD hf).elim (fun hd'=>hd w hw p hp hd' hf r hr) (fun h=>h r hr)⟩⟩
theorem kQ{α:Type}(l:List α)(i j:Nat)(v d:α)(h:i<l.length):(l.set i v).getD j d=if j=i then v else l.getD j d:=by
 rw[List.getD_eq_getElem?_getD,List.getD_eq_getElem?_getD]
 by_cases e:j=i
 ·subst e;simp[h]
 rw[List.getElem?_set_ne (by omega)];simp[e]
theorem lM.put{ws:List We}{n a k:Nat}{paths:List Pa}{D:We→Pa→Prop}{out:List (List Pa)}{todo:List Nat}(W:lM ws n a k paths D out todo){w:We}{p r:Pa}(hw:w∈ws)(hf:w.f=k)(ht:w.t<n)(hp:p∈paths)(e:p.thn w.p=some r)(hd:¬kM (out.getD w.t []) r):
 lM ws n a k paths (fun v q=>D v q∨(v=w∧q=p)) (out.set w.t (fC (out.getD w.t []) r)) (todo++[w.t]):=by
 have hset:∀j,(out.set w.t (fC (out.getD w.t []) r)).getD j []=if j=w.t then fC (out.getD w.t []) r else out.getD j []:=fun j=>kQ _ _ _ _ _ (by rw[W.len];exact ht)
 have up:∀j x,kM (out.getD j []) x→kM ((out.set w.t (fC (out.getD w.t []) r)).getD j []) x:=fun j x h=>by
  rw[hset]
  split
  ·rename_i ej;rw[ej] at h;exact aCU.2 (.inl h)
  exact h
 refine⟨by simp[W.len],fun j=>?_,fun j q hq=>?_,up _ _ W.start,?_,?_,W.pv,?_⟩
 ·rw[hset]
  split
  ·exact(W.can _).put hd
  exact W.can j
 ·rw[hset] at hq
  split at hq
  ·rename_i ej
   subst ej
   rcases(fX _ _ _).1 hq with eq|⟨h1,_⟩
   ·subst eq;exact Val.step (by rw[hf];exact W.pv p hp) hw e
   exact W.val _ q h1
  exact W.val j q hq
 ·intro x hx
  rcases List.mem_append.1 hx with h|h
  ·exact W.lt x h
  simp at h;omega
 ·intro j hj hn hk q hq v hv hvf r' hr'
  have hjt:j≠w.t:=fun ej=>hn (by simp[ej])
  rw[hset,if_neg hjt] at hq
  exact up _ _ (W.clo j hj (fun h=>hn (by simp[h])) hk q hq v hv hvf r' hr')
 rcases W.me with h|⟨h1,h2⟩
 ·exact .inl (by simp[h])
 by_cases ek:k=w.t
 ·exact .inl (by simp[ek])
 refine .inr ⟨by rw[hset,if_neg ek];exact h1,?_⟩
 rintro v hv q hq (hD|⟨ev,eq⟩) hvf r' hr'
 ·exact up _ _ (h2 v hv q hq hD hvf r' hr')
 subst ev eq
 rw[e] at hr'
 injection hr' with hr'
 subst hr'
 rw[hset,if_pos rfl]
 exact aCU.2 (.inr (Pa.le_refl _))
theorem lM.finish{ws:List We}{n a k:Nat}{paths:List Pa}{out:List (List Pa)}{todo:List Nat}(W:lM ws n a k paths (fun _ _=>True) out todo):aCv ws n a out todo:=by
 refine⟨W.len,W.can,W.val,W.start,W.lt,fun j hj hn=>?_⟩
 by_cases e:j=k
 ·subst e
  rcases W.me with h|⟨h1,h2⟩
  ·exact absurd h hn
  intro p hp w hw hf r hr
  rw[h1] at hp
  exact h2 w hw p hp trivial hf r hr
 exact W.clo j hj hn e
structure gZ(ws:List We)(a k:Nat)(l:List Pa):Prop where
 can:Can l
 val:∀p∈l,Val ws a k p
 dom:∀p,Val ws a k p→kM l p
theorem aCv.done{ws:List We}{n a:Nat}{out:List (List Pa)}(ht:∀w∈ws,w.t<n)(ha:a<n)(W:aCv ws n a out [])(k:Nat):gZ ws a k (out.getD k []):=by
 refine⟨W.can k,W.val k,?_⟩
 have key:∀(l:List We) (j:Nat) (p r:Pa),j<n→kM (out.getD j []) p→run p l=some r→fM ws j l k→kM (out.getD k []) r:=by
  intro l
  induction l with
  |nil=>
   intro j p r hj hd hr hw
   have hr:some p=some r:=hr
   injection hr with hr
   subst hr
   have hw:j=k:=hw
   subst hw
   exact hd
  |cons w l ih=>
   rintro j p r hj ⟨q,hq,hle⟩ hr ⟨h1,h2,h3⟩
   have hr:((p.thn w.p).bind fun q=>run q l)=some r:=hr
   cases e:p.thn w.p with
   |none=>rw[e] at hr;cases hr
   |some p'=>
    rw[e] at hr
    have hqo:=(W.val j q hq).ok
    obtain⟨q',k1,k2⟩:=Pa.thn_mono hqo hle e
    obtain⟨x,hx,hxl⟩:=W.clo j hj (by simp) q hq w h1 h2 q' k1
    exact ih w.t p' r (ht w h1) ⟨x,hx,Pa.le_trans hxl k2⟩ hr h3
 rintro p ⟨l,h1,h2⟩
 exact key l a Pa.nought p ha W.start h2 h1
theorem gZ.unique{ws:List We}{a k:Nat}{l m:List Pa}(hl:gZ ws a k l)(hm:gZ ws a k m):l=m:=by
 have one:∀{l m:List Pa},gZ ws a k l→gZ ws a k m→∀x∈l,x∈m:=by
  intro l m hl hm x hx
  obtain⟨q,hq,hle⟩:=hm.dom x (hl.val x hx)
  obtain⟨y,hy,hle2⟩:=hl.dom q (hm.val q hq)
  have e:=hl.can.anti hy hx (Pa.le_trans hle2 hle)
  subst e
  rw[Pa.le_antisymm hle2 hle]
  exact hq
 exact hl.can.unique hm.can fun x=>⟨one hl hm x,one hm hl x⟩
structure aIW(ws:List We)(n a r:Nat)(at':List (List Pa)):Prop where
 len:at'.length=n
 can:∀k,k<n→Can (at'.getD k [])
 val:∀k,k<n→∀p∈at'.getD k [],Val ws a k p
 dom:∀k,k<n→∀l p,l.length≤r→fM ws a l k→run Pa.nought l=some p→kM (at'.getD k []) p
structure aLg(l m:List Pa):Prop where
 can:Can m
 sub:∀p∈m,p∈l
 dom:∀p∈l,kM m p
theorem aIW.first{ws:List We}{n a:Nat}(ha:a<n):aIW ws n a 0 ((List.replicate n []).set a [Pa.nought]):=by
 have hset:∀j,((List.replicate n ([]:List Pa)).set a [Pa.nought]).getD j []=if j=a then [Pa.nought] else []:=fun j=>by
  rw[kQ _ _ _ _ _ (by simpa using ha)]
  split
  ·rfl
  rw[List.getD_eq_getElem?_getD,List.getElem?_replicate];split<;>rfl
 refine⟨by simp,fun k _=>?_,fun k _ p hp=>?_,fun k _ l p hl hw hr=>?_⟩
 ·rw[hset];split<;>simp[Can]
 ·rw[hset] at hp
  split at hp
  ·rename_i e
   simp at hp
   subst e hp
   exact Val.nought ws k
  cases hp
 have e:l=[]:=List.length_eq_zero_iff.1 (by omega)
 subst e
 have hw:a=k:=hw
 have hr:some Pa.nought=some p:=hr
 injection hr with hr
 subst hw hr
 rw[hset,if_pos rfl]
 exact⟨Pa.nought,by simp,Pa.le_refl _⟩
theorem aCv.first{ws:List We}{n a:Nat}(ha:a<n):aCv ws n a ((List.replicate n []).set a [Pa.nought]) [a]:=by
 have hset:∀j,((List.replicate n ([]:List Pa)).set a [Pa.nought]).getD j []=if j=a then [Pa.nought] else []:=fun j=>by
  rw[kQ _ _ _ _ _ (by simpa using ha)]
  split
  ·rfl
  rw[List.getD_eq_getElem?_getD,List.getElem?_replicate];split<;>rfl
 refine⟨by simp,fun k=>?_,fun k p hp=>?_,?_,by simpa using ha,fun k hk hn p hp=>?_⟩
 ·rw[hset];split<;>simp[Can]
 ·rw[hset] at hp
  split at hp
  ·rename_i e
   simp at hp
   subst e hp
   exact Val.nought ws k
  cases hp
 ·rw[hset,if_pos rfl]
  exact⟨Pa.nought,by simp,Pa.le_refl _⟩
 rw[hset,if_neg (by simpa using hn)] at hp
 cases hp
section
variable{α:Type} [DecidableEq α]{lt:α→α→Bool}
structure Ord(lt:α→α→Bool):Prop where
 irr:∀x,lt x x=false
 trans:∀x y z,lt x y=true→lt y z=true→lt x z=true
 tot:∀x y,lt x y=false→lt y x=false→x=y
theorem Ord.asym(O:Ord lt){x y:α}(h:lt x y=true):lt y x=false:=by
 cases e:lt y x with
 |false=>rfl
 |true=>have:=O.trans x y x h e;rw[O.irr] at this;cases this
def Inc(lt:α→α→Bool)(l:List α):Prop:=l.Pairwise fun x y=>lt x y=true
theorem Inc.unique(O:Ord lt):∀{l m:List α},Inc lt l→Inc lt m→(∀x,x∈l↔x∈m)→l=m
 | [],[],_,_,_=>rfl
 | [],y::m,_,_,h=>by have:=(h y).2 (by simp);cases this
 |x::l,[],_,_,h=>by have:=(h x).1 (by simp);cases this
 |x::l,y::m,hl,hm,h=>by
  have hl':=List.pairwise_cons.1 hl
  have hm':=List.pairwise_cons.1 hm
  have e:x=y:=by
   rcases List.mem_cons.1 ((h x).1 (by simp)) with e|e
   ·exact e
   rcases List.mem_cons.1 ((h y).2 (by simp)) with e2|e2
   ·exact e2.symm
   have h1:=O.asym (hm'.1 x e)
   rw[hl'.1 y e2] at h1
   cases h1
  subst e
  have hx1:x∉l:=fun hx=>by have:=hl'.1 x hx;rw[O.irr] at this;cases this
  have hx2:x∉m:=fun hx=>by have:=hm'.1 x hx;rw[O.irr] at this;cases this
  rw[Inc.unique O hl'.2 hm'.2 fun z=>?_]
  constructor
  ·intro hz
   rcases List.mem_cons.1 ((h z).1 (by simp[hz])) with e|e
   ·subst e;exact absurd hz hx1
   exact e
  intro hz
  rcases List.mem_cons.1 ((h z).2 (by simp[hz])) with e|e
  ·subst e;exact absurd hz hx2
  exact e
def csT(out:List α)(x:α):List α:=if out.getLast?=some x then out else out++[x]
def cs(l:List α):List α:=l.foldl csT []
theorem aCm(l:List α)(x:α):cs (l++[x])=csT (cs l) x:=by simp[cs]
theorem aJD(out:List α)(x:α):(csT out x).length≤out.length+1:=by unfold csT;split<;>simp
theorem aFS:∀(l:List α),(cs l).getLast?=l.getLast?:=by
 intro l
 rcases List.eq_nil_or_concat l with h|⟨m,x,h⟩
 ·subst h;rfl
 subst h
 rw[List.concat_eq_append,aCm,List.getLast?_append]
 unfold csT
 split
 ·rename_i e;rw[e];rfl
 rw[List.getLast?_append];simp
theorem aGY(l:List α):∀out:List α,(l.foldl csT out).length≤out.length+l.length:=by
 induction l with
 |nil=>intro out;simp
 |cons x l ih=>
  intro out
  have:=ih (csT out x)
  have h2:=aJD out x
  simp only[List.foldl_cons,List.length_cons]
  omega
theorem cs_len(l:List α):(cs l).length≤l.length:=by simpa [cs] using aGY l []
theorem zO(O:Ord lt):∀(l out:List α),Inc lt out→l.Pairwise (fun x y=>lt y x=false)→(∀z∈out,∀y∈l,lt y z=false)→Inc lt (l.foldl csT out)∧∀x,x∈l.foldl csT out↔x∈out∨x∈l
 | [],out,h,_,_=>⟨h,fun x=>by simp⟩
 |x::l,out,h,hs,hb=>by
  obtain⟨h1,h2⟩:=List.pairwise_cons.1 hs
  have key:Inc lt (csT out x)∧(∀z,z∈csT out x↔z∈out∨z=x):=by
   unfold csT
   split
   ·rename_i e
    refine⟨h,fun z=>⟨.inl,fun hz=>?_⟩⟩
    rcases hz with hz|rfl
    ·exact hz
    exact List.mem_of_getLast? e
   rename_i e
   refine⟨List.pairwise_append.2 ⟨h,by simp,fun z hz y hy=>?_⟩,fun z=>by simp⟩
   simp at hy
   subst hy
   cases ez:lt z y with
   |true=>rfl
   |false=>
    have hzy:=O.tot z y ez (hb z hz y (by simp))
    subst hzy
    --it stands in the list,and not at its end
    exfalso
    obtain⟨a,b,rfl⟩:=List.append_of_mem hz
    cases b with
    |nil=>exact e (by simp)
    |cons u b=>
     have h3:=(List.pairwise_append.1 h).2.1
     have h4:=(List.pairwise_cons.1 h3).1 u (by simp)
     have h5:=hb u (by simp) z (by simp)
     rw[h4] at h5
     cases h5
  obtain⟨k1,k2⟩:=key
  have:=zO O l (csT out x) k1 h2 (fun z hz y hy=>by
   rcases(k2 z).1 hz with hz|rfl
   ·exact hb z hz y (by simp[hy])
   exact h1 y hy)
  refine⟨this.1,fun z=>?_⟩
  rw[List.foldl_cons,this.2,k2]
  simp[or_assoc]
theorem aKv(O:Ord lt){l:List α}(hs:l.Pairwise fun x y=>lt y x=false):Inc lt (cs l)∧∀x,x∈cs l↔x∈l:=by
 have:=zO O l [] List.Pairwise.nil hs (by simp)
 exact⟨this.1,fun x=>by rw[show cs l=l.foldl csT [] from rfl,this.2];simp⟩
def yW(lt:α→α→Bool):List α→α→List α
 | [],w=>[w]
 |x::l,w=>if lt x w=true then x::yW lt l w else if x=w then x::l else w::x::l
theorem aDp(l:List α)(w z:α):z∈yW lt l w↔z=w∨z∈l:=by
 induction l with
 |nil=>simp[yW]
 |cons x l ih=>
  unfold yW
  split
  ·simp only[List.mem_cons,ih]
   constructor
   ·rintro(h|h|h)
    ·exact .inr (.inl h)
    ·exact .inl h
    exact .inr (.inr h)
   rintro(h|h|h)
   ·exact .inr (.inl h)
   ·exact .inl h
   exact .inr (.inr h)
  split
  ·rename_i e
   subst e
   simp
  simp
theorem aIo(O:Ord lt){l:List α}(h:Inc lt l)(w:α):Inc lt (yW lt l w):=by
 induction l with
 |nil=>simp[yW,Inc]
 |cons x l ih=>
  obtain⟨h1,h2⟩:=List.pairwise_cons.1 h
  unfold yW
  split
  ·rename_i e
   refine List.pairwise_cons.2 ⟨fun y hy=>?_,ih h2⟩
   rcases(aDp l w y).1 hy with rfl|hy
   ·exact e
   exact h1 y hy
  rename_i e
  split
  ·exact h
  rename_i e2
  have hwx:lt w x=true:=by
   cases e3:lt w x with
   |true=>rfl
   |false=>exact absurd (O.tot x w (by simpa using e) e3) e2
  refine List.pairwise_cons.2 ⟨fun y hy=>?_,h⟩
  rcases List.mem_cons.1 hy with rfl|hy
  ·exact hwx
  exact O.trans _ _ _ hwx (h1 y hy)
def aCd(lt:α→α→Bool)(l:List α):List α:=l.foldl (yW lt) []
theorem nM(O:Ord lt):∀(l out:List α),Inc lt out→Inc lt (l.foldl (yW lt) out)∧∀z,z∈l.foldl (yW lt) out↔z∈out∨z∈l
 | [],out,h=>⟨h,fun z=>by simp⟩
 |x::l,out,h=>by
  have:=nM O l (yW lt out x) (aIo O h x)
  refine⟨this.1,fun z=>?_⟩
  rw[List.foldl_cons,this.2,aDp]
  simp only[List.mem_cons]
  constructor
  ·rintro((h|h)|h)
   ·exact .inr (.inl h)
   ·exact .inl h
   exact .inr (.inr h)
  rintro(h|h|h)
  ·exact .inl (.inr h)
  ·exact .inl (.inl h)
  exact .inr h
theorem aGM(O:Ord lt){l m:List α}(hp:m.Perm l)(hs:m.Pairwise fun x y=>lt y x=false):cs m=aCd lt l:=by
 have h1:=aKv O hs
 have h2:=nM O l [] List.Pairwise.nil
 exact Inc.unique O h1.1 h2.1 fun z=>by rw[h1.2,show z∈aCd lt l↔_ from h2.2 z,hp.mem_iff];simp
end
end Go.Proofs.YtecepaehmojpgaaGreat
namespace Go.Proofs.YtecepaehmojpgaaGreat
open Go.Proofs.YtecepaehmojpgaaGreat renaming gW→uA,fK→uB,cU→uC,cV→uD,cK→uE,gX→uF,dI→uG,cW→uH,cX→uI,cL→uJ,dH→uK,dN→uL,fL→uM,gY→uN,eG→uO,bQ→uP,kN→uQ,iP→uR,eU→uS
open Go.RowKit Go.Sort
attribute [local irreducible] IntKind.wrap
namespace LB
abbrev Compact_r0(k:Sh):List aA:=[
 ⟨some 2,none, .val (.move (.const (.sl k .nil [])))⟩]
abbrev Compact_r1:List aA:=[
 ⟨some 6,none, .val (.move (.slot 0))⟩,
 ⟨some 7,none, .val (.len (.slot 6))⟩,
 ⟨some 8,none, .val (.bin .lss (.slot 7) (.const (.int .i64 2)))⟩]
abbrev Compact_r2:List aA:=[
 ⟨some 9,none, .val (.move (.slot 0))⟩,
 ⟨some 2,none, .val (.move (.slot 9))⟩]
abbrev Compact_r3:List aA:=[
 ⟨some 3,none, .val (.move (.const (.int .i64 1)))⟩]
abbrev Compact_r4:List aA:=[
 ⟨some 10,none, .val (.move (.slot 3))⟩,
 ⟨some 11,none, .val (.move (.slot 0))⟩,
 ⟨some 12,none, .val (.len (.slot 11))⟩,
 ⟨some 13,none, .val (.bin .lss (.slot 10) (.slot 12))⟩]
abbrev Compact_r5(k:Sh)(e:rT):List (aA×List Nat):=[
 (⟨some 16,none, .val (.move (.slot 0))⟩,[]),
 (⟨some 17,none, .val (.move (.slot 3))⟩,[]),
 (⟨some 18,none, .val (.idxA k (.slot 16) (.slot 17))⟩,[0,1]),
 (⟨some 19,none, .val (.load k (.slot 18))⟩,[0,1,2]),
 (⟨some 20,none, .val (.move (.slot 0))⟩,[]),
 (⟨some 21,none, .val (.move (.slot 3))⟩,[]),
 (⟨some 22,none, .val (.bin .sub (.slot 21) (.const (.int .i64 1)))⟩,[5]),
 (⟨some 23,none, .val (.idxA k (.slot 20) (.slot 22))⟩,[4,5,6]),
 (⟨some 24,none, .val (.load k (.slot 23))⟩,[4,5,6,7]),
 (⟨some 25,none, .val (.eq false e (.slot 19) (.slot 24))⟩,[0,1,2,3,4,5,6,7,8])]
abbrev Compact_r5t:List aA:=[]
abbrev Compact_r6(k:Sh):List aA:=[
 ⟨some 26,none, .val (.move (.slot 0))⟩,
 ⟨some 27,none, .val (.move (.slot 3))⟩,
 ⟨some 28,none, .val (.slc k (.slot 26) (.some (.slot 27)) .none .none)⟩,
 ⟨some 4,none, .val (.move (.slot 28))⟩]
abbrev Compact_r7:List aA:=[
 ⟨some 5,none, .val (.move (.const (.int .i64 1)))⟩]
abbrev Compact_r8:List aA:=[
 ⟨some 29,none, .val (.move (.slot 5))⟩,
 ⟨some 30,none, .val (.move (.slot 4))⟩,
 ⟨some 31,none, .val (.len (.slot 30))⟩,
 ⟨some 32,none, .val (.bin .lss (.slot 29) (.slot 31))⟩]
abbrev Compact_r9(k:Sh)(e:rT):List (aA×List Nat):=[
 (⟨some 35,none, .val (.move (.slot 4))⟩,[]),
 (⟨some 36,none, .val (.move (.slot 5))⟩,[]),
 (⟨some 37,none, .val (.idxA k (.slot 35) (.slot 36))⟩,[0,1]),
 (⟨some 38,none, .val (.load k (.slot 37))⟩,[0,1,2]),
 (⟨some 39,none, .val (.move (.slot 4))⟩,[]),
 (⟨some 40,none, .val (.move (.slot 5))⟩,[]),
 (⟨some 41,none, .val (.bin .sub (.slot 40) (.const (.int .i64 1)))⟩,[5]),
 (⟨some 42,none, .val (.idxA k (.slot 39) (.slot 41))⟩,[4,5,6]),
 (⟨some 43,none, .val (.load k (.slot 42))⟩,[4,5,6,7]),
 (⟨some 44,none, .val (.eq true e (.slot 38) (.slot 43))⟩,[0,1,2,3,4,5,6,7,8])]
abbrev Compact_r9t:List aA:=[]
abbrev Compact_r10(k:Sh):List aA:=[
 ⟨some 45,none, .val (.move (.slot 0))⟩,
 ⟨some 46,none, .val (.move (.slot 3))⟩,
 ⟨some 47,none, .val (.move (.slot 4))⟩,
 ⟨some 48,none, .val (.move (.slot 5))⟩,
 ⟨some 49,none, .val (.idxA k (.slot 47) (.slot 48))⟩,
 ⟨some 50,none, .val (.load k (.slot 49))⟩,
 ⟨some 51,none, .val (.idxA k (.slot 45) (.slot 46))⟩,
 ⟨none,none, .store k (.slot 51) (.slot 50)⟩]
abbrev Compact_r11:List aA:=[
 ⟨some 52,none, .val (.move (.slot 3))⟩,
 ⟨some 53,none, .val (.bin .add (.slot 52) (.const (.int .i64 1)))⟩,
 ⟨some 3,none, .val (.move (.slot 53))⟩]
abbrev Compact_r12:List aA:=[
 ⟨some 33,none, .val (.move (.slot 5))⟩,
 ⟨some 34,none, .val (.bin .add (.slot 33) (.const (.int .i64 1)))⟩,
 ⟨some 5,none, .val (.move (.slot 34))⟩]
abbrev Compact_l0(k:Sh)(e:rT):bE:=(.seq (.seq (.ops Compact_r8) (.cond (.slot 32) .skip (.exit 2))) (.seq (.block 3 (.seq (.draw 10 (Compact_r9 k e) Compact_r9t) (.cond (.slot 44) (.seq (.ops (Compact_r10 k)) (.ops Compact_r11)) .skip))) (.ops Compact_r12)))
abbrev Compact_r13(k:Sh)(z:V):List aA:=[
 ⟨some 54,none, .val (.move (.slot 0))⟩,
 ⟨some 55,none, .val (.move (.slot 3))⟩,
 ⟨some 56,none, .val (.slc k (.slot 54) (.some (.slot 55)) .none .none)⟩,
 ⟨none,none, .clear k (.slot 56) z⟩]
abbrev Compact_r14(k:Sh):List aA:=[
 ⟨some 57,none, .val (.move (.slot 0))⟩,
 ⟨some 58,none, .val (.move (.slot 3))⟩,
 ⟨some 59,none, .val (.slc k (.slot 57) .none (.some (.slot 58)) .none)⟩,
 ⟨some 2,none, .val (.move (.slot 59))⟩]
abbrev Compact_r15:List aA:=[
 ⟨some 14,none, .val (.move (.slot 3))⟩,
 ⟨some 15,none, .val (.bin .add (.slot 14) (.const (.int .i64 1)))⟩,
 ⟨some 3,none, .val (.move (.slot 15))⟩]
abbrev Compact_l1(k:Sh)(z:V)(e:rT):bE:=(.seq (.seq (.ops Compact_r4) (.cond (.slot 13) .skip (.exit 0))) (.seq (.block 1 (.seq (.draw 10 (Compact_r5 k e) Compact_r5t) (.cond (.slot 25) (.seq (.ops (Compact_r6 k)) (.seq (.seq (.ops Compact_r7) (.block 2 (.loop (Compact_l0 k e)))) (.seq (.ops (Compact_r13 k z)) (.seq (.ops (Compact_r14 k)) .ret)))) .skip))) (.ops Compact_r15)))
abbrev Compact_r16:List aA:=[
 ⟨some 60,none, .val (.move (.slot 0))⟩,
 ⟨some 2,none, .val (.move (.slot 60))⟩]
def Compact(k:Sh)(z:V)(e:rT):LFn:=⟨(.seq (.ops (Compact_r0 k)) (.seq (.seq (.ops Compact_r1) (.cond (.slot 8) (.seq (.ops Compact_r2) .ret) .skip)) (.seq (.seq (.ops Compact_r3) (.block 0 (.loop (Compact_l1 k z e)))) (.seq (.ops Compact_r16) .ret)))),61,[.slot 2]⟩
end LB
section
variable{P:Program}{α:Type} [DecidableEq α] [Inhabited α](e:α→V){k:Sh}{z:V}{q:rT}
theorem aIL{out:List α}{x:α}(h:out.getLast?=some x):csT out x=out:=by unfold csT;rw[if_pos h]
theorem aJC{out:List α}{x y:α}(h:out.getLast?=some y)(hne:x≠y):csT out x=out++[x]:=by
 unfold csT
 rw[if_neg]
 rw[h]
 intro e2
 injection e2 with e2
 exact hne e2.symm
theorem tE(ds:List α)(j:Nat)(h1:0<j)(h2:j<ds.length)(he:ds[j]=ds[j-1]):cs (ds.take (j+1))=cs (ds.take j):=by
 rw[List.take_succ_eq_append_getElem h2,aCm]
 refine aIL ?_
 rw[aFS,List.getLast?_eq_getElem?,List.getElem?_take,if_pos (by simp;omega),List.length_take,he,show min j ds.length-1=j-1 by omega,List.getElem?_eq_getElem (by omega)]
theorem wI(ds:List α)(j:Nat)(h1:0<j)(h2:j<ds.length)(he:ds[j]≠ds[j-1]):cs (ds.take (j+1))=cs (ds.take j)++[ds[j]]:=by
 rw[List.take_succ_eq_append_getElem h2,aCm]
 refine aJC (y:=ds[j-1]) ?_ he
 rw[aFS,List.getLast?_eq_getElem?,List.getElem?_take,if_pos (by simp;omega),List.length_take,show min j ds.length-1=j-1 by omega,List.getElem?_eq_getElem (by omega)]
set_option maxHeartbeats 1000000 in
theorem aAB{f:Nat}(hL:aH P f=some (LB.Compact k z q))(hz:z.fits k=true)(hfit:∀x,(e x).fits k=true)(heq:∀x y,veq q (e x) (e y)=some (decide (x=y)))(n:Nat)(ds:List α)(hlen:ds.length≤1000000)(h:Hp)(nx:Nat)(hn:h n=some (.arr k (ds.map e))):
 aW P f [.rs n k 0 ds.length] h nx fun v h' _=>∃off len es,v= .rs n k off len∧off+len≤es.length∧h'=h.set n (.arr k es)∧(es.drop off).take len=(cs ds).map e:=by
 have hsetn:h.set n (.arr k (ds.map e))=h:=by
  funext x
  unfold Hp.set
  split
  ·rename_i hx;rw[hx,hn]
  rfl
 have hall:∀hp:Hp,hp=h→cs ds=ds→∃off len es,V.rs n k 0 ds.length= .rs n k off len∧off+len≤es.length∧hp=h.set n (.arr k es)∧(es.drop off).take len=(cs ds).map e:=by
  rintro hp rfl hc
  exact⟨0,ds.length,ds.map e,rfl,by simp,hsetn.symm,by rw[hc,List.drop_zero];exact List.take_of_length_le (by simp)⟩
 refine aD hL fun hd=>?_
 simp only[jL,jM,jA,jB,jN,jO,jP,jQ,V.undef]
 rcases Nat.lt_or_ge ds.length 2 with h2|h2
 ·have hc:decide ((ds.length:Int)<2)=true:=decide_eq_true (by omega)
  refine aue hc ?_
  refine aG h (Hp.le_refl _) ?_
  simp only[go_sem,reduceIte,jA,jB,jC,jD,reduceCtorEq,jE,jF]
  refine hall h rfl ?_
  match ds,h2 with
  | [],_=>rfl
  | [x],_=>rfl
 have hc:decide ((ds.length:Int)<2)=false:=decide_eq_false (by omega)
 refine aue hc ?_
 refine aY (fun i:Nat=>aB 61 0 [(0, .rs n k 0 ds.length),(3, .int .i64 i)]) (fun i hp _=>1≤i∧i≤ds.length∧hp=h∧cs (ds.take i)=ds.take i) (fun i=>ds.length-i) 1 ⟨Nat.le_refl _,by omega,rfl,?_⟩ ?_ ?_
 ·match ds,h2 with
  |x::l,_=>rfl
 ·simp only[WkL,aB,jH,jI,jJ,go_sem,reduceIte,jA,jB,jC,jD,reduceCtorEq,jE,jF]
 rintro i hp nx1 ⟨hi1,hi,rfl,hcs⟩
 generalize hQ:bZ _ _ _ _ _=Q0
 simp only[aB,go_sem,reduceIte,jA,jB,jC,jD,reduceCtorEq,jE,jF]
 rcases Nat.lt_or_ge i ds.length with hlt|hge
 ·have hc:decide ((i:Int)<(ds.length:Int))=true:=decide_eq_true (by omega)
  have hg:=cE e ds i hlt
  have hg1:=cE e ds (i-1) (by omega)
  have hw1:IntKind.i64.wrap ((i:Int)-1)=((i-1:Nat):Int):=by rw[bM]<;>omega
  have hw:IntKind.i64.wrap ((i:Int)+1)=((i+1:Nat):Int):=by rw[bM]<;>omega
  have hlt1:i-1<ds.length:=by omega
  have hne:(i=ds.length)=False:=eq_false (by omega)
  (repeat' (first|(with_reducible first|refine stp ?_|refine uP (by decide) ?_|refine uQ (fun _=>?_) (fun _=>?_))|((first|(with_reducible refine uA ?_;first|refine uB rfl ?_ ?_|(first|refine uC rfl ?_|refine uD rfl ?_)|refine uE rfl ?_)|(with_reducible refine uF ?_;first|refine uG rfl ?_ ?_|(first|refine uH rfl ?_|refine uI rfl ?_)|refine uJ rfl ?_|refine uK (uL ?_)|refine uK (uM ?_))|(with_reducible refine uN ?_;refine uO rfl ?_))<;>try simp only[hc,hg,hg1,hw1,hw,hlt,hlt1,hn,hne,heq,hfit,jK,jG,go_sem,reduceIte,jA,jB,jC,jD,reduceCtorEq,jE,jF])|(with_reducible refine uR ?_;refine uS rfl ?_)|omega))
  ·rename_i hx
   have hx:ds[i]=ds[i-1]:=of_decide_eq_true hx
   refine aY (fun p:Nat×Nat×List α=>aB 61 0 [(0, .rs n k 0 ds.length),(3, .int .i64 p.1),(4, .rs n k i (ds.length-i)),(5, .int .i64 p.2.1)])
    (fun p hp2 _=>i≤p.1∧p.1+1≤i+p.2.1∧1≤p.2.1∧i+p.2.1≤ds.length∧p.2.2.length=ds.length∧p.2.2.take p.1=cs (ds.take (i+p.2.1))∧p.2.2.drop p.1=ds.drop p.1∧hp2 n=some (.arr k (p.2.2.map e))∧∀x,x≠n→hp2 x=hp x)
    (fun p=>ds.length-p.2.1) (i,1,ds) ⟨Nat.le_refl _,Nat.le_refl _,Nat.le_refl _,by dsimp only;omega,rfl,?_,rfl,hn,fun _ _=>rfl⟩ ?_ ?_
   ·dsimp only;rw[tE ds i (by omega) hlt hx,hcs]
   ·simp only[WkL,aB,jH,jI,jJ,go_sem,reduceIte,jA,jB,jC,jD,reduceCtorEq,jE,jF]
   rintro⟨m,k2,xs⟩ hp2 nx2 ⟨a1,a2,a3,a4,a5,a6,a7,a8,a9⟩
   generalize hQ2:bZ _ _ _ _ _=Q2
   dsimp only at a1 a2 a3 a4 a5 a6 a7 a8
   simp only[aB,go_sem,reduceIte,jA,jB,jC,jD,reduceCtorEq,jE,jF]
   have hat:∀j,m≤j→(hj:j<ds.length)→xs[j]'(by omega)=ds[j]:=fun j hm hj=>by
    have e1:xs[j]'(by omega)=(xs.drop m)[j-m]'(by simp;omega):=by simp[show m+(j-m)=j by omega]
    have e2:ds[j]=(ds.drop m)[j-m]'(by simp;omega):=by simp[show m+(j-m)=j by omega]
    rw[e1,e2]
    congr 1
   rcases Nat.lt_or_ge k2 (ds.length-i) with hlt2|hge2
   ·have hcc:decide ((k2:Int)<((ds.length-i:Nat):Int))=true:=decide_eq_true (by omega)
    have hj:i+k2<ds.length:=by omega
    have g1:(xs.map e).getD (i+k2) (.tup [])=e ds[i+k2]:=by rw[cE e xs (i+k2) (by omega),hat _ (by omega) hj]
    have g2:(xs.map e).getD (i+(k2-1)) (.tup [])=e ds[i+k2-1]:=by
     rw[cE e xs (i+(k2-1)) (by omega)]
     rw[show e xs[i+(k2-1)]=e (xs[i+k2-1]'(by omega)) by congr 2;omega,hat _ (by omega) (by omega)]
    have w1:IntKind.i64.wrap ((k2:Int)-1)=((k2-1:Nat):Int):=by rw[bM]<;>omega
    have w2:IntKind.i64.wrap ((k2:Int)+1)=((k2+1:Nat):Int):=by rw[bM]<;>omega
    have w3:IntKind.i64.wrap ((m:Int)+1)=((m+1:Nat):Int):=by rw[bM]<;>omega
    have b1:i+(k2-1)<ds.length:=by omega
    have b2:k2-1<ds.length-i:=by omega
    have b3:m<ds.length:=by omega
    (repeat' (first|(with_reducible first|refine stp ?_|refine uP (by decide) ?_|refine uQ (fun _=>?_) (fun _=>?_))|((first|(with_reducible refine uA ?_;first|refine uB rfl ?_ ?_|(first|refine uC rfl ?_|refine uD rfl ?_)|refine uE rfl ?_)|(with_reducible refine uF ?_;first|refine uG rfl ?_ ?_|(first|refine uH rfl ?_|refine uI rfl ?_)|refine uJ rfl ?_|refine uK (uL ?_)|refine uK (uM ?_))|(with_reducible refine uN ?_;refine uO rfl ?_))<;>try simp only[hcc,g1,g2,w1,w2,w3,hj,b1,b2,b3,hlt2,a8,a5,heq,hfit,jK,jG,go_sem,reduceIte,jA,jB,jC,jD,reduceCtorEq,jE,jF])|(with_reducible refine uR ?_;refine uS rfl ?_)|omega))
    ·rename_i hy
     have hy:ds[i+k2]≠ds[i+k2-1]:=by simpa using hy
     rw[←hQ2]
     refine aI (m+1,k2+1,xs.set m ds[i+k2]) (by dsimp only;omega) ⟨by dsimp only;omega,by dsimp only;omega,by dsimp only;omega,by dsimp only;omega,by simpa using a5,?_,?_,?_,?_⟩ ?_
     ·dsimp only
      rw[show i+(k2+1)=(i+k2)+1 by omega,wI ds (i+k2) (by omega) hj hy,←a6,List.take_succ_eq_append_getElem (by simp;omega),List.getElem_set_self,List.take_set_of_le (Nat.le_refl _)]
     ·dsimp only
      rw[List.drop_set_of_lt (by omega)]
      have:=congrArg (List.drop 1) a7
      rwa [List.drop_drop,List.drop_drop] at this
     ·simp only[go_sem,reduceIte,jA,jB,jC,jD,reduceCtorEq,jE,jF]
      rw[List.map_set,cE e xs m (by omega),cG (hfit _) (hfit _)]
     ·intro x hx
      simp only[hx,go_sem,reduceIte,jA,jB,jC,jD,reduceCtorEq,jE,jF]
      exact a9 x hx
     simp only[WkL,aB,jH,jI,jJ,go_sem,reduceIte,jA,jB,jC,jD,reduceCtorEq,jE,jF]
    rename_i hy
    have hy:ds[i+k2]=ds[i+k2-1]:=by simpa using hy
    rw[←hQ2]
    refine aI (m,k2+1,xs) (by dsimp only;omega) ⟨a1,by dsimp only;omega,by dsimp only;omega,by dsimp only;omega,a5,?_,a7,a8,a9⟩ ?_
    ·dsimp only
     rw[show i+(k2+1)=(i+k2)+1 by omega,tE ds (i+k2) (by omega) hj hy,a6]
    simp only[WkL,aB,jH,jI,jJ,go_sem,reduceIte,jA,jB,jC,jD,reduceCtorEq,jE,jF]
   have hcc:decide ((k2:Int)<((ds.length-i:Nat):Int))=false:=decide_eq_false (by omega)
   have hend:i+k2=ds.length:=by omega
   rw[hend,List.take_length] at a6
   have hm1:m<ds.length:=by omega
   have hml:(m=ds.length)=False:=eq_false (by omega)
   refine aue hcc ?_
   rw[←hQ2]
   refine aue (ee5 hml hm1 a8 a5 hz) ?_
   rw[←hQ]
   (repeat' (first|(with_reducible first|refine stp ?_|refine uP (by decide) ?_|refine uQ (fun _=>?_) (fun _=>?_))|((first|(with_reducible refine uA ?_;first|refine uB rfl ?_ ?_|(first|refine uC rfl ?_|refine uD rfl ?_)|refine uE rfl ?_)|(with_reducible refine uF ?_;first|refine uG rfl ?_ ?_|(first|refine uH rfl ?_|refine uI rfl ?_)|refine uJ rfl ?_|refine uK (uL ?_)|refine uK (uM ?_))|(with_reducible refine uN ?_;refine uO rfl ?_))<;>try simp only[ go_sem,reduceIte,jA,jB,jC,jD,reduceCtorEq,jE,jF])|(with_reducible refine uR ?_;refine uS rfl ?_)|omega))
   refine aG _ (Hp.le_refl _) ⟨0,m,(xs.map e).take m++List.replicate (ds.length-m) z++(xs.map e).drop (m+(ds.length-m)),?_,?_,?_,?_⟩
   ·simp only[Nat.sub_zero,go_sem,reduceIte,jA,jB,jC,jD,reduceCtorEq,jE,jF]
   ·simp;omega
   ·funext x
    by_cases hx:x=n
    ·subst hx;simp only[go_sem,reduceIte,jA,jB,jC,jD,reduceCtorEq,jE,jF]
    simp only[hx,go_sem,reduceIte,jA,jB,jC,jD,reduceCtorEq,jE,jF];exact a9 x hx
   rw[List.drop_zero,List.append_assoc,List.take_append_of_le_length (by simp;omega),List.take_take,Nat.min_self,←List.map_take,a6]
  rename_i hx
  have hx:ds[i]≠ds[i-1]:=of_decide_eq_false hx
  rw[←hQ]
  refine aI (i+1) (by omega) ⟨by omega,by omega,rfl,?_⟩ ?_
  ·rw[wI ds i (by omega) hlt hx,hcs,←List.take_succ_eq_append_getElem hlt]
  simp only[WkL,aB,jH,jI,jJ,go_sem,reduceIte,jA,jB,jC,jD,reduceCtorEq,jE,jF]
 have hc:decide ((i:Int)<(ds.length:Int))=false:=decide_eq_false (by omega)
 refine aue hc ?_
 rw[←hQ]
 refine au ?_
 refine aG hp (Hp.le_refl _) ?_
 simp only[go_sem,reduceIte,jA,jB,jC,jD,reduceCtorEq,jE,jF]
 refine hall hp rfl ?_
 rw[show i=ds.length by omega,List.take_length] at hcs
 exact hcs
end
namespace LB
abbrev DeleteFunc_r0(k:Sh):List aA:=[
 ⟨some 4,none, .val (.move (.const (.sl k .nil [])))⟩]
abbrev DeleteFunc_r1(f0:Nat):List aA:=[
 ⟨some 8,none, .val (.move (.slot 0))⟩,
 ⟨some 9,none, .val (.move (.slot 1))⟩,
 ⟨some 10,none, .call f0 [(.slot 8),(.slot 9)]⟩,
 ⟨some 5,none, .val (.move (.slot 10))⟩]
abbrev DeleteFunc_r2:List aA:=[
 ⟨some 11,none, .val (.move (.slot 5))⟩,
 ⟨some 12,none, .val (.bin .eql (.slot 11) (.const (.int .i64 (-1))))⟩]
abbrev DeleteFunc_r3:List aA:=[
 ⟨some 13,none, .val (.move (.slot 0))⟩,
 ⟨some 4,none, .val (.move (.slot 13))⟩]
abbrev DeleteFunc_r4:List aA:=[
 ⟨some 14,none, .val (.move (.slot 5))⟩,
 ⟨some 15,none, .val (.bin .add (.slot 14) (.const (.int .i64 1)))⟩,
 ⟨some 6,none, .val (.move (.slot 15))⟩]
abbrev DeleteFunc_r5:List aA:=[
 ⟨some 16,none, .val (.move (.slot 6))⟩,
 ⟨some 17,none, .val (.move (.slot 0))⟩,
 ⟨some 18,none, .val (.len (.slot 17))⟩,
 ⟨some 19,none, .val (.bin .lss (.slot 16) (.slot 18))⟩]
abbrev DeleteFunc_r6(k:Sh)(z:V):List aA:=[
 ⟨some 22,none, .val (.move (.slot 0))⟩,
 ⟨some 23,none, .val (.move (.slot 6))⟩,
 ⟨some 24,none, .val (.idxA k (.slot 22) (.slot 23))⟩,
 ⟨some 25,none, .val (.load k (.slot 24))⟩,
 ⟨some 7,none, .box k (.const z)⟩,
 ⟨none,none, .store k (.slot 7) (.slot 25)⟩]
abbrev DeleteFunc_r7(k:Sh):List aA:=[
 ⟨some 26,none, .val (.move (.slot 1))⟩,
 ⟨some 27,none, .val (.load k (.slot 7))⟩,
 ⟨some 28,none, .callv (.slot 26) [(.slot 27)]⟩,
 ⟨some 29,none, .val (.not (.slot 28))⟩]
abbrev DeleteFunc_r8(k:Sh):List aA:=[
 ⟨some 30,none, .val (.move (.slot 0))⟩,
 ⟨some 31,none, .val (.move (.slot 5))⟩,
 ⟨some 32,none, .val (.load k (.slot 7))⟩,
 ⟨some 33,none, .val (.idxA k (.slot 30) (.slot 31))⟩,
 ⟨none,none, .store k (.slot 33) (.slot 32)⟩]
abbrev DeleteFunc_r9:List aA:=[
 ⟨some 34,none, .val (.move (.slot 5))⟩,
 ⟨some 35,none, .val (.bin .add (.slot 34) (.const (.int .i64 1)))⟩,
 ⟨some 5,none, .val (.move (.slot 35))⟩]
abbrev DeleteFunc_r10:List aA:=[
 ⟨some 20,none, .val (.move (.slot 6))⟩,
 ⟨some 21,none, .val (.bin .add (.slot 20) (.const (.int .i64 1)))⟩,
 ⟨some 6,none, .val (.move (.slot 21))⟩]
abbrev DeleteFunc_l0(k:Sh)(z:V):bE:=(.seq (.seq (.ops DeleteFunc_r5) (.cond (.slot 19) .skip (.exit 0))) (.seq (.block 1 (.seq (.ops (DeleteFunc_r6 k z)) (.seq (.ops (DeleteFunc_r7 k)) (.cond (.slot 29) (.seq (.ops (DeleteFunc_r8 k)) (.ops DeleteFunc_r9)) .skip)))) (.ops DeleteFunc_r10)))
abbrev DeleteFunc_r11(k:Sh)(z:V):List aA:=[
 ⟨some 36,none, .val (.move (.slot 0))⟩,
 ⟨some 37,none, .val (.move (.slot 5))⟩,
 ⟨some 38,none, .val (.slc k (.slot 36) (.some (.slot 37)) .none .none)⟩,
 ⟨none,none, .clear k (.slot 38) z⟩]
abbrev DeleteFunc_r12(k:Sh):List aA:=[
 ⟨some 39,none, .val (.move (.slot 0))⟩,
 ⟨some 40,none, .val (.move (.slot 5))⟩,
 ⟨some 41,none, .val (.slc k (.slot 39) .none (.some (.slot 40)) .none)⟩,
 ⟨some 4,none, .val (.move (.slot 41))⟩]
def DeleteFunc(k:Sh)(z:V)(f0:Nat):LFn:=⟨(.seq (.ops (DeleteFunc_r0 k)) (.seq (.ops (DeleteFunc_r1 f0)) (.seq (.seq (.ops DeleteFunc_r2) (.cond (.slot 12) (.seq (.ops DeleteFunc_r3) .ret) .skip)) (.seq (.seq (.ops DeleteFunc_r4) (.block 0 (.loop (DeleteFunc_l0 k z)))) (.seq (.ops (DeleteFunc_r11 k z)) (.seq (.ops (DeleteFunc_r12 k)) .ret)))))),42,[.slot 4]⟩
end LB
theorem aIs{hc h:Hp}{n:Nat}(hh:Hp.has hc h)(hn:hc n=none)(b:Blk):Hp.has hc (h.set n b):=fun m k e hb=>by
 unfold Hp.set
 rw[if_neg (fun e2=>by rw[e2,hn] at e;cases e)]
 exact hh m k e hb
section
variable{P:Program}{α:Type} [Inhabited α](e:α→V){k:Sh}{z:V}
theorem nN{f:Nat}(hfit:∀x,(e x).fits k=true)(hL:aH P f=some (LB.IndexFunc k))(p:α→Bool)(n:Nat)(l:List α)(g:Nat)(caps:List V)(h:Hp)(hn:h n=some (.arr k (l.map e)))(hp:∀x∈l,aZ P g ([e x]++caps) h (.bool (p x)))(hl:l.length≤1000000000):
 aZ P f [.rs n k 0 l.length, .fn (.func g) [] caps] h (.int .i64 (eK p l)):=by
 refine aU (fun L=>trivial) fun h' nx hh=>aD hL fun hd=>?_
 have hn':=hh n _ hn rfl
 simp only[jL,jM,jA,jB,jN,jO,jP,jQ,V.undef]
 refine au ?_
 refine aY (fun i:Nat=>aB 19 0 [(0, .rs n k 0 l.length),(1, .fn (.func g) [] caps),(7, .int .i64 l.length),(8, .int .i64 i)]) (fun i hp2 _=>i≤l.length∧hp2=h'∧∀x∈l.take i,p x=false) (fun i=>l.length-i) 0 ⟨Nat.zero_le _,rfl,by simp⟩ ?_ ?_
 ·simp only[WkL,aB,jH,jI,jJ,go_sem,reduceIte,jA,jB,jC,jD,reduceCtorEq,jE,jF]
 rintro i hp2 nx1 ⟨hi,rfl,hno⟩
 generalize hQ:bZ _ _ _ _ _=Q0
 simp only[aB,go_sem,reduceIte,jA,jB,jC,jD,reduceCtorEq,jE,jF]
 rcases Nat.lt_or_ge i l.length with hlt|hge
 ·have hc:decide ((i:Int)<(l.length:Int))=true:=decide_eq_true (by omega)
  have hg:=cE e l i hlt
  have hw:IntKind.i64.wrap ((i:Int)+1)=((i+1:Nat):Int):=by rw[bM]<;>omega
  have htk:l.take (i+1)=l.take i++[l[i]]:=List.take_succ_eq_append_getElem hlt
  (repeat' (first|(with_reducible first|refine stp ?_|refine uP (by decide) ?_|refine uQ (fun _=>?_) (fun _=>?_))|((first|(with_reducible refine uA ?_;first|refine uB rfl ?_ ?_|refine nK rfl (hp l[i] (List.getElem_mem _)) (by simp only[go_sem,reduceIte,jA,jB,jC,jD,reduceCtorEq,jE,jF]) hh ?_|(first|refine uC rfl ?_|refine uD rfl ?_)|refine uE rfl ?_)|(with_reducible refine uF ?_;first|refine uG rfl ?_ ?_|(first|refine uH rfl ?_|refine uI rfl ?_)|refine uJ rfl ?_|refine uK (uL ?_)|refine uK (uM ?_))|(with_reducible refine uN ?_;refine uO rfl ?_))<;>try simp only[hc,hg,hw,hlt,hn',hfit,jK,jG,jQ,go_sem,reduceIte,jA,jB,jC,jD,reduceCtorEq,jE,jF])|(with_reducible refine uR ?_;refine uS rfl ?_)|omega))
  ·rename_i hx
   rw[←hQ]
   refine au ?_
   refine aG hp2 (Hp.le_refl _) ⟨?_,rfl⟩
   simp only[go_sem,reduceIte,jA,jB,jC,jD,reduceCtorEq,jE,jF]
   rw[eK,(List.findIdx?_eq_some_iff_getElem (p:=p) (xs:=l) (i:=i)).2 ⟨hlt,hx,fun j hj=>by simp[hno l[j] (List.mem_take_iff_getElem.2 ⟨j,by omega,rfl⟩)]⟩]
  rename_i hx
  rw[←hQ]
  refine aI (i+1) (by omega) ⟨hlt,rfl,fun x hx2=>?_⟩ ?_
  ·rw[htk] at hx2
   rcases List.mem_append.1 hx2 with h1|h1
   ·exact hno x h1
   simp at h1;rw[h1];exact hx
  simp only[WkL,aB,jH,jI,jJ,go_sem,reduceIte,jA,jB,jC,jD,reduceCtorEq,jE,jF]
 have hc:decide ((i:Int)<(l.length:Int))=false:=decide_eq_false (by omega)
 refine aue hc ?_
 rw[←hQ]
 refine au ?_
 refine aG hp2 (Hp.le_refl _) ⟨?_,rfl⟩
 simp only[go_sem,reduceIte,jA,jB,jC,jD,reduceCtorEq,jE,jF]
 rw[show i=l.length by omega,List.take_length] at hno
 rw[eK,List.findIdx?_eq_none_iff.2 (fun x hx=>by simp[hno x hx])]
theorem nY{f f0:Nat}(hfit:∀x,(e x).fits k=true)(hL:aH P f=some (LB.ContainsFunc k f0))(hL0:aH P f0=some (LB.IndexFunc k))(p:α→Bool)(n:Nat)(l:List α)(g:Nat)(caps:List V)(h:Hp)(hn:h n=some (.arr k (l.map e)))(hp:∀x∈l,aZ P g ([e x]++caps) h (.bool (p x)))(hl:l.length≤1000000000):
 aZ P f [.rs n k 0 l.length, .fn (.func g) [] caps] h (.bool (l.any p)):=by
 refine aU (fun L=>trivial) fun h' nx hh=>aD hL fun hd=>?_
 simp only[jL,jM,jA,jB,jN,jO,jP,jQ,V.undef]
 (repeat' (first|(with_reducible first|refine stp ?_|refine uP (by decide) ?_|refine uQ (fun _=>?_) (fun _=>?_))|((first|(with_reducible refine uA ?_;first|refine uB rfl ?_ ?_|refine aQ (nN e hfit hL0 p n l g caps h hn hp hl) (by simp only[go_sem,reduceIte,jA,jB,jC,jD,reduceCtorEq,jE,jF]) hh ?_|(first|refine uC rfl ?_|refine uD rfl ?_)|refine uE rfl ?_)|(with_reducible refine uF ?_;first|refine uG rfl ?_ ?_|(first|refine uH rfl ?_|refine uI rfl ?_)|refine uJ rfl ?_|refine uK (uL ?_)|refine uK (uM ?_))|(with_reducible refine uN ?_;refine uO rfl ?_))<;>try simp only[ go_sem,reduceIte,jA,jB,jC,jD,reduceCtorEq,jE,jF])|(with_reducible refine uR ?_;refine uS rfl ?_)|omega))
 refine aG h' (Hp.le_refl _) ⟨?_,rfl⟩
 simp only[go_sem,reduceIte,jA,jB,jC,jD,reduceCtorEq,jE,jF]
 rw[←wH]
theorem aDB(p:α→Bool)(l:List α):((eK p l==-1)=true↔∀x∈l,p x=false)∧∀i:Nat,eK p l=i→∃h:i<l.length,p l[i]=true∧∀x∈l.take i,p x=false:=by
 unfold eK
 cases hf:l.findIdx? p with
 |none=>
  have:=List.findIdx?_eq_none_iff.1 hf
  refine⟨by simpa using this,fun i hi=>?_⟩
  exact absurd hi (by simp only;omega)
 |some j=>
  obtain⟨h1,h2,h3⟩:=List.findIdx?_eq_some_iff_getElem.1 hf
  refine⟨⟨fun h=>?_,fun h=>?_⟩,fun i hi=>?_⟩
  ·exfalso;simp at h<;>omega
  ·have:=h l[j] (List.getElem_mem _);rw[this] at h2;cases h2
  have:j=i:=by simp only at hi;omega
  subst this
  refine⟨h1,h2,fun x hx=>?_⟩
  obtain⟨q,hq,rfl⟩:=List.mem_take_iff_getElem.1 hx
  have:=h3 q (by omega)
  simpa using this
set_option maxHeartbeats 1000000 in
theorem vJ{f f0:Nat}(hL:aH P f=some (LB.DeleteFunc k z f0))(hL0:aH P f0=some (LB.IndexFunc k))(hz:z.fits k=true)(hfit:∀x,(e x).fits k=true)(p:α→Bool)(n:Nat)(l:List α)(g:Nat)(caps:List V)(h hc:Hp)(nx:Nat)(hn:h n=some (.arr k (l.map e)))
 (hcn:hc n=none) (hch:Hp.has hc h) (hcd:aM hc nx) (hp:∀x∈l,aZ P g ([e x]++caps) hc (.bool (p x))) (hl:l.length≤1000000):
 aW P f [.rs n k 0 l.length, .fn (.func g) [] caps] h nx fun v h' nx'=>∃zs,v= .rs n k 0 (l.filter fun x=> !(p x)).length∧h'=h.set n (.arr k ((l.filter fun x=> !(p x)).map e++zs)):=by
 have hsetn:h.set n (.arr k (l.map e))=h:=by
  funext x
  unfold Hp.set
  split
  ·rename_i hx;rw[hx,hn]
  rfl
 refine aD hL fun hd=>?_
 have hnlt:n<nx:=hd n _ hn
 obtain⟨k1,k2⟩:=aDB p l
 simp only[jL,jM,jA,jB,jN,jO,jP,jQ,V.undef]
 cases hneg:(eK p l==-1) with
 |true=>
  have hall:=k1.1 hneg
  (repeat' (first|(with_reducible first|refine stp ?_|refine uP (by decide) ?_|refine uQ (fun _=>?_) (fun _=>?_))|((first|(with_reducible refine uA ?_;first|refine uB rfl ?_ ?_|refine aQ (nN e hfit hL0 p n l g caps h hn (fun x hx=>(hp x hx).mono hch) (by omega)) (by simp only[go_sem,reduceIte,jA,jB,jC,jD,reduceCtorEq,jE,jF]) (aR _) ?_|(first|refine uC rfl ?_|refine uD rfl ?_)|refine uE rfl ?_)|(with_reducible refine uF ?_;first|refine uG rfl ?_ ?_|(first|refine uH rfl ?_|refine uI rfl ?_)|refine uJ rfl ?_|refine uK (uL ?_)|refine uK (uM ?_))|(with_reducible refine uN ?_;refine uO rfl ?_))<;>try simp only[hneg,go_sem,reduceIte,jA,jB,jC,jD,reduceCtorEq,jE,jF])|(with_reducible refine uR ?_;refine uS rfl ?_)|omega))
  have hfl:(l.filter fun x=> !(p x))=l:=List.filter_eq_self.2 (fun x hx=>by simp[hall x hx])
  refine aG h (Hp.le_refl _) ⟨[],?_,?_⟩
  ·simp only[hfl,go_sem,reduceIte,jA,jB,jC,jD,reduceCtorEq,jE,jF]
  rw[hfl,List.append_nil,hsetn]
 |false=>
  obtain⟨i0,hi0⟩:∃i:Nat,eK p l=i:=by
   cases hf:l.findIdx? p with
   |none=>exact absurd (k1.2 (by simpa using List.findIdx?_eq_none_iff.1 hf)) (by rw[hneg];simp)
   |some j=>exact⟨j,by unfold eK;rw[hf]⟩
  obtain⟨b1,b2,b3⟩:=k2 i0 hi0
  have hw0:IntKind.i64.wrap ((i0:Int)+1)=((i0+1:Nat):Int):=by rw[bM]<;>omega
  rw[hi0] at hneg
  (repeat' (first|(with_reducible first|refine stp ?_|refine uP (by decide) ?_|refine uQ (fun _=>?_) (fun _=>?_))|((first|(with_reducible refine uA ?_;first|refine uB rfl ?_ ?_|refine aQ (nN e hfit hL0 p n l g caps h hn (fun x hx=>(hp x hx).mono hch) (by omega)) (by simp only[go_sem,reduceIte,jA,jB,jC,jD,reduceCtorEq,jE,jF]) (aR _) ?_|(first|refine uC rfl ?_|refine uD rfl ?_)|refine uE rfl ?_)|(with_reducible refine uF ?_;first|refine uG rfl ?_ ?_|(first|refine uH rfl ?_|refine uI rfl ?_)|refine uJ rfl ?_|refine uK (uL ?_)|refine uK (uM ?_))|(with_reducible refine uN ?_;refine uO rfl ?_))<;>try simp only[hneg,hi0,hw0,go_sem,reduceIte,jA,jB,jC,jD,reduceCtorEq,jE,jF])|(with_reducible refine uR ?_;refine uS rfl ?_)|omega))
  refine aY (fun q:Nat×Nat×List α=>aB 42 0 [(0, .rs n k 0 l.length),(1, .fn (.func g) [] caps),(5, .int .i64 q.1),(6, .int .i64 q.2.1)])
   (fun q hp2 nx1=>q.1+1≤q.2.1∧q.2.1≤l.length∧q.2.2.length=l.length∧q.2.2.take q.1=(l.take q.2.1).filter (fun x=> !(p x))∧q.2.2.drop q.1=l.drop q.1∧hp2 n=some (.arr k (q.2.2.map e))∧nx≤nx1∧∀x,x≠n→x<nx→hp2 x=h x)
   (fun q=>l.length-q.2.1) (i0,i0+1,l) ⟨Nat.le_refl _,b1,rfl,?_,rfl,hn,Nat.le_refl _,fun _ _ _=>rfl⟩ ?_ ?_
  ·dsimp only
   rw[List.take_succ_eq_append_getElem b1,List.filter_append,List.filter_eq_self.2 (fun x hx=>by simp[b3 x hx])]
   simp[b2]
  ·simp only[WkL,aB,jH,jI,jJ,go_sem,reduceIte,jA,jB,jC,jD,reduceCtorEq,jE,jF]
  rintro⟨i,j,xs⟩ hp2 nx1 ⟨a1,a2,a3,a4,a5,a6,a7,a8⟩
  generalize hQ:bZ _ _ _ _ _=Q0
  dsimp only at a1 a2 a3 a4 a5 a6
  simp only[aB,go_sem,reduceIte,jA,jB,jC,jD,reduceCtorEq,jE,jF]
  have hhas2:Hp.has hc hp2:=fun m kk hm hbm=>by
   have hmn:m≠n:=fun e2=>by rw[e2,hcn] at hm;cases hm
   rw[a8 m hmn (hcd m _ hm)]
   exact hch m kk hm hbm
  have hcf:∀m,nx≤m→hc m=none:=fun m hm=>aM.none hcd hm
  rcases Nat.lt_or_ge j l.length with hlt|hge
  ·have hcc:decide ((j:Int)<(l.length:Int))=true:=decide_eq_true (by omega)
   have hxj:xs[j]'(by omega)=l[j]:=by
    have e1:xs[j]'(by omega)=(xs.drop i)[j-i]'(by simp;omega):=by simp[show i+(j-i)=j by omega]
    have e2:l[j]=(l.drop i)[j-i]'(by simp;omega):=by simp[show i+(j-i)=j by omega]
    rw[e1,e2]
    congr 1
   have hg:(xs.map e).getD j (.tup [])=e l[j]:=by rw[cE e xs j (by omega),hxj]
   have hw:IntKind.i64.wrap ((j:Int)+1)=((j+1:Nat):Int):=by rw[bM]<;>omega
   have hw2:IntKind.i64.wrap ((i:Int)+1)=((i+1:Nat):Int):=by rw[bM]<;>omega
   have hnl:n<nx1:=by omega
   have hil:i<l.length:=by omega
   have htk:l.take (j+1)=l.take j++[l[j]]:=List.take_succ_eq_append_getElem hlt
   (repeat' (first|(with_reducible first|refine stp ?_|refine uP (by decide) ?_|refine uQ (fun _=>?_) (fun _=>?_))|((first|(with_reducible refine uA ?_;first|refine uB rfl ?_ ?_|refine nK rfl (hp l[j] (List.getElem_mem _)) (by simp only[go_sem,reduceIte,jA,jB,jC,jD,reduceCtorEq,jE,jF]) (by repeat (first|exact hhas2|refine aIs ?_ (by first|exact hcn|exact hcf _ (by omega)) _)) ?_|(first|refine uC rfl ?_|refine uD rfl ?_)|refine uE rfl ?_)|(with_reducible refine uF ?_;first|refine uG rfl ?_ ?_|(first|refine uH rfl ?_|refine uI rfl ?_)|refine uJ rfl ?_|refine uK (uL ?_)|refine uK (uM ?_))|(with_reducible refine uN ?_;refine uO rfl ?_))<;>try simp only[hcc,hg,hw,hw2,hnl,hil,hlt,a6,a3,hz,hfit,jK,jG,go_sem,reduceIte,jA,jB,jC,jD,reduceCtorEq,jE,jF])|(with_reducible refine uR ?_;refine uS rfl ?_)|omega))
   ·rename_i hx
    have hx:p l[j]=false:=by simpa using hx
    rw[←hQ]
    refine aI (i+1,j+1,xs.set i l[j]) (by dsimp only;omega) ⟨by dsimp only;omega,by dsimp only;omega,by simpa using a3,?_,?_,?_,by omega,fun x hxn hxl=>?_⟩ ?_
    ·dsimp only
     rw[htk,List.filter_append,←a4,List.take_succ_eq_append_getElem (by simp;omega),List.getElem_set_self,List.take_set_of_le (Nat.le_refl _)]
     simp[hx]
    ·dsimp only
     rw[List.drop_set_of_lt (by omega)]
     have:=congrArg (List.drop 1) a5
     rwa [List.drop_drop,List.drop_drop] at this
    ·simp only[hnl,go_sem,reduceIte,jA,jB,jC,jD,reduceCtorEq,jE,jF]
     rw[List.map_set,cE e xs i (by omega),cG (hfit _) (hfit _)]
    ·have h1:(x=nx1)=False:=eq_false (by omega)
     simp only[hxn,h1,go_sem,reduceIte,jA,jB,jC,jD,reduceCtorEq,jE,jF]
     exact a8 x hxn hxl
    simp only[WkL,aB,jH,jI,jJ,go_sem,reduceIte,jA,jB,jC,jD,reduceCtorEq,jE,jF]
   rename_i hx
   have hx:p l[j]=true:=by simpa using hx
   rw[←hQ]
   refine aI (i,j+1,xs) (by dsimp only;omega) ⟨by dsimp only;omega,by dsimp only;omega,a3,?_,a5,?_,by omega,fun x hxn hxl=>?_⟩ ?_
   ·dsimp only
    rw[htk,List.filter_append,←a4]
    simp[hx]
   ·simp only[hnl,a6,go_sem,reduceIte,jA,jB,jC,jD,reduceCtorEq,jE,jF]
   ·have h1:(x=nx1)=False:=eq_false (by omega)
    simp only[hxn,h1,go_sem,reduceIte,jA,jB,jC,jD,reduceCtorEq,jE,jF]
    exact a8 x hxn hxl
   simp only[WkL,aB,jH,jI,jJ,go_sem,reduceIte,jA,jB,jC,jD,reduceCtorEq,jE,jF]
  have hcc:decide ((j:Int)<(l.length:Int))=false:=decide_eq_false (by omega)
  rw[show j=l.length by omega,List.take_length] at a4
  have hil:i<l.length:=by omega
  have hine:(i=l.length)=False:=eq_false (by omega)
  refine aue hcc ?_
  rw[←hQ]
  refine aue (ee5 hine hil a6 a3 hz) ?_
  have hlen:(l.filter fun x=> !(p x)).length=i:=by rw[←a4];simp;omega
  refine aG (h.set n (.arr k ((l.filter fun x=> !(p x)).map e++(List.replicate (l.length-i) z++(xs.map e).drop (i+(l.length-i)))))) ?_ ⟨_,?_,rfl⟩
  ·intro x b hxb
   by_cases hxn:x=n
   ·subst hxn
    simp only[go_sem,reduceIte,jA,jB,jC,jD,reduceCtorEq,jE,jF] at hxb⊢
    rw[←hxb,←a4,List.map_take,List.append_assoc]
   have hxl:x<nx:=hd x b (by simpa only[Hp.set,if_neg hxn] using hxb)
   simp only[hxn,go_sem,reduceIte,jA,jB,jC,jD,reduceCtorEq,jE,jF] at hxb⊢
   rw[a8 x hxn hxl];exact hxb
  simp only[hlen,Nat.sub_zero,go_sem,reduceIte,jA,jB,jC,jD,reduceCtorEq,jE,jF]
theorem zN{f f0:Nat}(hfit:∀x,(e x).fits k=true)(hL:aH P f=some (LB.DeleteFunc k z f0))(hL0:aH P f0=some (LB.IndexFunc k))(p:α→Bool)(g:Nat)(caps:List V)(h:Hp):
 aZ P f [.sl k .nil [], .fn (.func g) [] caps] h (.sl k .nil []):=by
 refine aU (fun L=>by simp[V.names,bP]) fun h' nx hh=>aD hL fun hd=>?_
 have hneg:(eK p ([]:List α)==-1)=true:=by simp[eK]
 have hi:aZ P f0 [.sl k .nil [], .fn (.func g) [] caps] h' (.int .i64 (eK p [])):=by
  have:=qM e hfit hL0 p .nil [] g caps h' (fun x hx=>by cases hx) (by simp)
  simpa using this
 simp only[jL,jM,jA,jB,jN,jO,jP,jQ,V.undef]
 have C5:=hi
 refine aue hneg ?_
 exact aG h' (Hp.le_refl _) ⟨rfl,rfl⟩
end
end Go.Proofs.YtecepaehmojpgaaGreat
