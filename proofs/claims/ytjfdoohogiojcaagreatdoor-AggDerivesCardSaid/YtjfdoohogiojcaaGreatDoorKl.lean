/-
Texts of this proof,one behind the other. No conditions.
-/
import Derived.Test.YtjfdoohogiojcaaGreatDoorKd
import Derived.Test.YtjfdoohogiojcaaGreatDoorKf
import Derived.Test.YtjfdoohogiojcaaGreatDoorKe
import Derived.Test.YtjfdoohogiojcaaGreatDoorKdb
import Derived.Shelf.SlSortCmp.Whole1
open Go.Proofs.YtjfdoohogiojcaaGreatDoor.Hp renaming le_refl→Ka,set→Kb,aAL→Kc,none→Kd
open List renaming take_succ_eq_append_getElem→Ke,drop_eq_getElem_cons→Kf,getD_eq_getElem?_getD→Ki,length_eq_zero_iff→Kq,drop_of_length_le→Ks,replicate_succ→Kx,replicate_zero→Ky,getD_cons_succ→Kz,getD_cons_zero→KA,map_cons→KB,map_nil→KE,append_assoc→KF,getElem_mem→KG,take_length→KH,length_cons→KI,cons_append→KJ,length_map→KM,length_nil→KN,nil_append→KO,drop_drop→KS
open Nat renaming le_refl→Kg,lt_or_ge→Kh,reduceAdd→Ko,reduceSub→Kp,zero_le→Kv,zero_add→KD,reduceLeDiff→KK,reduceEqDiff→KL,add_zero→KV,reduceLT→KW,mul_one→KX
open Bool renaming false_eq_true→Kj,not_false→KR,not_true→KU
open Array renaming getD_eq_getD_getElem?→Kk,getElem?_append_left→Km,getElem?_eq_none→Kt,getElem?_modify→Kw
open Go renaming undef→Ku
open Option renaming isSome_none→KC
open Int renaming reduceToNat→KP
open Go.World renaming shape?→KQ,cell?→KT
open Nat renaming reduceAdd→jA,reduceSub→jB,reduceLT→jC,reduceLeDiff→jD,reduceEqDiff→jE
open Int renaming reduceToNat→jF,toNat_natCast→jG,natCast_add→jH,natCast_one→jI,natCast_zero→jJ
open List renaming length_map→jK,length_cons→jL,length_nil→jM,replicate_succ→jN,replicate_zero→jO,cons_append→jP,nil_append→jQ
set_option linter.unusedSimpArgs false
set_option linter.unusedVariables false
set_option linter.unusedSectionVars false
set_option maxHeartbeats 8000000
namespace Go.Proofs.YtjfdoohogiojcaaGreatDoor
open Go.RowKit Go.Sort
attribute [local irreducible] IntKind.wrap
abbrev vls(o:Own)(l:List Vl):V:= .sl (.agg 3) o (l.map Vl.v)
abbrev TR:Type:=Own×List Vl
def TR.v(p:TR):V:=vls p.1 p.2
abbrev tps(o:Own)(l:List TR):V:= .sl .leaf o (l.map TR.v)
abbrev aS(l:List TR):List (List Vl):=l.map Prod.snd
def TR.ok(p:TR):Prop:=(p.1= .nil∧p.2=[])∨p.1= .free
theorem pG{o:Own}(l:List Vl)(h:o= .nil∨o= .free∨o= .full)(L:Nat→Prop):(vls o l).names L:=by
 rcases h with rfl|rfl|rfl<;>exact⟨(fun n e=>by cases e),cN (fun x=>Vl.aAI L x) l⟩
theorem TR.names{p:TR}(h:p.ok)(L:Nat→Prop):p.v.names L:=pG p.2 (by rcases h with⟨h,_⟩|h<;>simp[h]) L
def Rd(h:Hp)(v:V)(l:List Vl):Prop:=(∃o,v=vls o l)∨∃n tail,v= .rs n (.agg 3) 0 l.length∧h n=some (.arr (.agg 3) (l.map Vl.v++tail))
theorem ur(l:List Vl)(tail:List V)(i:Nat)(h:i<l.length):(l.map Vl.v++tail).getD i (.tup [])=l[i].v:=by
 rw[Ki,List.getElem?_append_left (by simpa using h)];simp[h]
theorem ve{α:Type}(c:α→α→Int)(a b:List α)(i:Nat)(h1:i<a.length)(h2:i<b.length)(h0:c a[i] b[i]=0):dM c (a.drop i) (b.drop i)=dM c (a.drop (i+1)) (b.drop (i+1)):=by
 rw[Kf h1,Kf h2];simp only[dM,orC,h0,if_true]
set_option maxHeartbeats 2000000 in
theorem uZ(o1:Own)(a b:List Vl)(ha:a.length≤1000000000)(v2:V)(h:Hp)(hv:Rd h v2 b):aO Tryz.prog 45 [vls o1 a,v2, .fn (.func 46) [] []] h (.int .i64 (bK a b)):=by
 refine aI (fun L=>trivial) fun h' nx hh=>aB L.aTJ fun hd=>?_;simp only[jL,jM,jA,jB,jN,jO,jP,jQ,V.undef];have hal:(a.map Vl.v).length=a.length:=jK ..;refine aue hal ?_
 refine aT (fun i:Nat=>aD 39 0 [(0,vls o1 a),(1,v2),(2, .fn (.func 46) [] []),(11,vls o1 a),(12, .int .i64 a.length),(13, .int .i64 i)])
  (fun i hp nx1=>i≤a.length∧i≤b.length∧bK a b=bK (a.drop i) (b.drop i)∧nx≤nx1∧aW hp nx1∧Hp.same nx h' hp)
  (fun i=>a.length-i) 0 ⟨Kv _,Kv _,rfl,Kg _,hd,Hp.same.aAt⟩ (by simp only[WkL,aD,jH,jI,jJ,go_sem,reduceIte,jA,jB,jC,jD,reduceCtorEq,jE,jF]) ?_
 rintro i hp nx1 ⟨hi,hib,hcm,hnx,hdm,hsm⟩;generalize hQ:bB _ _ _ _ _=Q0;simp only[aD,go_sem,reduceIte,jA,jB,jC,jD,reduceCtorEq,jE,jF];rcases Kh i a.length with hlt|hge
 ·have hc:decide ((i:Int)<(a.length:Int))=true:=dct;have hw:IntKind.i64.wrap ((i:Int)+1)=((i+1:Nat):Int):=wrp;have hg:(a.map Vl.v).getD i (.tup [])= .agg [.int .i64 a[i].k, .int .i64 a[i].n, .str a[i].s]:=aR Vl.v a i hlt;rcases Kh i b.length with hlb|hgb
  ·have hc2:decide ((b.length:Int)≤(i:Int))=false:=dcf;have hk:=fun h=>tH a[i] b[i] h;have hg2:(b.map Vl.v).getD i (.tup [])= .agg [.int .i64 b[i].k, .int .i64 b[i].n, .str b[i].s]:=aR Vl.v b i hlb;obtain⟨c,hcc⟩:∃c,dQ a[i] b[i]=c:=⟨_,rfl⟩;rw[hcc] at hk;have aBA:c≠0→bK a b=c:=fun h0=>by
    rw[hcm,Kf hlt,Kf hlb];simp only[bK,dM,orC,hcc,if_neg h0]
   rcases hv with⟨o2,rfl⟩|⟨n,tail,rfl,hn⟩
   case' inl=>have E:=e9 hc hw hal hg hlt hc2 (@jK Vl V) jG (e2 hg2 hlb)
   case' inr=>
    have hn1:hp n=some (.arr (.agg 3) (b.map Vl.v++tail)):=by rw[hsm n (hd _ _ (hh _ _ hn rfl))];exact hh _ _ hn rfl
    have hn2:n<nx1:=hdm _ _ hn1;have hg3:(b.map Vl.v++tail).getD i (.tup [])= .agg [.int .i64 b[i].k, .int .i64 b[i].n, .str b[i].s]:=ur b tail i hlb;have hl3:(b.map Vl.v++tail).length=b.length+tail.length:=Zm;have hl4:i<b.length+tail.length:=or;have E:=e12 hc hw hal hg hlt hc2 (@jK Vl V) jG hn1 hn2 hg3 (e4 hlb hl3 hl4 KD)
   all_goals
    refine aue E ?_;refine dB rfl (hk _) rfl (aM _) ?_;refine Zn ?_;by_cases h0:c=0
    ·have hc3:(c != 0)=false:=bnf;refine aue hc3 ?_;rw[←hQ];refine aue hw ?_;exact aH (i+1) or ⟨hlt,hlb,by rw[hcm,bK,ve dQ a b i hlt hlb (by rw[hcc];exact h0)],or,dmo hdm,kep hsm⟩ (by simp only[WkL,aD,jH,jI,jJ,hw,go_sem,reduceIte,jA,jB,jC,jD,reduceCtorEq,jE,jF])
    have hc3:(c != 0)=true:=bnt;refine aue hc3 ?_;rw[←hQ];refine au ?_;exact aC h' (lef hd (hsm.le hd (Ka _))) ⟨by rw[aBA h0]<;>rfl,rfl⟩
  have hc2:decide ((b.length:Int)≤(i:Int))=true:=dct;have hl2:∃m:Nat,m=b.length:=⟨_,rfl⟩;have aBA:bK a b=1:=by
   rw[hcm,Kf hlt,Ks hgb];rfl
  rcases hv with⟨o2,rfl⟩|⟨n,tail,rfl,hn⟩
  all_goals
   refine aue (e8 hc hw hal hg hlt hc2 (@jK Vl V) jG) ?_;rw[←hQ];refine au ?_;exact aC h' (lef hd (hsm.le hd (Ka _))) ⟨by rw[aBA]<;>rfl,rfl⟩
 have hc:decide ((i:Int)<(a.length:Int))=false:=dcf;have hia:i=a.length:=or;have aBA:bK a b=if a.length<b.length then-1 else 0:=by
  rw[hcm,hia,List.drop_length];split
  ·rename_i k;rw[Kf k];rfl
  rw[Ks or];rfl
 by_cases hl:a.length<b.length
 ·have hc2:decide ((a.length:Int)<(b.length:Int))=true:=dct;rw[if_pos hl] at aBA;rcases hv with⟨o2,rfl⟩|⟨n,tail,rfl,hn⟩
  all_goals
   refine aue hc ?_;rw[←hQ];refine aue (e3 hc2 hal (@jK Vl V)) ?_;exact aC h' (lef hd (hsm.le hd (Ka _))) ⟨by rw[aBA]<;>rfl,rfl⟩
 have hc2:decide ((a.length:Int)<(b.length:Int))=false:=dcf;rw[if_neg hl] at aBA;rcases hv with⟨o2,rfl⟩|⟨n,tail,rfl,hn⟩
 all_goals
  refine aue hc ?_;rw[←hQ];refine aue (e3 hc2 hal (@jK Vl V)) ?_;exact aC h' (lef hd (hsm.le hd (Ka _))) ⟨by rw[aBA]<;>rfl,rfl⟩
theorem tJ(o1:Own)(a b:List Vl)(ha:a.length≤1000000000)(v2:V)(h:Hp)(hv:Rd h v2 b):aO Tryz.prog 24 [vls o1 a,v2] h (.int .i64 (bK a b)):=by
 refine aI (fun L=>trivial) fun h' nx hh=>aB L.aTh fun hd=>?_;simp only[jL,jM,jA,jB,jN,jO,jP,jQ,V.undef];refine au ?_;refine aP (uZ o1 a b ha v2 h hv) rfl hh ?_;refine Zn ?_;refine au ?_;exact aC h' (leo hd) ⟨rfl,rfl⟩
namespace LB
abbrev aBg(k:Sh):List aA:=[
 ⟨some 4,none, .val (.move (.const (.sl k .nil [])))⟩]
abbrev aBf:List aA:=[
 ⟨some 8,none, .val (.move (.slot 0))⟩,
 ⟨some 9,none, .val (.len (.slot 8))⟩,
 ⟨some 10,none, .val (.bin .lss (.slot 9) (.const (.int .i64 2)))⟩]
abbrev aBe:List aA:=[
 ⟨some 11,none, .val (.move (.slot 0))⟩,
 ⟨some 4,none, .val (.move (.slot 11))⟩]
abbrev aBd:List aA:=[
 ⟨some 5,none, .val (.move (.const (.int .i64 1)))⟩]
abbrev aBc:List aA:=[
 ⟨some 12,none, .val (.move (.slot 5))⟩,
 ⟨some 13,none, .val (.move (.slot 0))⟩,
 ⟨some 14,none, .val (.len (.slot 13))⟩,
 ⟨some 15,none, .val (.bin .lss (.slot 12) (.slot 14))⟩]
abbrev aBb(k:Sh):List (aA×List Nat):=[
 (⟨some 18,none, .val (.move (.slot 1))⟩,[]),
 (⟨some 19,none, .val (.move (.slot 0))⟩,[]),
 (⟨some 20,none, .val (.move (.slot 5))⟩,[]),
 (⟨some 21,none, .val (.idxA k (.slot 19) (.slot 20))⟩,[1,2]),
 (⟨some 22,none, .val (.load k (.slot 21))⟩,[1,2,3]),
 (⟨some 23,none, .val (.move (.slot 0))⟩,[]),
 (⟨some 24,none, .val (.move (.slot 5))⟩,[]),
 (⟨some 25,none, .val (.bin .sub (.slot 24) (.const (.int .i64 1)))⟩,[6]),
 (⟨some 26,none, .val (.idxA k (.slot 23) (.slot 25))⟩,[5,6,7]),
 (⟨some 27,none, .val (.load k (.slot 26))⟩,[5,6,7,8]),
 (⟨some 28,none, .callv (.slot 18) [(.slot 22),(.slot 27)]⟩,[0,1,2,3,4,5,6,7,8,9])]
abbrev aBO:List aA:=[]
abbrev aBa(k:Sh):List aA:=[
 ⟨some 29,none, .val (.move (.slot 0))⟩,
 ⟨some 30,none, .val (.move (.slot 5))⟩,
 ⟨some 31,none, .val (.slc k (.slot 29) (.some (.slot 30)) .none .none)⟩,
 ⟨some 6,none, .val (.move (.slot 31))⟩]
abbrev aBZ:List aA:=[
 ⟨some 7,none, .val (.move (.const (.int .i64 1)))⟩]
abbrev aBY:List aA:=[
 ⟨some 32,none, .val (.move (.slot 7))⟩,
 ⟨some 33,none, .val (.move (.slot 6))⟩,
 ⟨some 34,none, .val (.len (.slot 33))⟩,
 ⟨some 35,none, .val (.bin .lss (.slot 32) (.slot 34))⟩]
abbrev aBX(k:Sh):List (aA×List Nat):=[
 (⟨some 38,none, .val (.move (.slot 1))⟩,[]),
 (⟨some 39,none, .val (.move (.slot 6))⟩,[]),
 (⟨some 40,none, .val (.move (.slot 7))⟩,[]),
 (⟨some 41,none, .val (.idxA k (.slot 39) (.slot 40))⟩,[1,2]),
 (⟨some 42,none, .val (.load k (.slot 41))⟩,[1,2,3]),
 (⟨some 43,none, .val (.move (.slot 6))⟩,[]),
 (⟨some 44,none, .val (.move (.slot 7))⟩,[]),
 (⟨some 45,none, .val (.bin .sub (.slot 44) (.const (.int .i64 1)))⟩,[6]),
 (⟨some 46,none, .val (.idxA k (.slot 43) (.slot 45))⟩,[5,6,7]),
 (⟨some 47,none, .val (.load k (.slot 46))⟩,[5,6,7,8]),
 (⟨some 48,none, .callv (.slot 38) [(.slot 42),(.slot 47)]⟩,[0,1,2,3,4,5,6,7,8,9]),
 (⟨some 49,none, .val (.not (.slot 48))⟩,[0,1,2,3,4,5,6,7,8,9,10])]
abbrev aBN:List aA:=[]
abbrev aBV(k:Sh):List aA:=[
 ⟨some 50,none, .val (.move (.slot 0))⟩,
 ⟨some 51,none, .val (.move (.slot 5))⟩,
 ⟨some 52,none, .val (.move (.slot 6))⟩,
 ⟨some 53,none, .val (.move (.slot 7))⟩,
 ⟨some 54,none, .val (.idxA k (.slot 52) (.slot 53))⟩,
 ⟨some 55,none, .val (.load k (.slot 54))⟩,
 ⟨some 56,none, .val (.idxA k (.slot 50) (.slot 51))⟩,
 ⟨none,none, .store k (.slot 56) (.slot 55)⟩]
abbrev aBU:List aA:=[
 ⟨some 57,none, .val (.move (.slot 5))⟩,
 ⟨some 58,none, .val (.bin .add (.slot 57) (.const (.int .i64 1)))⟩,
 ⟨some 5,none, .val (.move (.slot 58))⟩]
abbrev aBT:List aA:=[
 ⟨some 36,none, .val (.move (.slot 7))⟩,
 ⟨some 37,none, .val (.bin .add (.slot 36) (.const (.int .i64 1)))⟩,
 ⟨some 7,none, .val (.move (.slot 37))⟩]
abbrev aBi(k:Sh):aJ:=(.seq (.seq (.ops aBY) (.cond (.slot 35) .skip (.exit 2))) (.seq (.block 3 (.seq (.draw 12 (aBX k) aBN) (.cond (.slot 49) (.seq (.ops (aBV k)) (.ops aBU)) .skip))) (.ops aBT)))
abbrev aBS(k:Sh)(z:V):List aA:=[
 ⟨some 59,none, .val (.move (.slot 0))⟩,
 ⟨some 60,none, .val (.move (.slot 5))⟩,
 ⟨some 61,none, .val (.slc k (.slot 59) (.some (.slot 60)) .none .none)⟩,
 ⟨none,none, .clear k (.slot 61) z⟩]
abbrev aBR(k:Sh):List aA:=[
 ⟨some 62,none, .val (.move (.slot 0))⟩,
 ⟨some 63,none, .val (.move (.slot 5))⟩,
 ⟨some 64,none, .val (.slc k (.slot 62) .none (.some (.slot 63)) .none)⟩,
 ⟨some 4,none, .val (.move (.slot 64))⟩]
abbrev aBQ:List aA:=[
 ⟨some 16,none, .val (.move (.slot 5))⟩,
 ⟨some 17,none, .val (.bin .add (.slot 16) (.const (.int .i64 1)))⟩,
 ⟨some 5,none, .val (.move (.slot 17))⟩]
abbrev aBh(k:Sh)(z:V):aJ:=(.seq (.seq (.ops aBc) (.cond (.slot 15) .skip (.exit 0))) (.seq (.block 1 (.seq (.draw 11 (aBb k) aBO) (.cond (.slot 28) (.seq (.ops (aBa k)) (.seq (.seq (.ops aBZ) (.block 2 (.loop (aBi k)))) (.seq (.ops (aBS k z)) (.seq (.ops (aBR k)) .ret)))) .skip))) (.ops aBQ)))
abbrev aBP:List aA:=[
 ⟨some 65,none, .val (.move (.slot 0))⟩,
 ⟨some 4,none, .val (.move (.slot 65))⟩]
def aAY(k:Sh)(z:V):LFn:=⟨(.seq (.ops (aBg k)) (.seq (.seq (.ops aBf) (.cond (.slot 10) (.seq (.ops aBe) .ret) .skip)) (.seq (.seq (.ops aBd) (.block 0 (.loop (aBh k z)))) (.seq (.ops aBP) .ret)))),66,[.slot 4]⟩
end LB
section
variable{P:Program}{α:Type} [Inhabited α](e:α→V){k:Sh}{z:V}
theorem rO(ds:List α)(j:Nat)(h1:0<j)(h2:j<ds.length):ds.take (j+1)=ds.take (j-1)++[ds[j-1],ds[j]]∧ds.take j=ds.take (j-1)++[ds[j-1]]:=by
 have e1:ds.take j=ds.take (j-1)++[ds[j-1]]:=by
  have:=Ke (i:=j-1) (l:=ds) or;rwa [show j-1+1=j by omega] at this
 refine⟨?_,e1⟩;rw[Ke h2,e1,KF];rfl
theorem k7{p:α→α→Bool}(ds:List α)(j:Nat)(h1:0<j)(h2:j<ds.length)(he:p ds[j] ds[j-1]=true):cpt p (ds.take (j+1))=cpt p (ds.take j):=by
 rw[(rO ds j h1 h2).1,(rO ds j h1 h2).2,kz,if_pos he,List.append_nil]
theorem rp{p:α→α→Bool}(ds:List α)(j:Nat)(h1:0<j)(h2:j<ds.length)(he:p ds[j] ds[j-1]=false):cpt p (ds.take (j+1))=cpt p (ds.take j)++[ds[j]]:=by
 rw[(rO ds j h1 h2).1,(rO ds j h1 h2).2,kz,if_neg (by simp[he])]
set_option maxHeartbeats 1000000 in
theorem zB{f:Nat}(hL:aF P f=some (LB.aAY k z))(hz:z.fits k=true)(aAG:∀x,(e x).fits k=true)(g:Nat)(caps:List V)(p:α→α→Bool)(hc0:Hp)(n:Nat)(ds:List α)
 (hp0:∀x∈ds,∀y∈ds,aO P g ([e x,e y]++caps) hc0 (.bool (p x y))) (hlen:ds.length≤1000000) (h:Hp) (nx:Nat) (hh:hc0.has h) (hcn:hc0 n=none) (hn:h n=some (.arr k (ds.map e))):
 aX P f [.rs n k 0 ds.length, .fn (.func g) [] caps] h nx fun v h' _=>∃es m,v= .rs n k 0 m∧m≤es.length∧h'=h.set n (.arr k es)∧es.take m=(cpt p ds).map e:=by
 have aK6:h.set n (.arr k (ds.map e))=h:=by
  funext x;unfold Kb;split
  ·rename_i hx;rw[hx,hn]
  rfl
 have aAe:cpt p ds=ds→∃es m,V.rs n k 0 ds.length= .rs n k 0 m∧m≤es.length∧h=h.set n (.arr k es)∧es.take m=(cpt p ds).map e:=fun hc=>
  ⟨ds.map e,ds.length,rfl,Zm,aK6.symm,by rw[hc];exact List.take_of_length_le Zm⟩
 have aQh:∀H:Hp,(∀x,x≠n→H x=h x)→hc0.has H:=fun H hH m b e hb=>by
  have:m≠n:=by rintro rfl;rw[hcn] at e;cases e
  rw[hH m this];exact hh m b e hb
 have hpp:∀i j (hi:i<ds.length) (hj:j<ds.length),aO P g ([e ds[i],e ds[j]]++caps) hc0 (.bool (p ds[i] ds[j])):=fun i j hi hj=>hp0 _ (KG _) _ (KG _);clear hp0;refine aB hL fun hd=>?_;simp only[jL,jM,jA,jB,jN,jO,jP,jQ,V.undef];rcases Kh ds.length 2 with h2|h2
 ·have hc:decide ((ds.length:Int)<2)=true:=dct;refine aue hc ?_;refine aC h (Ka _) ?_;refine Zn ?_;refine aAe ?_;match ds,h2 with
  | [],_=>rfl
  | [x],_=>rfl
 have hc:decide ((ds.length:Int)<2)=false:=dcf;refine aue hc ?_;refine aT (fun i:Nat=>aD 66 0 [(0, .rs n k 0 ds.length),(1, .fn (.func g) [] caps),(5, .int .i64 i)]) (fun i hp _=>1≤i∧i≤ds.length∧hp=h∧cpt p (ds.take i)=ds.take i) (fun i=>ds.length-i) 1 ⟨Kg _,or,rfl,?_⟩ ?_ ?_
 ·match ds,h2 with
  |x::l,_=>rfl
 ·simp only[WkL,aD,jH,jI,jJ,go_sem,reduceIte,jA,jB,jC,jD,reduceCtorEq,jE,jF]
 rintro i hp nx1 ⟨hi1,hi,rfl,hcs⟩;generalize hQ:bB _ _ _ _ _=Q0;simp only[aD,go_sem,reduceIte,jA,jB,jC,jD,reduceCtorEq,jE,jF];rcases Kh i ds.length with hlt|hge
 ·have hc:decide ((i:Int)<(ds.length:Int))=true:=dct;have hg:=aR e ds i hlt;have hg1:=aR e ds (i-1) or;have hw1:IntKind.i64.wrap ((i:Int)-1)=((i-1:Nat):Int):=wrp;have hw:IntKind.i64.wrap ((i:Int)+1)=((i+1:Nat):Int):=wrp;have hlt1:i-1<ds.length:=or;have hne:(i=ds.length)=False:=eq_false or;have hq:=hpp i (i-1) hlt hlt1;refine aue (e11 hc hg hg1 hw1 hw hlt hlt1 hn hne aAG (e2 (@jK α V) jG)) ?_;refine yV rfl hq rfl (aQh _ fun _ _=>rfl) ?_;refine Zn ?_;cases hx:p ds[i] ds[i-1] with
  |true=>
   refine aue (e11 hc hg hg1 hw1 hw hlt hlt1 hn hne aAG (e2 (@jK α V) jG)) ?_
   refine aT (fun q:Nat×Nat×List α=>aD 66 0 [(0, .rs n k 0 ds.length),(1, .fn (.func g) [] caps),(5, .int .i64 q.1),(6, .rs n k i (ds.length-i)),(7, .int .i64 q.2.1)])
    (fun q hp2 _=>i≤q.1∧q.1+1≤i+q.2.1∧1≤q.2.1∧i+q.2.1≤ds.length∧q.2.2.length=ds.length∧q.2.2.take q.1=cpt p (ds.take (i+q.2.1))∧q.2.2.drop q.1=ds.drop q.1∧hp2 n=some (.arr k (q.2.2.map e))∧∀x,x≠n→hp2 x=hp x)
    (fun q=>ds.length-q.2.1) (i,1,ds) ⟨Kg _,Kg _,Kg _,Zw,rfl,?_,rfl,hn,fun _ _=>rfl⟩ ?_ ?_
   ·dsimp only;rw[k7 ds i or hlt hx,hcs]
   ·simp only[WkL,aD,jH,jI,jJ,go_sem,reduceIte,jA,jB,jC,jD,reduceCtorEq,jE,jF]
   rintro⟨m,k2,xs⟩ hp2 nx2 ⟨a1,a2,a3,a4,a5,a6,a7,a8,a9⟩;generalize hQ2:bB _ _ _ _ _=Q2;dsimp only at a1 a2 a3 a4 a5 a6 a7 a8;simp only[aD,go_sem,reduceIte,jA,jB,jC,jD,reduceCtorEq,jE,jF];have hat:∀j,m≤j→(hj:j<ds.length)→xs[j]'or=ds[j]:=fun j hm hj=>by
    have e1:xs[j]'or=(xs.drop m)[j-m]'(by simp;omega):=by simp[show m+(j-m)=j by omega]
    have e2:ds[j]=(ds.drop m)[j-m]'(by simp;omega):=by simp[show m+(j-m)=j by omega]
    rw[e1,e2];congr 1
   rcases Kh k2 (ds.length-i) with aRJ|aUI
   ·have hcc:decide ((k2:Int)<((ds.length-i:Nat):Int))=true:=dct;have hj:i+k2<ds.length:=or;have hj1:i+k2-1<ds.length:=or;have g1:(xs.map e).getD (i+k2) (.tup [])=e ds[i+k2]:=by rw[aR e xs (i+k2) or,hat _ or hj]
    have g2:(xs.map e).getD (i+(k2-1)) (.tup [])=e ds[i+k2-1]:=by
     rw[aR e xs (i+(k2-1)) or];rw[show e xs[i+(k2-1)]=e (xs[i+k2-1]'or) by congr 2;omega,hat _ or or]
    have w1:IntKind.i64.wrap ((k2:Int)-1)=((k2-1:Nat):Int):=wrp;have w2:IntKind.i64.wrap ((k2:Int)+1)=((k2+1:Nat):Int):=wrp;have w3:IntKind.i64.wrap ((m:Int)+1)=((m+1:Nat):Int):=wrp;have b1:i+(k2-1)<ds.length:=or;have b2:k2-1<ds.length-i:=or;have b3:m<ds.length:=or;have hq2:=hpp (i+k2) (i+k2-1) hj hj1;have E:=e14 hcc g1 g2 w1 w2 w3 hj b1 b2 b3 aRJ a8 a5 (e3 aAG (@jK α V) jG);refine aue E ?_;refine yV rfl hq2 rfl (aQh _ a9) ?_;refine Zn ?_;cases hy:p ds[i+k2] ds[i+k2-1] with
    |false=>
     refine aue (e3 E KR KU) ?_;rw[←hQ2];refine aH (m+1,k2+1,xs.set m ds[i+k2]) Zw ⟨Zw,Zw,Zw,Zw,by simpa using a5,?_,?_,?_,?_⟩ ?_
     ·dsimp only;rw[show i+(k2+1)=(i+k2)+1 by omega,rp ds (i+k2) or hj hy,←a6,Ke (by simp;omega),List.getElem_set_self,List.take_set_of_le (Kg _)]
     ·dsimp only;rw[List.drop_set_of_lt or];have:=congrArg (List.drop 1) a7;rwa [KS,KS] at this
     ·refine Zn ?_;rw[List.map_set,aR e xs m or,aV (aAG _) (aAG _)]
     ·intro x hx;simp only[hx,go_sem,reduceIte,jA,jB,jC,jD,reduceCtorEq,jE,jF];exact a9 x hx
     simp only[WkL,aD,jH,jI,jJ,w2,go_sem,reduceIte,jA,jB,jC,jD,reduceCtorEq,jE,jF]
    |true=>
     refine aue (e3 E KR KU) ?_;rw[←hQ2];refine aH (m,k2+1,xs) Zw ⟨a1,Zw,Zw,Zw,a5,?_,a7,a8,a9⟩ ?_
     ·dsimp only;rw[show i+(k2+1)=(i+k2)+1 by omega,k7 ds (i+k2) or hj hy,a6]
     simp only[WkL,aD,jH,jI,jJ,w2,go_sem,reduceIte,jA,jB,jC,jD,reduceCtorEq,jE,jF]
   have hcc:decide ((k2:Int)<((ds.length-i:Nat):Int))=false:=dcf;have aBl:i+k2=ds.length:=or;rw[aBl,KH] at a6;have hm1:m<ds.length:=or;have hml:(m=ds.length)=False:=eq_false or;refine aue hcc ?_;rw[←hQ2];refine aue (ee5 hml hm1 a8 a5 hz) ?_;rw[←hQ];refine au ?_;refine aC _ (Ka _) ⟨(xs.map e).take m++List.replicate (ds.length-m) z++(xs.map e).drop (m+(ds.length-m)),m,?_,?_,?_,?_⟩
   ·simp only[Nat.sub_zero,go_sem,reduceIte,jA,jB,jC,jD,reduceCtorEq,jE,jF]
   ·simp;omega
   ·funext x;by_cases hx:x=n
    ·subst hx;simp only[go_sem,reduceIte,jA,jB,jC,jD,reduceCtorEq,jE,jF]
    simp only[hx,go_sem,reduceIte,jA,jB,jC,jD,reduceCtorEq,jE,jF];exact a9 x hx
   rw[KF,List.take_append_of_le_length (by simp;omega),List.take_take,Nat.min_self,←List.map_take,a6]
  |false=>
   refine aue (e11 hc hg hg1 hw1 hw hlt hlt1 hn hne aAG (e2 (@jK α V) jG)) ?_;rw[←hQ];refine aH (i+1) or ⟨or,or,rfl,?_⟩ ?_
   ·rw[rp ds i or hlt hx,hcs,←Ke hlt]
   simp only[WkL,aD,jH,jI,jJ,hw,go_sem,reduceIte,jA,jB,jC,jD,reduceCtorEq,jE,jF]
 have hc:decide ((i:Int)<(ds.length:Int))=false:=dcf;refine aue hc ?_;rw[←hQ];refine au ?_;refine aC hp (Ka _) ?_;refine Zn ?_;refine aAe ?_;rw[show i=ds.length by omega,KH] at hcs;exact hcs
end
end Go.Proofs.YtjfdoohogiojcaaGreatDoor
namespace Go.Proofs.YtjfdoohogiojcaaGreatDoor
open Go.RowKit Go.Sort Go.Shelf Go.Lib
theorem gG{α:Type} [Inhabited α](enc:α→Value)(w:World)(blk off m:Nat)(dk:Array α)(os:Array Obj)(b:Nat)(hb:b<w.heap.size)(hne:b≠blk):(sortWorld enc w blk off m dk os).heap[b]?=w.heap[b]?:=by
 unfold sortWorld putRow mapBlock grow;simp only[heap_ahead];rw[Km (by simpa using hb),Kw,if_neg (fun e=>hne e.symm)]
theorem nV{α:Type} [Inhabited α](enc:α→Value)(w:World)(blk off m:Nat)(dk:Array α)(os:Array Obj):w.heap.size≤(sortWorld enc w blk off m dk os).heap.size:=by
 unfold sortWorld putRow mapBlock grow;simp only[heap_ahead,Array.size_append,Array.size_modify];omega
theorem qG{α:Type} [Inhabited α](enc:α→Value)(w:World)(blk off m:Nat)(dk:Array α)(os:Array Obj){c:Array Value}{T:TypeId}{fr:Nat×Nat}(hh:w.heap[blk]?=some (.cells c T fr)):∃c':Array Value,(sortWorld enc w blk off m dk os).heap[blk]?=some (.cells c' T fr)∧c'.size=c.size:=by
 have hb:blk<w.heap.size:=by
  rcases Kh blk w.heap.size with hlt|hge
  ·exact hlt
  rw[Kt hge] at hh;exact absurd hh Zm
 refine⟨putCells enc off dk c,?_,by simp[putCells]⟩;unfold sortWorld putRow mapBlock grow;simp only[heap_ahead];rw[Km (by simpa using hb),Kw,if_pos rfl,hh];rfl
theorem sH{K:Ker}{α:Type} [Inhabited α](enc:α→Value)(blk off m:Nat)(dk:Array α)(os:Array Obj){c:Array Value}{T:TypeId}(hh:K.w.heap[blk]?=some (.cells c T (0,0)))(hf:¬K.fro blk)(hi:K.imm blk=0):
 K.le {K with w:=sortWorld enc K.w blk off m dk os} where
 live _ hn:=hn
 mu _ _:=rfl
 tp _ _:=rfl
 fro:=rfl
 imm _ _:=Kg _
 cell b o hb hst:=by
  have hne:b≠blk:=by
   rintro rfl;rcases hst with h|h
   ·exact hf h
   omega
  exact eS (gG enc K.w blk off m dk os b hb hne)
 shape b hb:=by
  by_cases e:b=blk
  ·subst e;obtain⟨c',h1,h2⟩:=qG enc K.w b off m dk os hh;simp only[KQ,h1,hh,h2]
  simp only[KQ,gG enc K.w blk off m dk os b hb e]
 below:=⟨rfl,rfl,rfl,Nat.le_add_right _ _,nV enc K.w blk off m dk os,fun b hb hF=>gG enc K.w blk off m dk os b hb (fun e=>hF.elim (fun hF=>hf (e▸hF)) fun hm=>by subst e;unfold fF at hm;rw[hh] at hm;cases hm)⟩
theorem mv{P:Program}{ρ:Ren}(L:SlLaysF.n6 P ρ)(hen:fD P (ρ.f 6)=true)
 {δ:Type} (e:δ→V) (aAG:∀d,(e d).fits .leaf=true) (cf:δ→δ→Int) (hO:SWO (ltOf cf)) (g:Nat) (caps:List V) (aEy:∀x y,aO P g ([e x,e y]++caps) Kd (.int .i64 (cf x y)))
 (n:Nat) (ds:List δ) (hne:ds≠ []) (h:Hp) (nx:Nat) (hn:h n=some (.arr .leaf (ds.map e))) (hlen:ds.length<4611686018427387904):
 aX P (ρ.f 6) [.rs n .leaf 0 ds.length, .fn (.func g) [] caps] h nx fun v h' nx'=>v= .tup []∧nx'=nx∧∃ds':List δ,ds'.Perm ds∧fU cf ds'∧h'=h.set n (.arr .leaf (ds'.map e)):=by
 refine⟨hen,fun K cargs hlv hr hv=>?_⟩;obtain⟨hsz,hv⟩:=hv;have hsz:cargs.size=2:=by simpa using hsz.symm
 obtain⟨c1,c2,rfl⟩:∃c1 c2,cargs=#[c1,c2]:=⟨cargs[0],cargs[1],by
  apply Array.ext
  ·simp[hsz]
  intro i h1 h2;have:i=0∨i=1:=by simp at h2;omega
  rcases this with rfl|rfl<;>rfl⟩
 have v1:=hv 0 Zm;have v2:=hv 1 Zm;have hb:=hr.blk n _ hn;have aHN:=hr.base n _ hn;cases hb with
 |arr _ _ c T hh hcs aAg aA1 hcv=>
  have v1:VR K (.rs n .leaf 0 ds.length) c1:=v1;have v2:VR K (.fn (.func g) [] caps) c2:=v2;cases v1 with
  |rs _ _ _ _ cap hl hcap hm=>
   cases v2 with
   |fn _ _ _ cfirst ccap q1 q2 w1 w2=>
    have hcf:cfirst=#[]:=by
     have:cfirst.size=0:=by simpa using q1.symm
     exact Array.eq_empty_of_size_eq_zero this
    subst hcf;have hcs:ds.length≤c.size:=by simpa [Sh.size] using hcs
    have hblk:K.mu n<K.w.heap.size:=by
     rcases Kh (K.mu n) K.w.heap.size with hlt|hge
     ·exact hlt
     rw[Kt hge] at hh;exact absurd hh Zm
    let A:={p:δ×Value // VR K (e p.1) p.2}
    have hcell:∀i (hi:i<ds.length),VR K (e ds[i]) (c.getD i Ku):=fun i hi=>by
     have h1:=hcv i (by simpa using hi) 0 (by simp[Sh.size]);simp only[Ki,List.getElem?_map,List.getElem?_eq_getElem hi,Option.map_some,Option.getD_some,Sh.size,KX,KV] at h1;rwa [gV (by simpa [V.fits] using aAG ds[i])] at h1
    have aAi:0<ds.length:=List.length_pos_iff.2 hne
    haveI:Inhabited A:=⟨⟨(ds[0],c.getD 0 Ku),hcell 0 aAi⟩⟩
    let d:Array A:=Array.ofFn fun i:Fin ds.length=>(⟨(ds[i],c.getD i Ku),hcell i i.2⟩:A)
    have hds:d.size=ds.length:=by simp[d]
    have hd:∀i (hi:i<ds.length),d[i]! =(⟨(ds[i],c.getD i Ku),hcell i hi⟩:A):=fun i hi=>by
     rw[getElem!_pos d i (by rw[hds];exact hi)];simp[d]
    let enc:A→Value:=fun p=>p.1.2
    have h1:OneCell enc:=fun x=>x.2.aA3 (by simpa [V.fits] using aAG x.1.1);have hH:Holds enc K.w (K.mu n) 0 d:=by
     intro j hj;rw[hds] at hj;constructor
     ·rw[hd _ hj];simp only[KT,hh,KD,enc,KC,Kj,if_false];rw[Kk,Array.getElem?_eq_getElem or];rfl
     simp only[World.frozen?,hh];simp
    have hC:CmpLays1 P g ccap enc (fun x y:A=>cf x.1.1 y.1.1) (K.mu n) 0 d.size K.w:=by
     intro m os dk _ x y;have hle:=sH enc (K.mu n) 0 m dk os hh aHN aAg;generalize hW:sortWorld enc K.w (K.mu n) 0 m dk os=W at hle⊢;have hp:=(aEy x.1.1 y.1.1) Kd nx (aM _);have up:∀{v cv},VR K v cv→VR {K with w:=W,fro:=fun b=>b<W.heap.size} v cv:=fun r=>VR.refro (K:={K with w:=W}) (fun b hb=>Nat.lt_of_lt_of_le (hr.size.lt b hb) (by rw[←hW];exact nV enc K.w _ _ m dk os)) (r.mono hle)
     have c:=hp.2 {K with w:=W,fro:=fun b=>b<W.heap.size} (#[enc x,enc y]++ccap) hlv ⟨(fun n b e=>by cases e),(fun n b e=>by cases e),(fun n b e=>by cases e),(fun n n' b b' e=>by cases e),((hr.size.keep hle).all)⟩
      ((show VRs _ [e x.1.1,e y.1.1] #[enc x,enc y] from⟨rfl,fun i hi=>by
        have:i=0∨i=1:=by simp at hi;omega
        rcases this with rfl|rfl
        ·exact up x.2
        exact up y.2⟩).append ⟨q2,fun i hi=>up (w2 i hi)⟩)
     refine c.mono ?_;rintro e' w' ⟨K',v,cv,h',nx',rfl,rfl,a1,a2,a3,a4,a5,rfl,rfl,rfl⟩;cases a2;exact⟨rfl,cj a1.below⟩
    have key:=Any.slices_SortFunc L enc h1 (fun x y:A=>cf x.1.1 y.1.1) (wP (fun x:A=>x.1.1) hO) g ccap (K.mu n) 0 cap d K.w (fun args w=>fX (aEy ds[0] ds[0] Kd 0 (aM _)).1 args w) hC hH hblk (by rw[hds];exact hlen);rw[hds] at key;have e0:(0:Nat)*Sh.leaf.size=0:=Nat.zero_mul _;rw[e0];refine key.mono ?_;rintro e' w' ⟨rfl,d',m,os,hp,hs,rfl⟩;obtain⟨hp1,_,hp3⟩:=hp;have hp1:d'.size=ds.length:=by rw[hp1,hds]
    have hle:=sH enc (K.mu n) 0 m d' os hh aHN aAg;have hH':=holds_sortWorld enc K.w (K.mu n) 0 m d d' os hblk hH (by rw[hp1,hds]);obtain⟨c',hh',hcz⟩:=qG enc K.w (K.mu n) 0 m d' os hh;refine⟨{K with w:=sortWorld enc K.w (K.mu n) 0 m d' os}, .tup [], .tuple #[],h.set n (.arr .leaf ((d'.toList.map fun x=>x.1.1).map e)),nx,rfl,rfl,hle, .tup [] #[] rfl (fun i hi=>absurd hi Zm),?_,fun m hm=>⟨hlv m hm, .inl hm⟩,Kg _,rfl,rfl,_,?_,?_,rfl⟩
    ·have aBr:∀m b,(h.set n (.arr .leaf ((d'.toList.map fun x=>x.1.1).map e))) m=some b→∃b',h m=some b':=fun m' b' e'=>by
      unfold Kb at e';split at e'
      ·rename_i em;subst em;exact⟨_,hn⟩
      exact⟨_,e'⟩
     refine⟨fun m' b' e'=>?_,fun m' b' e'=>?_,fun m' b' e'=>?_,fun m1 m2 b1 b2 e1 e2 em=>?_,hr.size.keep hle⟩
     ·obtain⟨b2,e2⟩:=aBr m' b' e';exact hr.lt m' b2 e2
     ·obtain⟨b2,e2⟩:=aBr m' b' e';exact hr.base m' b2 e2
     ·by_cases em:m'=n
      ·subst em;have eb:b'= .arr .leaf ((d'.toList.map fun x=>x.1.1).map e):=by simpa [Kb] using e'.symm
       subst eb;refine .arr _ _ c' T hh' (by
        have e0:((d'.toList.map fun x=>x.1.1).map e).length=ds.length:=by
         simp only[KM,Array.length_toList];omega
        rw[hcz,e0];simpa [Sh.size] using hcs) aAg (fun v hv=>?_) fun i hi j hj=>?_
       ·obtain⟨x,_,rfl⟩:=List.mem_map.1 hv;exact aAG x
       have hi:i<d'.size:=by simpa using hi
       have hj:j=0:=by simp[Sh.size] at hj;exact hj
       subst hj;obtain⟨g1,_⟩:=hH' i hi;simp only[KT,hh',KC,Kj,if_false,KD] at g1;have:=(d'[i]!).2.mono hle;have e1:(((d'.toList.map fun x=>x.1.1).map e).getD i V.undef)=e (d'[i]!).1.1:=by
        rw[getElem!_pos d' i hi];simp[Ki,hi]
       rw[e1,gV (by simpa [V.fits] using aAG _)];have e2:c'.getD (i*Sh.leaf.size+0) Ku=(d'[i]!).1.2:=by
        show c'.getD (i*1+0) Ku=_;rw[KX,KV,Kk,g1];rfl
       rw[e2];exact this
      have e2:h m'=some b':=by unfold Kb at e';rw[if_neg em] at e';exact e'
      have hne:K.mu m'≠K.mu n:=fun e3=>em (hr.inj m' n _ _ e2 hn e3);exact(hr.blk m' b' e2).mono hle (hr.lt m' b' e2) (gG enc K.w (K.mu n) 0 m d' os _ (hr.blk m' b' e2).lt_size hne) rfl
     obtain⟨b3,e3⟩:=aBr m1 b1 e1;obtain⟨b4,e4⟩:=aBr m2 b2 e2;exact hr.inj m1 m2 b3 b4 e3 e4 em
    ·have p:=hp3.map fun x:A=>x.1.1;have ex:∀(x:Array A),x.size=ds.length→x.extract 0 ds.length=x:=fun x hx=>by rw[←hx];simp
     rw[ex d' hp1,ex d hds] at p;have:d.toList.map (fun x:A=>x.1.1)=ds:=by
      apply List.ext_getElem
      ·simp[hds]
      intro i h1 h2;simp[d]
     rw[this] at p;exact p
    unfold fU;rw[List.pairwise_map,List.pairwise_iff_getElem];intro i j hi hj hij;have:=hs i j (Kv _) hij (by simpa [hp1] using hj);rw[getElem!_pos d' i (by simpa using hi),getElem!_pos d' j (by simpa using hj)] at this;simpa [ltOf] using this
end Go.Proofs.YtjfdoohogiojcaaGreatDoor
namespace Go.Proofs.YtjfdoohogiojcaaGreatDoor
open Go.RowKit Go.Sort Go.Shelf Go.Lib
theorem vf{P:Program}{k:Sh}{f bs:Nat}(hL:aF P f=some (LB.aFH k bs))(hbs:bs≤140737)(own:Own)(es:List V)(hl:es.length≤1000000000)(hn:own≠ .nil)(hne:es≠ [])(h:Hp)(nx:Nat):
 aX P f [.sl k own es] h nx fun v h' _=>∃id,nx≤id∧v= .rs id k 0 es.length∧h'=h.set id (.arr k es):=by
 refine aB hL fun hd=>?_;simp only[jL,jM,jA,jB,jN,jO,jP,jQ,V.undef];refine wl ?_;refine cL _ rfl (fun hc=>?_) (fun hc=>?_)
 ·exact absurd (by simpa using hc) hn
 have hb1:es.length*bs≤140737488355328:=qA hl hbs;repeat (first|with_reducible refine eO ?_|with_reducible refine dY ?_|with_reducible refine iC ?_|with_reducible refine bZ ?_|with_reducible refine bW ?_|with_reducible refine fI ?_|with_reducible refine fC ?_)
 refine jX Zm ?_;refine Zn ?_;refine fB 1 rfl (by simp only[go_sem,reduceIte,jA,jB,jC,jD,reduceCtorEq,jE,jF]) ?_;refine Zn ?_;refine nK (es:=[]) (ys:=es) rfl (by simp only[go_sem,reduceIte,jA,jB,jC,jD,reduceCtorEq,jE,jF]) Zm (by simp only[go_sem,reduceIte,jA,jB,jC,jD,reduceCtorEq,jE,jF]) hne (by simpa using hb1) ?_;refine Zn ?_;refine fB 1 rfl (by simp only[go_sem,reduceIte,jA,jB,jC,jD,reduceCtorEq,jE,jF]) ?_;refine Zn ?_;repeat (first|with_reducible refine eO ?_|with_reducible refine dY ?_|with_reducible refine iC ?_|with_reducible refine bZ ?_|with_reducible refine bW ?_|with_reducible refine fI ?_|with_reducible refine fC ?_)
 refine cA (aC (h.set (nx+1) (.arr k es)) ?_ ⟨nx+1,or,?_,rfl⟩)
 ·intro m b e;have hm:∀b,h m=some b→m<nx:=fun b hb=>hd m b hb;simp only[Kc,Hp.aAn] at e⊢;split at e
  ·rename_i e1;rw[if_pos e1];exact e
  rename_i e1;have:=hm _ e;rw[if_neg e1,if_neg or,if_neg or];exact e
 simp only[go_sem,reduceIte,jA,jB,jC,jD,reduceCtorEq,jE,jF]
end Go.Proofs.YtjfdoohogiojcaaGreatDoor
namespace Go.Proofs.YtjfdoohogiojcaaGreatDoor
open Go.RowKit Go.Sort
attribute [local irreducible] IntKind.wrap
namespace LB
abbrev aEb(k:Sh):List aA:=[
 ⟨some 3,none, .box .leaf (.slot 1)⟩,
 ⟨some 4,none, .val (.move (.const (.sl k .nil [])))⟩]
abbrev aCa(f0:Nat)(f1:Nat):List (aA×List Nat):=[
 (⟨some 6,none, .val (.move (.slot 0))⟩,[]),
 (⟨some 7,none, .call f0 [(.slot 6)]⟩,[0]),
 (⟨some 8,none, .val (.load .leaf (.slot 3))⟩,[]),
 (⟨some 9,none, .call f1 [(.slot 7),(.slot 8)]⟩,[0,1,2]),
 (⟨some 5,none, .val (.move (.slot 9))⟩,[0,1,2,3])]
abbrev aDL:List aA:=[]
abbrev aEa(f2:Nat)(f3:Nat):List aA:=[
 ⟨some 10,none, .val (.move (.slot 5))⟩,
 ⟨some 11,none, .val (.mkfn (.func f3) [] [(.slot 3)])⟩,
 ⟨some 12,none, .call f2 [(.slot 10),(.slot 11)]⟩,
 ⟨some 4,none, .val (.move (.slot 12))⟩]
def aEc(k:Sh)(f0:Nat)(f1:Nat)(f2:Nat)(f3:Nat):LFn:=⟨(.seq (.ops (aEb k)) (.seq (.draw 5 (aCa f0 f1) aDL) (.seq (.ops (aEa f2 f3)) .ret))),13,[.slot 4]⟩
end LB
section
variable{P:Program}{α:Type} [Inhabited α](e:α→V){k:Sh}{z:V}
theorem gr{f:Nat}(hL:aF P f=some (LB.aAY k z))(fv:V)(h:Hp)(nx:Nat):aX P f [.sl k .nil [],fv] h nx fun v h' _=>v= .sl k .nil []∧h'=h:=by
 refine aB hL fun hd=>?_;simp only[KI,KN,Ko,Kp,Kx,Ky,KJ,KO,V.undef];have hc:decide ((0:Int)<2)=true:=ZM;refine aue (e2 hc Int.natCast_zero) ?_;exact aC h (Ka _) ⟨rfl,rfl⟩
def Bv(k:Sh)(cf:α→α→Int)(xs:List α)(nx:Nat)(h:Hp)(v:V)(h':Hp):Prop:=∃ys:List α,ys.Perm xs∧fU cf ys∧
 ((xs=[]∧v= .sl k .nil []∧h'=h)∨(xs≠ []∧∃id es m,nx≤id∧v= .rs id k 0 m∧m≤es.length∧h'=h.set id (.arr k es)∧es.take m=(cpt (fun x y=>decide (cf x y=0)) ys).map e))
set_option maxHeartbeats 2000000 in
theorem bf{f f0 f1 f2 f3 it gc:Nat}(hL:aF P f=some (LB.aEc k f0 f1 f2 f3))(hC:aF P f2=some (LB.aAY k z))(hz:z.fits k=true)(aAG:∀x,(e x).fits k=true)(cf:α→α→Int)(o:Own)(xs:List α)(hl:xs.length≤1000000)
 (hV:∀h,aO P f0 [.sl k o (xs.map e)] h (.fn (.func it) [] [.ept .leaf [(V.sl k o (xs.map e)).loose] 0 0]))
 (hS:∀h nx,aX P f1 [.fn (.func it) [] [.ept .leaf [(V.sl k o (xs.map e)).loose] 0 0], .fn (.func gc) [] []] h nx fun v h'' _=>∃es,(∃ys:List α,ys.Perm xs∧fU cf ys∧es=ys.map e)∧gy nx h k es v h'')
 (hcl:∀x y (hb:Hp) b,hb b=some (.arr .leaf [.fn (.func gc) [] []])→aO P f3 [e x,e y, .ptr b .leaf 0 0] hb (.bool (decide (cf x y=0)))) (h':Hp) (nx:Nat):
 aX P f [.sl k o (xs.map e), .fn (.func gc) [] []] h' nx fun v h'' _=>Bv e k cf xs nx h' v h'':=by
 refine aB hL fun hd=>?_;simp only[KI,KN,Ko,Kp,Kx,Ky,KJ,KO,V.undef];refine aus ?_;refine tS ?_;obtain⟨X,hX⟩:∃X,X=h'.set nx (.arr .leaf [.fn (.func gc) [] []]):=⟨_,rfl⟩;have hXb:X nx=some (.arr .leaf [.fn (.func gc) [] []]):=by rw[hX];simp[Kb]
 obtain⟨I,hI⟩:∃I,I=(.fn (.func it) [] [.ept .leaf [(V.sl k o (xs.map e)).loose] 0 0]:V):=⟨_,rfl⟩;obtain⟨A,hA⟩:∃A,A=V.sl k o (xs.map e):=⟨_,rfl⟩;rw[←hI] at hS;simp only[←hI,←hA] at hV;rw[←hA,←hX];obtain⟨F,hF⟩:∃F:(Nat→Bool)→V→List V,∀D v9,F D v9=[A, .fn (.func gc) [] [], .tup [], .ptr nx .leaf 0 0, .sl k .nil [],if D 4=true then v9 else .tup [],if D 0=true then A else .tup [],if D 1=true then I else .tup [],if D 2=true then .fn (.func gc) [] [] else .tup [],if D 3=true then v9 else .tup [], .tup [], .tup [], .tup []]:=⟨_,fun _ _=>rfl⟩;refine⟨fun D s'=>∃v9 h9 nx',s'=⟨F D v9,if D 3=true then h9 else X,nx'⟩∧nx+1≤nx'∧(D 3=true→∃es,(∃ys:List α,ys.Perm xs∧fU cf ys∧es=ys.map e)∧gy (nx+1) X k es v9 h9),⟨.tup [],X,nx+1,by simp[hF,V.undef],Kg _,Zm⟩,?_,?_⟩
 ·rintro D i oo aAJ s' hi hDi aAm aQf ⟨v9,h9,nx',rfl,hnx,k3⟩;have d3:D 3=true→∀d,d<3→D d=true:=fun h d hd=>aQf 3 _ _ rfl h d (by simp;omega);have d4:D 4=true→D 3=true:=fun h=>aQf 4 _ _ rfl h 3 Zm;rcases i with _|_|_|_|_|i;all_goals first|(injection hi with hi;injection hi with q1 q2;subst q1;subst q2)|skip
  all_goals try simp only[List.mem_cons,List.not_mem_nil,or_false,forall_eq_or_imp,forall_eq,false_implies,implies_true] at aAm
  ·refine⟨v9,h9,nx',?_,hnx,by simpa using k3⟩;simp[bJ,hF,hDi,aK.ev]
  ·refine aP (hV _) (by simp[hF,aAm,aK.ev]) (aM _) ?_;exact⟨v9,h9,nx',by simp[bJ,hF,hI,hA],hnx,by simpa using k3⟩
  ·have n3:D 3=false:=by
    cases h:D 3 with
    |false=>rfl
    |true=>have:=d3 h 2 or;rw[hDi] at this;cases this
   simp only[aZ,LOp.run,aY.sem,aK.ev,hF,n3,hXb,Kz,KA,Kj,if_false];exact⟨trivial,Zm,by simp[bV],v9,h9,nx',by simp[bJ,hF,n3,bO,V.cell,V.cells],hnx,by simp[n3]⟩
  ·have n4:D 4=false:=by
    cases h:D 4 with
    |false=>rfl
    |true=>have:=d4 h;rw[hDi] at this;cases this
   refine bG ?_;simp only[hF,hDi,aAm,aK.ev,KB,KE,Kz,KA,Kj,if_false,if_true];refine(hS _ _).mono ?_;rintro v h3 nx3 aF2 ⟨es,hys,hfr⟩;refine⟨v,h3,nx3,by simp[bJ,hF,n4,hDi,aAm],Nat.le_trans hnx aF2,fun _=>⟨es,hys,?_⟩⟩;rcases hfr with h|⟨q1,id,q2,q3⟩
   ·exact .inl h
   exact .inr ⟨q1,id,or,q3⟩
  ·refine⟨v9,h9,nx',?_,hnx,by simpa using k3⟩;simp[bJ,hF,hDi,aK.ev,aAm]
  simp[LB.aCa] at hi
 rintro D s' hD ⟨v9,h9,nx',rfl,hnx,k3⟩;have dd:=fun i (h:i<5)=>hD i h;rw[hF];simp only[dd 0 or,dd 1 or,dd 2 or,dd 3 or,dd 4 or,if_true];obtain⟨es,⟨ys,hp,hs,rfl⟩,hfr⟩:=k3 (dd 3 or);have hyl:ys.length=xs.length:=hp.length_eq;rcases hfr with⟨hn,rfl,rfl⟩|⟨hne,id,hid,rfl,rfl⟩
 ·have hxn:xs=[]:=by
   have:ys=[]:=by simpa using hn
   subst this;exact Kq.1 (by simpa using hyl.symm)
  refine au ?_;refine bG ((gr hC _ _ _).mono ?_);rintro v h3 nx3 _ ⟨rfl,rfl⟩;unfold dF;simp only[go_sem,reduceIte,Ko,Kp,KW,KK,reduceCtorEq,KL,KP];refine au ?_;refine aC h' (by rw[hX];exact leo hd) ⟨ys,hp,hs, .inl ⟨hxn,rfl,rfl⟩⟩
 have hxn:xs≠ []:=fun h=>by
  subst h;exact hne (by simpa using hyl)
 have hlm:(ys.map e).length=ys.length:=KM ..;rw[hlm];refine au ?_;refine bG ((zB e hC hz aAG f3 [.ptr nx .leaf 0 0] (fun x y=>decide (cf x y=0)) (Hp.none.set nx (.arr .leaf [.fn (.func gc) [] []])) id ys (fun x _ y _=>hcl x y _ nx (by simp[Kb])) or _ _ ?_ ?_ ?_).mono ?_)
 ·intro m b e1 _;simp only[Kc] at e1⊢;split at e1
  ·rename_i e2;subst e2;rw[if_neg or,hXb];exact e1
  cases e1
 ·simp only[Kb];rw[if_neg or];try rfl
 ·simp[Kb]
 rintro v h3 nx3 _ ⟨es,m,rfl,hm,rfl,htk⟩;unfold dF;simp only[go_sem,reduceIte,Ko,Kp,KW,KK,reduceCtorEq,KL,KP];refine au ?_;refine aC (h'.set id (.arr k es)) ?_ ⟨ys,hp,hs, .inr ⟨hxn,id,es,m,or,rfl,hm,rfl,htk⟩⟩;intro q b e1;simp only[Kc,hX] at e1⊢;split at e1
 ·rename_i e2;rw[if_pos e2];exact e1
 rename_i e2;have:=hd _ _ e1;rw[if_neg e2,if_neg e2,if_neg or];exact e1
end
end Go.Proofs.YtjfdoohogiojcaaGreatDoor
namespace Go.Proofs.YtjfdoohogiojcaaGreatDoor
open Go.RowKit Go.Sort Go.Shelf Go.Lib
namespace LB
abbrev aB6:List aA:=[
 ⟨some 2,none, .box .leaf (.slot 0)⟩,
 ⟨some 4,none, .val (.move (.const (.sl .leaf .nil [])))⟩]
abbrev aB5:List aA:=[
 ⟨some 6,none, .val (.move (.slot 1))⟩]
abbrev aB4:List aA:=[
 ⟨some 5,none, .val (.move (.slot 7))⟩]
abbrev aB3(bs:Nat):List aA:=[
 ⟨some 8,none, .val (.load .leaf (.slot 2))⟩,
 ⟨some 9,none, .val (.move (.slot 5))⟩,
 ⟨some 10,none, .bslice .leaf [(.slot 9)]⟩,
 ⟨some 11,none, .append .leaf bs (.slot 8) (.slot 10)⟩,
 ⟨none,none, .store .leaf (.slot 2) (.slot 11)⟩]
abbrev aB7(bs:Nat):aJ:=(.block 1 (.ops (aB3 bs)))
abbrev aB2:List aA:=[
 ⟨some 12,none, .val (.load .leaf (.slot 2))⟩,
 ⟨some 4,none, .val (.move (.slot 12))⟩]
def aAs(bs:Nat):LFn:=⟨(.seq (.ops aB6) (.seq (.seq (.ops aB5) (.block 0 (.range (.slot 6) [7] (.ops aB4) (aB7 bs)))) (.seq (.ops aB2) .ret))),13,[.slot 4]⟩
abbrev aCI:List aA:=[
 ⟨some 5,none, .val (.load .leaf (.slot 1))⟩,
 ⟨some 6,none, .val (.len (.slot 5))⟩,
 ⟨some 7,none, .val (.move (.const (.int .i64 0)))⟩]
abbrev aCH:List aA:=[
 ⟨some 8,none, .val (.bin .lss (.slot 7) (.slot 6))⟩]
abbrev aCG:List aA:=[
 ⟨some 9,none, .val (.idxA .leaf (.slot 5) (.slot 7))⟩,
 ⟨some 10,none, .val (.load .leaf (.slot 9))⟩,
 ⟨some 4,none, .val (.move (.slot 10))⟩]
abbrev aCF:List aA:=[
 ⟨some 11,none, .val (.move (.slot 0))⟩,
 ⟨some 12,none, .val (.move (.slot 4))⟩,
 ⟨some 13,none, .callv (.slot 11) [(.slot 12)]⟩,
 ⟨some 14,none, .val (.not (.slot 13))⟩]
abbrev aCE:List aA:=[
 ⟨some 15,none, .val (.bin .add (.slot 7) (.const (.int .i64 1)))⟩,
 ⟨some 7,none, .val (.move (.slot 15))⟩]
abbrev aCJ:aJ:=(.seq (.ops aCH) (.seq (.cond (.slot 8) .skip (.exit 0)) (.seq (.block 1 (.seq (.ops aCG) (.seq (.ops aCF) (.cond (.slot 14) .ret .skip)))) (.ops aCE))))
def aCK:LFn:=⟨(.seq (.ops aCI) (.block 0 (.loop aCJ))),16,[]⟩
end LB
section
variable{P:Program}{α:Type}(e:α→V)(aAG:∀x,(e x).fits .leaf=true)
include aAG
theorem zW{f:Nat}(hL:aF P f=some LB.aCK)(own:Own)(l:List α)(hl:l.length≤1000000000):
 ap P f [.ept .leaf [.sl .leaf own (l.map e)] 0 0] Kd (l.map fun x=>[e x]):=by
 intro yn J D hbJ hnJ hnD hJ h0 nx0 h0J hd0;simp only[jK];refine aB hL fun hd=>?_;simp only[jL,jM,jA,jB,jN,jO,jP,jQ,V.undef];refine wle trivial ?_;refine oI (fun p:Nat×Hp×Nat=>p.1≤l.length∧J p.1 p.2.1 p.2.2∧aW p.2.1 p.2.2) (fun p=>⟨aD 16 0 [(0, .yld yn),(5, .sl .leaf own (l.map e)),(6, .int .i64 l.length),(7, .int .i64 p.1)],p.2.1,p.2.2⟩) (fun p=>l.length-p.1) (0,h0,nx0) ⟨Kv _,h0J,hd0⟩ ?_ ?_
 ·refine vD (by simp only[WkL,aD,jH,jI,jJ,go_sem,reduceIte,jA,jB,jC,jD,reduceCtorEq,jE,jF]) ?_ ?_
  ·exact Ka _
  exact Kg _
 rintro⟨i,h,nx⟩ ⟨hi,hj,hdm⟩;simp only at hi hj hdm;simp only[aD,go_sem,reduceIte,jA,jB,jC,jD,reduceCtorEq,jE,jF];refine wl ?_;refine cL _ rfl (fun hc=>?_) (fun hc=>?_)
 ·have hlt:i<l.length:=by simpa using hc
  have hg:=aR e l i hlt;repeat (first|with_reducible refine eO ?_|with_reducible refine dY ?_|with_reducible refine iC ?_|with_reducible refine bZ ?_|with_reducible refine bW ?_|with_reducible refine fI ?_|(refine iE rfl (by simp only[jK,jG,hg,aAG,aQ (aAG _),go_sem,reduceIte,jA,jB,jC,jD,reduceCtorEq,jE,jF];try omega) ?_;simp only[jK,jG,hg,aAG,aQ (aAG _),go_sem,reduceIte,jA,jB,jC,jD,reduceCtorEq,jE,jF])|(with_reducible refine fC ?_))
  refine nB rfl ?_;have hy:=(hJ i (by simpa using hlt) h nx hj hdm).dom;simp only[List.getElem_map] at hy;refine(hy.weaken ?_).mono ?_
  ·exact Ka _
  rintro v h' nx' hnx ⟨hq,aGt,_⟩;unfold dF;rcases hq with⟨rfl,hj'⟩|⟨rfl,hD⟩
  ·refine Zn ?_;refine wl ?_;refine cL _ rfl (fun hc=>?_) (fun hc=>?_)
   ·cases hc
   refine wl ?_;refine iX (i+1,h',nx') ⟨hlt,hj',aGt⟩ (by simp only;omega) ?_;rw[pF or or];refine vD (by simp only[WkL,aD,jH,jI,jJ,go_sem,reduceIte,jA,jB,jC,jD,reduceCtorEq,jE,jF]) ?_ ?_
   ·exact Ka _
   exact Kg _
  refine Zn ?_;refine wl ?_;refine cL _ rfl (fun hc=>?_) (fun hc=>?_)
  ·refine cA ?_;repeat (first|with_reducible refine gZ ?_|with_reducible refine fS ?_|with_reducible refine gJ ?_|with_reducible refine fM ?_)
   exact⟨h',Ka _, .inr hD⟩
  cases hc
 have hge:i=l.length:=by have:¬i<l.length:=by simpa using hc
                         omega
 subst hge;refine oJ ?_;repeat (first|with_reducible refine mH ?_|with_reducible refine lJ ?_|with_reducible refine fN ?_|with_reducible refine cD ZM ?_|with_reducible refine fT ?_|with_reducible refine bZ ?_)
 exact⟨h,Ka _, .inl hj⟩
theorem zO{f bs:Nat}(hL:aF P f=some (LB.aAs bs))(hbs:bs≤140737)(g:Nat)(caps:List V)(hb:Hp)(xs:List α)(hit:ap P g caps hb (xs.map fun x=>[e x]))(hl:xs.length≤100000000)
 (h':Hp) (nx:Nat) (hh:hb.has h'):
 aX P f [.sl .leaf .nil [], .fn (.func g) [] caps] h' nx fun v h'' _=>(xs=[]∧v= .sl .leaf .nil []∧h''=h')∨(xs≠ []∧∃id,nx≤id∧v= .rs id .leaf 0 xs.length∧h''=h'.set id (.arr .leaf (xs.map e))):=by
 have hlf:∀x,(e x).aAE=true:=fun x=>by have:=aAG x;rwa [kL] at this
 refine aB hL fun hd=>?_;simp only[jL,jM,jA,jB,jN,jO,jP,jQ,V.undef];refine wl ?_;have aAb:∀n,nx≤n→h' n=none:=fun n hn=>aW.none hd hn;obtain⟨I,hI⟩:∃I:Nat→Hp→Nat→Prop,∀i h nx1,I i h nx1↔(h'.le h∧∃acc,h nx=some (.arr .leaf [acc])∧((i=0∧acc= .sl .leaf .nil [])∨(0<i∧∃id,nx≤id∧id≠nx∧id≠nx+1∧acc= .rs id .leaf 0 i∧h id=some (.arr .leaf ((xs.take i).map e))))):=⟨_,fun _ _ _=>Iff.rfl⟩;refine kT hit rfl Zm (aW.set hd Zm Zm _) I (fun _ _ _=>False) ?_ ?_ ?_ (fun _ _ _ _ h=>h.elim) (fun _ _ _ _ h=>h.elim) ?_ ?_ ?_ (fun _ _ _ h=>h.elim)
 ·intro i h nx1 hi;exact pT hh (yj ((hI _ _ _).1 hi).1)
 ·exact fun i h nx1 nx2 hi _=>(hI _ _ _).2 ((hI _ _ _).1 hi)
 ·intro i h nx1 b hi;obtain⟨hle,acc,h1,h2⟩:=(hI _ _ _).1 hi;refine(hI _ _ _).2 ⟨gM hle (aAb _ Zm) b,acc,?_,?_⟩
  ·simp only[Kc];rw[if_neg Zm];exact h1
  rcases h2 with h2|⟨hi,id,h3,h4,h5,h6,h7⟩
  ·exact .inl h2
  refine .inr ⟨hi,id,h3,h4,h5,h6,?_⟩;simp only[Kc];rw[if_neg h5];exact h7
 ·exact(hI _ _ _).2 ⟨gM (Ka _) (aAb _ Zm) _, .sl .leaf .nil [],by simp[Kc], .inl ⟨rfl,rfl⟩⟩
 ·intro i hi h nx1 X hii hnx hX hdm;obtain⟨hle,acc,h1,h2⟩:=(hI _ _ _).1 hii;simp only at hnx hX;have hi':i<xs.length:=by simpa using hi
  have aRE:nx<nx1:=or;have e1:(nx=nx1)=False:=by simp;omega
  have e2:(nx+1=nx1)=False:=by simp;omega
  have e4:(nx1=nx+1)=False:=by simp;omega
  have e6:(nx1=nx)=False:=by simp;omega
  have e7:(nx=nx1)=False:=by simp;omega
  have e8:(nx+1=nx1)=False:=by simp;omega
  have e9:(nx=nx1+1)=False:=by simp;omega
  have e10:(nx+1=nx1+1)=False:=by simp;omega
  have hx:(xs.map fun x=>[e x])[i]=[e xs[i]]:=Zm;simp only[aAS,hx,List.set_cons_succ,List.set_cons_zero];refine wle (ee4 hlf e1 e2 e4) ?_;refine lS (by simp only[e1,e2,e4,go_sem,reduceIte,jA,jB,jC,jD,reduceCtorEq,jE,jF];exact hX) fun X'=>?_;refine Zn ?_;refine dY (fI ?_);have aCx:∀(h'':Hp) (nx2 id:Nat),h'.le h''→nx1≤id→h'' nx=some (.arr .leaf [.rs id .leaf 0 (i+1)])→h'' (nx+1)=some X'→h'' id=some (.arr .leaf ((xs.take (i+1)).map e))→∀sl,cW 1 (lX (nx+1) X' (I (i+1)) (fun _ _ _=>False)) .normal ⟨sl,h'',nx2⟩:=by
   intro h'' nx2 id q1 q2 q3 q4 q5 sl;exact bW (lW q4 ((hI _ _ _).2 ⟨q1,_,q3, .inr ⟨or,id,or,or,or,rfl,q5⟩⟩))
  generalize hQ:cW 1 (lX (nx+1) X' (I (i+1)) (fun _ _ _=>False)) .normal=Qn at aCx⊢;have aAw:∀n b,nx1≤n→∀{h2:Hp},h'.le h2→h'.le (h2.set n b):=fun n b hn h2 q=>gM q (aAb n or) b;have aHH:∀n,nx≤n→∀{h2:Hp},h'.le h2→∀b,h'.le (h2.set n b):=fun n hn h2 q b=>gM q (aAb n hn) b;rcases h2 with⟨rfl,rfl⟩|⟨aAi,id,h3,h4,h5,rfl,h7⟩
  ·refine fB 3 rfl (by simp only[h1,hlf,e1,e2,e4,e6,go_sem,reduceIte,jA,jB,jC,jD,reduceCtorEq,jE,jF]) ?_;simp only[h1,hlf,e1,e2,e4,e6,go_sem,reduceIte,jA,jB,jC,jD,reduceCtorEq,jE,jF];refine nJ rfl rfl Zm (by simp only[jL,jM];omega) ?_;refine iE rfl (by simp only[h1,hlf,e1,e2,e4,e6,e7,e8,e9,e10,go_sem,reduceIte,jA,jB,jC,jD,reduceCtorEq,jE,jF];try omega) ?_;simp only[h1,hlf,e1,e2,e4,e6,e7,e8,e9,e10,go_sem,reduceIte,jA,jB,jC,jD,reduceCtorEq,jE,jF];refine aCx _ _ (nx1+1) ?_ or ?_ ?_ ?_ _
   ·repeat (first|exact hle|refine aHH _ or ?_ _)
   ·simp only[h1,e1,e2,e4,e6,e7,e8,e9,e10,go_sem,reduceIte,jA,jB,jC,jD,reduceCtorEq,jE,jF]
   ·simp only[h1,e1,e2,e4,e6,e7,e8,e9,e10,go_sem,reduceIte,jA,jB,jC,jD,reduceCtorEq,jE,jF]
   have:xs.take (0+1)=[xs[0]]:=by
    cases xs with
    |nil=>simp at hi'
    |cons x l=>simp
   rw[this];simp only[KB,KE,go_sem,reduceIte,jA,jB,jC,jD,reduceCtorEq,jE,jF];have:(nx1+1=nx)=False:=by simp;omega
   simp only[this,go_sem,reduceIte,jA,jB,jC,jD,reduceCtorEq,jE,jF]
  have hid:id<nx1:=hdm _ _ h7;have f1:(id=nx1)=False:=by simp;omega
  have f2:(id=nx1)=False:=by simp;omega
  have f3:(id=nx)=False:=by simp;omega
  have f4:(id=nx+1)=False:=by simp;omega
  have f5:(id=nx1+1)=False:=by simp;omega
  have f6:(nx=id)=False:=by simp;omega
  have f7:(nx+1=id)=False:=by simp;omega
  have f8:(nx1+1=id)=False:=by simp;omega
  have hlen:((xs.take i).map e).length=i:=by simp;omega
  have hb1:(i+1)*bs≤140737488355328:=qA or hbs;refine iE rfl (by simp only[h1,h7,hlen,hb1,hlf,e1,e2,e4,e6,e7,e8,e9,e10,f1,f2,f3,f4,f5,f6,f7,f8,go_sem,reduceIte,jA,jB,jC,jD,reduceCtorEq,jE,jF];try omega) ?_;simp only[h1,h7,hlen,hb1,hlf,e1,e2,e4,e6,e7,e8,e9,e10,f1,f2,f3,f4,f5,f6,f7,f8,go_sem,reduceIte,jA,jB,jC,jD,reduceCtorEq,jE,jF];refine aCx _ _ (nx1+1) ?_ or ?_ ?_ ?_ _
  ·repeat (first|exact hle|refine aHH _ or ?_ _|refine kX ?_ (aAb _ h3))
  ·simp only[h1,e1,e2,e4,e6,e7,e8,e9,e10,go_sem,reduceIte,jA,jB,jC,jD,reduceCtorEq,jE,jF]
  ·simp only[h1,e1,e2,e4,e6,e7,e8,e9,e10,f6,f7,go_sem,reduceIte,jA,jB,jC,jD,reduceCtorEq,jE,jF]
  have:(nx1+1=nx)=False:=by simp;omega
  rw[Ke hi',List.map_append];simp only[this,KB,KE,go_sem,reduceIte,jA,jB,jC,jD,reduceCtorEq,jE,jF]
 intro h nx1 hii hnx hdm;obtain⟨hle,acc,h1,h2⟩:=(hI _ _ _).1 hii;simp only at hnx;have e1:(nx=nx+1)=False:=Zm;refine wle (ee2 h1 e1) ?_;rcases h2 with⟨h2,rfl⟩|⟨aAi,id,h3,h4,h5,rfl,h7⟩
 ·refine cA (aC h' ?_ (.inl ⟨?_,?_,rfl⟩))
  ·exact kX hle (aAb _ Zm)
  ·cases xs with
   |nil=>rfl
   |cons x l=>simp at h2
  simp only[go_sem,reduceIte,jA,jB,jC,jD,reduceCtorEq,jE,jF]
 have hne:xs≠ []:=by rintro rfl;simp at aAi
 refine cA (aC (h'.set id (.arr .leaf (xs.map e))) ?_ (.inr ⟨hne,id,h3,?_,rfl⟩))
 ·refine be (kX hle (aAb _ Zm)) ?_;simp only[Hp.aAn];rw[if_neg h5,h7];simp
 simp only[jK,go_sem,reduceIte,jA,jB,jC,jD,reduceCtorEq,jE,jF]
theorem gu{f f0 bs:Nat}(hL:aF P f=some (LB.Collect .leaf f0))(hL0:aF P f0=some (LB.aAs bs))(hbs:bs≤140737)(g:Nat)(caps:List V)(hb:Hp)(xs:List α)(hit:ap P g caps hb (xs.map fun x=>[e x]))(hl:xs.length≤100000000)
 (h':Hp) (nx:Nat) (hh:hb.has h'):
 aX P f [.fn (.func g) [] caps] h' nx fun v h'' _=>(xs=[]∧v= .sl .leaf .nil []∧h''=h')∨(xs≠ []∧∃id,nx≤id∧v= .rs id .leaf 0 xs.length∧h''=h'.set id (.arr .leaf (xs.map e))):=by
 refine aB hL fun hd=>?_;simp only[jL,jM,jA,jB,jN,jO,jP,jQ,V.undef];refine wl ?_;refine bG ((zO e aAG hL0 hbs g caps hb xs hit hl _ _ hh).mono ?_);intro v h'' nx' hnx hv;unfold dF;refine Zn ?_;refine wl ?_;exact cA (aC h'' (Ka _) hv)
end
theorem tK{P:Program}{α:Type}(e:α→V){ρ:Ren}(L:SlLaysF.n6 P ρ)(aAG:∀x,(e x).fits .leaf=true)(hen:fD P (ρ.f 6)=true)
 {f f0 f1 f2 bs:Nat} (hL:aF P f=some (LB.aAr .leaf f0 f1)) (hL0:aF P f0=some (LB.Collect .leaf f2)) (hL2:aF P f2=some (LB.aAs bs)) (hbs:bs≤140737) (hf1:f1=ρ.f 6)
 (g:Nat) (caps:List V) (hb:Hp) (xs:List α) (hit:ap P g caps hb (xs.map fun x=>[e x])) (hl:xs.length≤100000000)
 (cf:α→α→Int) (hO:SWO (ltOf cf)) (gc:Nat) (aGj:List V) (aEy:∀x y,aO P gc ([e x,e y]++aGj) Kd (.int .i64 (cf x y))) (h':Hp) (nx:Nat) (hh:hb.has h'):
 aX P f [.fn (.func g) [] caps, .fn (.func gc) [] aGj] h' nx fun v h'' _=>∃es,(∃ys:List α,ys.Perm xs∧fU cf ys∧es=ys.map e)∧gy nx h' .leaf es v h'':=by
 refine aB hL fun hd=>?_;simp only[jL,jM,jA,jB,jN,jO,jP,jQ,V.undef];refine wl ?_;refine bG ((gu e aAG hL0 hL2 hbs g caps hb xs hit hl _ _ hh).mono ?_);intro v h'' nx' hnx hv;unfold dF;rcases hv with⟨rfl,rfl,rfl⟩|⟨hne,id,hid,rfl,rfl⟩
 ·refine Zn ?_;refine wl ?_;refine bG ?_;subst hf1;refine(qH {L with} hen .leaf _ _ _).mono ?_;rintro v h'' aKq _ ⟨rfl,rfl⟩;unfold dF;refine Zn ?_;refine wl ?_;exact cA (aC h'' (Ka _) ⟨[],⟨[],List.Perm.refl _,List.Pairwise.nil,rfl⟩, .inl ⟨rfl,rfl,rfl⟩⟩)
 refine Zn ?_;refine wl ?_;refine bG ?_;subst hf1;refine(mv L hen e aAG cf hO gc aGj aEy id xs hne _ _ (by simp[Kb]) or).mono ?_;rintro v h'' aKq _ ⟨rfl,rfl,ys,hp,hs,rfl⟩;unfold dF;refine Zn ?_;refine wl ?_;have hlen:ys.length=xs.length:=hp.length_eq;refine cA (aC _ (Ka _) ⟨ys.map e,⟨ys,hp,hs,rfl⟩, .inr ⟨?_,id,hid,?_,?_⟩⟩)
 ·intro hys;have:ys=[]:=by simpa using hys
  subst this;exact hne (Kq.1 (by simpa using hlen.symm))
 ·simp only[jK,hlen,go_sem,reduceIte,jA,jB,jC,jD,reduceCtorEq,jE,jF]
 funext m;simp only[Kc];split<;>rfl
end Go.Proofs.YtjfdoohogiojcaaGreatDoor
