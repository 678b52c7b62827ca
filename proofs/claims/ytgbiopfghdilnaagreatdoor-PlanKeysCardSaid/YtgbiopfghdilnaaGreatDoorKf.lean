/-
Texts of this proof,one behind the other. No conditions.
-/
import Derived.Test.YtgbiopfghdilnaaGreatDoorChecked
import Derived.Test.YtgbiopfghdilnaaGreatDoorKe
import Derived.Test.YtgbiopfghdilnaaGreatDoorKdb
import Derived.Shelf.GgClosure.GivesRunes
import Derived.Shelf.GgClosure.StringsIndexFunc
import Derived.Shelf.GgClosure.StringsIndexFuncTop
import Derived.Below
import Derived.Shelf.RegionOpenPlain
import Derived.WalkKit
import Derived.Deep.LoopGhost
import Derived.Deep.RegionLaw
import Derived.Lib.Walk
import Derived.Sort.WalkB12
import Derived.Test.YtgbiopfghdilnaaGreatDoorKLow
import Derived.Test.YtgbiopfghdilnaaGreatDoorKd
open List renaming getD_eq_getElem?_getD→Ka,mem_append→Kd,take_append_of_le_length→Ke,replicate→Kf,mem_filter→Kg,filter_append→Kh,getElem?_replicate→Ki,length_cons→Kk,filter_cons→Km,getElem?_set_ne→Ko,contains_eq_mem→Kp,getElem?_eq_some_iff→Kq,range→Ku,mem_singleton→Kv,take_length→Kw,getElem_mem→Kx
open Array renaming eq_empty_of_size_eq_zero→Kb
open Bool renaming false_eq_true→Kc,not_false→Ks,and_false→Kt,false_and→Ky,true_and→Kz,and_self→KA,or_false→KB,or_true→KD
open Nat renaming le_refl→Kj
open Go.Instr renaming next→KC
set_option linter.unusedSimpArgs false
set_option linter.unusedVariables false
set_option linter.unusedSectionVars false
set_option maxHeartbeats 8000000
open Nat renaming reduceAdd→jA,reduceSub→jB,reduceLT→jC,reduceLeDiff→jD,reduceEqDiff→jE
open Int renaming reduceToNat→jF
open List renaming length_cons→jL,length_nil→jM,replicate_succ→jN,replicate_zero→jO,cons_append→jP,nil_append→jQ
namespace Go.Proofs.YtgbiopfghdilnaaGreatDoor
open Go.RowKit Go.Shelf Go.Lib Go.Sort
def dK(w w':World):Prop:=Below w.heap.size w w'∧w.drawn≤w'.drawn
theorem dK.refl(w:World):dK w w:=⟨Below.refl _ w,Kj _⟩
theorem dK.trans{a b c:World}(h:dK a b)(k:dK b c):dK a c:=⟨h.1.trans (k.1.mono h.1.size),Nat.le_trans h.2 k.2⟩
set_option maxHeartbeats 2000000 in
set_option maxRecDepth 1000000 in
theorem yY(g:Nat)(lb:Array Value)(eg:∀args w,(callFunc g args).run Tryz.prog w= .ok (.enter g args) w)(p:Nat→Bool)(s:ByteArray)(w:World)
 (hp:∀(W:World) (x:Nat),x≤1114111→dK w W→Calls Tryz.prog g (#[.int .i32 x]++lb) W fun e w'=>e= .returned (.bool (p x))∧dK W w'):
 Calls Tryz.prog 197 #[.string s, .func (.func g) #[] lb, .bool true] w fun e w'=>e= .returned (.int .i64 (Lib.idxFunc p true s))∧dK w w':=by
 have mixed:Tryz.prog.follows .mixedOrders=true:=Zz
 go_enter Tryz.func197,Tryz.ntmps197
 go_wp2
 go_loopg [] s.size (fun gf wx=>∃pos:Nat,wx.heap[w.heap.size]?=some (.stringIter s pos)∧dK w wx∧Lib.idxFuncFrom p true s gf pos=Lib.idxFunc p true s∧s.size≤pos+gf)
 case atStart=>exact⟨0,World.iter_heap w s 0,⟨(Below.refl _ w).alloc (Kj _) _,Kj _⟩,rfl,or⟩
 case round=>
  obtain⟨pos,hit,hbw,hleft,hfu⟩:=hrel;by_cases hps:pos<s.size
  ·obtain⟨g',rfl⟩:∃g',gk=g'+1:=⟨gk-1,or⟩;have hnx:∀ty,(KC (.pointer (some ⟨w.heap.size,0,none⟩)) true ty).run Tryz.prog wr=_:=fun ty=>Lib.run_next_any_at wr w.heap.size s pos ty hit hps;have hwd:=Lib.width_pos s pos;obtain⟨R,hR⟩:∃R,(Utf8.decode s pos).1=R:=⟨_,rfl⟩;obtain⟨K,hK⟩:∃K,(Utf8.decode s pos).2=K:=⟨_,rfl⟩;simp only[Lib.idxFuncFrom,hps,if_true,hR,hK] at hleft;rw[hR,hK] at hnx;rw[hK] at hwd;have hit2:=Lib.iterAt_heap wr w.heap.size s pos (pos+K) hit;have hbw2:dK w (wr.iterAt w.heap.size s (pos+K)):=⟨Lib.below_iterAt hbw.1 (k:=w.heap.size) (Kj _) s (pos+K),hbw.2⟩;obtain⟨W,hWd⟩:∃W,wr.iterAt w.heap.size s (pos+K)=W:=⟨_,rfl⟩;rw[hWd] at hnx hit2 hbw2;have hltW:w.heap.size<W.heap.size:=(Array.getElem?_eq_some_iff.1 hit2).1;have cS:Calls Tryz.prog g (#[.int .i32 (R:Int)]++lb) W _:=hp W R (by rw[←hR];exact Lib.rune_le s pos) hbw2;clear hp;cases hsp:p R<;>rw[hsp] at cS<;>simp only[hsp,if_true,Kc,if_false] at hleft
   ·go_wp2_with (go_at_fn g;refine cS.mono ?_;rintro e W' ⟨rfl,hbc⟩)
    go_roundg g'
    case measure=>omega
    case rel=>exact⟨pos+K,(hbc.1.block _ hltW).trans hit2,hbw2.trans hbc,hleft,or⟩
   go_wp2_with (go_at_fn g;refine cS.mono ?_;rintro e W' ⟨rfl,hbc⟩)
   go_ret
   exact⟨by rw[←hleft]<;>rfl,hbw2.trans hbc⟩
  have hnx:∀ty,(KC (.pointer (some ⟨w.heap.size,0,none⟩)) true ty).run Tryz.prog wr=_:=fun ty=>Lib.run_next_end_at wr w.heap.size s pos ty hit hps;rw[Lib.idxFuncFrom_end p true s gk pos hps] at hleft
  go_wp2
  go_ret
  exact⟨by rw[←hleft]<;>rfl,hbw⟩
set_option maxHeartbeats 1000000 in
theorem sS(g:Nat)(lb:Array Value)(eg:∀args w,(callFunc g args).run Tryz.prog w= .ok (.enter g args) w)(p:Nat→Bool)(s:ByteArray)(w:World)
 (hp:∀(W:World) (x:Nat),x≤1114111→dK w W→Calls Tryz.prog g (#[.int .i32 x]++lb) W fun e w'=>e= .returned (.bool (p x))∧dK W w'):
 Calls Tryz.prog 149 #[.string s, .func (.func g) #[] lb] w fun e w'=>e= .returned (.bool (decide (0≤Lib.idxFunc p true s)))∧dK w w':=by
 have mixed:Tryz.prog.follows .mixedOrders=true:=Zz;have cI:=yY g lb eg p s w hp;have e1:∀args w,(callFunc 197 args).run Tryz.prog w= .ok (.enter 197 args) w:=enters_of Tryz.func197 Zz rfl;have cJ:Calls Tryz.prog 182 #[.string s, .func (.func g) #[] lb] w fun e w'=>e= .returned (.int .i64 (Lib.idxFunc p true s))∧dK w w':=by
  go_enter Tryz.func182,Tryz.ntmps182
  go_wp2_with (go_at_fn 197;refine cI.mono ?_;rintro e w' ⟨rfl,hb⟩)
  go_ret
  exact⟨rfl,hb⟩
 have e2:∀args w,(callFunc 182 args).run Tryz.prog w= .ok (.enter 182 args) w:=enters_of Tryz.func182 Zz rfl;clear cI e1;obtain⟨I,hI⟩:∃I,Lib.idxFunc p true s=I:=⟨_,rfl⟩;rw[hI] at cJ⊢
 go_enter Tryz.func149,Tryz.ntmps149
 go_wp2_with (go_at_fn 182;refine cJ.mono ?_;rintro e w' ⟨rfl,hb⟩)
 go_ret
 exact⟨rfl,hb⟩
theorem oN{K:Ker}{W:World}(hb:dK K.w W):K.le {K with w:=W} where
 live _ hn:=hn
 mu _ _:=rfl
 tp _ _:=rfl
 fro:=rfl
 imm _ _:=Kj _
 cell b o hb' _:=gQ (hb.1.block b hb')
 shape b hb':=iD (hb.1.block b hb')
 below:=⟨hb.1.os,hb.1.tape,hb.1.output,hb.2,hb.1.size,fun b hb' _=>hb.1.block b hb'⟩
theorem Rel.later{K:Ker}{h:Hp}(hr:Rel K h){W:World}(hb:dK K.w W):Rel {K with w:=W} h:=
 ⟨hr.lt,hr.base,fun n b e=>(hr.blk n b e).mono (oN hb) (hr.lt n b e) (hb.1.block _ (hr.blk n b e).lt_size) rfl,hr.inj,hr.size.keep (oN hb)⟩
theorem uT(p:Nat→Bool)(g:Nat)(caps:List V)(hp:∀x:Nat,x≤1114111→aM Tryz.prog g ([.int .i32 x]++caps) Hp.none (.bool (p x)))(s:ByteArray)(h:Hp):aM Tryz.prog 149 [.str s, .fn (.func g) [] caps] h (.bool (decide (0≤Lib.idxFunc p true s))):=by
 refine aJ (fun L=>trivial) fun h' nx hh=>⟨Zz,fun K cargs hlv hr hv=>?_⟩;obtain⟨hsz,hv⟩:=hv;have hsz:cargs.size=2:=by simpa using hsz.symm
 obtain⟨c1,c2,rfl⟩:∃c1 c2,cargs=#[c1,c2]:=⟨cargs[0],cargs[1],by
  apply Array.ext
  ·simp[hsz]
  intro i h1 h2;have:i=0∨i=1:=by simp at h2;omega
  rcases this with rfl|rfl<;>rfl⟩
 have v1:VR K (.str s) c1:=hv 0 Zm;have v2:VR K (.fn (.func g) [] caps) c2:=hv 1 Zm;cases v1;cases v2 with
 |fn _ _ _ cfirst ccap q1 q2 w1 w2=>
  have hcf:cfirst=#[]:=by
   have:cfirst.size=0:=by simpa using q1.symm
   exact Kb this
  subst hcf;have hen:=(hp 0 or Hp.none 0 (aK _)).1;refine(sS g ccap (fun args w=>jR hen args w) p s K.w fun W x hx hb=>?_).mono ?_
  ·have hle:=oN hb
   have c:=(hp x hx Hp.none nx (aK _)).2 {K with w:=W,fro:=fun b=>b<W.heap.size} (#[.int .i32 x]++ccap) hlv ⟨(fun n b e=>by cases e),(fun n b e=>by cases e),(fun n b e=>by cases e),(fun n n' b b' e=>by cases e),((hr.size.keep hle).all)⟩
    ((show VRs _ [.int .i32 x] #[.int .i32 x] from⟨rfl,fun i hi=>by
      have:i=0:=by simpa using hi
      subst this;exact .int _ _⟩).append ⟨q2,fun i hi=>VR.refro (K:={K with w:=W}) (fun b hb'=>Nat.lt_of_lt_of_le (hr.size.lt b hb') hb.1.size) ((w2 i hi).mono hle)⟩)
   refine c.mono ?_;rintro e' w' ⟨K',v,cv,h',nx',rfl,rfl,a1,a2,a3,a4,a5,rfl,rfl,rfl⟩;cases a2;obtain⟨k1,k2,k3,k4,k5,k6⟩:=a1.below;exact⟨rfl,⟨k1,k2,k3,k5,fun b hb=>k6 b hb (.inl hb)⟩,k4⟩
  rintro e w' ⟨rfl,hb⟩;exact⟨{K with w:=w'},_,_,h',nx,rfl,rfl,oN hb, .bool _,hr.later hb,fun m hm=>⟨hlv m hm, .inl hm⟩,Kj _,rfl,rfl⟩
end Go.Proofs.YtgbiopfghdilnaaGreatDoor
namespace Go.Proofs.YtgbiopfghdilnaaGreatDoor
open Go.RowKit
theorem qm:aD Tryz.prog 107=some (LB.aDS 154):=Zz
theorem A3:aD Tryz.prog 154=some LB.aCG:=Zz
theorem wc:aD Tryz.prog 105=some LB.aME:=Zz
end Go.Proofs.YtgbiopfghdilnaaGreatDoor
namespace Go.Proofs.YtgbiopfghdilnaaGreatDoor
open Go.RowKit
attribute [local go_sem] oH gL aA.ok aA.next LOp.ok LOp.next aR.ok aR.out aI.ev bF oi mI kI tP V.fits V.aAE V.cells V.cell V.undef bU aX bP Sh.size Hp.set Hp.del nR kW tY fR aA.dok aA.aCa LOp.dok LOp.aDm nj np oW dD wV Hp.aBI veq fL fN List.take_succ_cons List.take_zero List.take_nil List.drop_succ_cons List.drop_zero List.drop_nil List.set_cons_succ List.set_cons_zero List.getD_cons_succ List.getD_cons_zero Kk List.length_nil List.map_cons List.map_nil List.all_cons List.all_nil List.mem_cons List.not_mem_nil List.replicate_succ List.replicate_zero List.cons_append List.nil_append List.append_nil List.isEmpty_cons List.isEmpty_nil eA eT oY Option.getD_some Option.isSome_some Option.isSome_none Nat.add_eq Nat.zero_add Nat.add_zero true_and and_true and_self true_implies implies_true false_implies forall_const forall_eq forall_eq_or_imp ne_eq not_false_eq_true not_true_eq_false Bool.not_true Ks decide_true decide_false Bool.and_true Kz Kt Ky true_or or_true false_or or_false eq_self Kc BN yu gI aF cH dF fO sQ pQ sP iG kX dA Int.toNat_natCast Int.toNat_zero Kw
structure Tm where
 e:Int
 r:Int
 deriving DecidableEq,Inhabited
def Tm.v(t:Tm):V:= .agg [.int .i64 t.e, .int .i64 t.r]
def Tm.le(a b:Tm):Bool:=decide (a.e≤b.e)&&decide (a.r≤b.r)
def Tm.ok(t:Tm):Bool:=decide (0≤t.e)&&decide (t.e≤1048576)&&(decide (0≤t.r)&&decide (t.r≤1048576))
end Go.Proofs.YtgbiopfghdilnaaGreatDoor
namespace Go.Proofs.YtgbiopfghdilnaaGreatDoor
inductive mB{α:Type}(E:α→α→Prop):α→α→Prop where
 |one {a b:α}:E a b→mB E a b
 |cons {a b c:α}:E a b→mB E b c→mB E a c
namespace mB
variable{α:Type}{E F:α→α→Prop}
theorem trans{a b c:α}(h:mB E a b)(k:mB E b c):mB E a c:=by
 induction h with
 |one e=>exact .cons e k
 |cons e _ ih=>exact .cons e (ih k)
theorem snoc{a b c:α}(h:mB E a b)(e:E b c):mB E a c:=h.trans (.one e)
theorem mono(hs:∀a b,E a b→F a b){a b:α}(h:mB E a b):mB F a b:=by
 induction h with
 |one e=>exact .one (hs _ _ e)
 |cons e _ ih=>exact .cons (hs _ _ e) ih
theorem last{a b:α}(h:mB E a b):∃c,E c b∧(c=a∨mB E a c):=by
 induction h with
 |one e=>exact⟨_,e, .inl rfl⟩
 |cons e k ih=>
  obtain⟨c,hc,hh⟩:=ih;rcases hh with rfl|hh
  ·exact⟨_,hc, .inr (.one e)⟩
  exact⟨c,hc, .inr (.cons e hh)⟩
theorem closed{S:α→Prop}(hS:∀a b,S a→E a b→S b){a b:α}(h:mB E a b)(ha:S a):S b:=by
 induction h with
 |one e=>exact hS _ _ ha e
 |cons e _ ih=>exact ih (hS _ _ ha e)
end mB
structure Bu(n:Nat)(E:List (Nat×Nat))(i:Nat)(cK:List Int)(row:List Nat):Prop where
 len:cK.length=n
 nd:row.Nodup
 lt:∀x∈row,x<n
 cnt:∀j,j<n→cK.getD j 0=((E.filter fun e=>decide (e.2=j)&& !((row.take i).contains e.1)).length:Int)
 iff:∀j,j<n→(j∈row↔cK.getD j 0=0)
 back:∀m (h:m<row.length),∀y,(y,row[m])∈E→y∈row.take m
structure KIn(n:Nat)(E D R:List (Nat×Nat))(i k:Nat)(cK:List Int)(row:List Nat):Prop where
 eq:E=D++R
 hk:row[i]?=some k
 len:cK.length=n
 nd:row.Nodup
 lt:∀x∈row,x<n
 cnt:∀j,j<n→cK.getD j 0+((D.filter fun e=>decide (e.2=j)&&decide (e.1=k)).length:Int)=((E.filter fun e=>decide (e.2=j)&& !((row.take i).contains e.1)).length:Int)
 iff:∀j,j<n→(j∈row↔cK.getD j 0=0)
 back:∀m (h:m<row.length),∀y,(y,row[m])∈E→y∈row.take m
theorem Bu.start{n:Nat}{E:List (Nat×Nat)}{i k:Nat}{cK:List Int}{row:List Nat}(K:Bu n E i cK row)(hk:row[i]?=some k):KIn n E [] E i k cK row:=
 ⟨rfl,hk,K.len,K.nd,K.lt,fun j hj=>by simpa using K.cnt j hj,K.iff,K.back⟩
theorem qe{row:List Nat}{i k:Nat}(hn:row.Nodup)(hk:row[i]?=some k):k∉row.take i:=by
 intro h;obtain⟨m,hm,e⟩:=List.getElem_of_mem h;obtain⟨hi,e2⟩:=Kq.1 hk;have hm':m<i∧m<row.length:=by simp at hm;omega
 rw[List.getElem_take] at e;have hp:=List.pairwise_iff_getElem.1 hn m i hm'.2 hi hm'.1;exact hp (e.trans e2.symm)
theorem Ad(l:List Int)(i j:Nat)(v:Int)(h:i<l.length):(l.set i v).getD j 0=if j=i then v else l.getD j 0:=by
 rw[Ka,Ka];by_cases e:j=i
 ·subst e;simp[h]
 rw[Ko or];simp[e]
theorem KIn.one{n:Nat}{E D R:List (Nat×Nat)}{i k x:Nat}{cK:List Int}{row:List Nat}(K:KIn n E D ((k,x)::R) i k cK row)(hx:x<n):
 1≤cK.getD x 0∧KIn n E (D++[(k,x)]) R i k (cK.set x (cK.getD x 0-1)) (if cK.getD x 0-1=0 then row++[x] else row):=by
 obtain⟨hi,hik⟩:=Kq.1 K.hk;have hnk:=qe K.nd K.hk;have hcx:=K.cnt x hx
 --ways to x from k are among those that count
 have sub:∀l:List (Nat×Nat),((l.filter fun e=>decide (e.2=x)&&decide (e.1=k)).length:Int)≤((l.filter fun e=>decide (e.2=x)&& !((row.take i).contains e.1)).length:Int):=by
  intro l;induction l with
  |nil=>simp
  |cons e l ih=>
   simp only[Km,Kp,Kd,Kv] at ih⊢;by_cases h1:e.2=x
   ·by_cases h2:e.1=k
    ·simp only[h1,h2,hnk,Kp,decide_true,decide_false,Ks,KA,if_true,Kk];omega
    simp only[h1,h2,decide_true,decide_false,Kt,Kc,if_false,Kz];split<;>(try simp only[Kk])<;>omega
   simp only[h1,decide_false,Ky,Kc,if_false];exact ih
 have s1:=sub E;have s2:((E.filter fun e=>decide (e.2=x)&&decide (e.1=k)).length:Int)=((D.filter fun e=>decide (e.2=x)&&decide (e.1=k)).length:Int)+1+((R.filter fun e=>decide (e.2=x)&&decide (e.1=k)).length:Int):=by
  rw[K.eq,Kh,Km];simp;omega
 have hge:1≤cK.getD x 0:=or;refine⟨hge,?_⟩;have hxr:x∉row:=fun h=>by have:=(K.iff x hx).1 h;omega
 have aAO:∀j,(cK.set x (cK.getD x 0-1)).getD j 0=if j=x then cK.getD x 0-1 else cK.getD j 0:=fun j=>Ad _ _ _ _ (by rw[K.len];exact hx)
 have aGJ:∀aMU:List Nat,aMU.take i=row.take i→∀j,j<n→(cK.set x (cK.getD x 0-1)).getD j 0+(((D++[(k,x)]).filter fun e=>decide (e.2=j)&&decide (e.1=k)).length:Int)=((E.filter fun e=>decide (e.2=j)&& !((aMU.take i).contains e.1)).length:Int):=by
  intro aMU hr j hj;rw[hr,aAO,←K.cnt j hj,Kh];by_cases e:j=x
  ·subst e;simp;omega
  have e':¬x=j:=fun h=>e h.symm;simp[e,e']
 split
 ·rename_i h0;have htk:(row++[x]).take i=row.take i:=by rw[Ke or]
  refine⟨by rw[K.eq];simp,by rw[List.getElem?_append_left hi];exact K.hk,by simp[K.len],?_,?_,aGJ _ htk,?_,?_⟩
  ·exact List.nodup_append.2 ⟨K.nd,Zm,fun a ha b hb=>by
    rintro rfl;simp at hb;subst hb;exact hxr ha⟩
  ·intro y hy;rcases Kd.1 hy with h|h
   ·exact K.lt y h
   simp at h;omega
  ·intro j hj;rw[aAO,Kd,Kv];by_cases e:j=x
   ·simp only[e,or_true,if_true,true_iff];exact h0
   simp only[e,or_false,if_false];exact K.iff j hj
  intro m hm y hy;by_cases hml:m<row.length
  ·rw[List.getElem_append_left hml] at hy;rw[Ke or];exact K.back m hml y hy
  have hme:m=row.length:=by simp at hm;omega
  subst hme;have hyx:(y,x)∈E:=by simpa using hy
  rw[Ke or,Kw]
  --all ways to x that count come from k
  refine Classical.byContradiction fun hny=>?_;have hyk:y≠k:=fun e=>hny (by rw[e,←hik];exact Kx hi);have hyt:y∉row.take i:=fun h=>hny (List.mem_of_mem_take h);have strict:∀l:List (Nat×Nat),(y,x)∈l→((l.filter fun e=>decide (e.2=x)&&decide (e.1=k)).length:Int)+1≤((l.filter fun e=>decide (e.2=x)&& !((row.take i).contains e.1)).length:Int):=by
   intro l hl;obtain⟨a,b,hab⟩:=List.append_of_mem hl;subst hab;have aSA:∀l:List (Nat×Nat),((l.filter fun e=>decide (e.2=x)&&decide (e.1=k)).length:Int)≤((l.filter fun e=>decide (e.2=x)&& !((row.take i).contains e.1)).length:Int):=sub;have ha:=aSA a;have hb:=aSA b;rw[Kh,Kh,Km,Km];simp only[hyk,hyt,Kp,decide_true,decide_false,Ks,KA,Kt,Kc,if_false,if_true,List.length_append,Kk] at ha hb⊢;omega
  have:=strict E hyx;omega
 rename_i h0;refine⟨by rw[K.eq];simp,K.hk,by simp[K.len],K.nd,K.lt,aGJ _ rfl,?_,K.back⟩;intro j hj;rw[aAO];by_cases e:j=x
 ·simp only[e,if_true,hxr,false_iff];exact h0
 simp only[e,if_false];exact K.iff j hj
theorem Bu.first{n:Nat}{E:List (Nat×Nat)}{cK:List Int}(hl:cK.length=n)(hc:∀j,j<n→cK.getD j 0=((E.filter fun e=>decide (e.2=j)).length:Int)):
 Bu n E 0 cK ((Ku n).filter fun j=>decide (cK.getD j 0=0)):=by
 refine⟨hl,List.nodup_range.filter _,fun x hx=>by simpa using(Kg.1 hx).1,fun j hj=>by simpa using hc j hj,fun j hj=>by simp[hj],?_⟩;intro m hm y hy;exfalso;have aAi:((Ku n).filter fun j=>decide (cK.getD j 0=0))[m]∈(Ku n).filter fun j=>decide (cK.getD j 0=0):=Kx hm;generalize ((Ku n).filter fun j=>decide (cK.getD j 0=0))[m]=z at aAi hy;obtain⟨h1,h2⟩:=Kg.1 aAi;have h1':z<n:=by simpa using h1
 have h2':cK.getD z 0=0:=by simpa using h2
 rw[hc z h1'] at h2';have hne:(E.filter fun e=>decide (e.2=z))≠ []:=List.ne_nil_of_mem (Kg.2 ⟨hy,Zm⟩);have:=List.length_pos_iff.2 hne;omega
def Via(E:Nat→Nat→Prop):Nat→Nat→Nat→Prop
 |0,i,j=>E i j
 |k+1,i,j=>Via E k i j∨(Via E k i k∧Via E k k j)
theorem Via.up{E:Nat→Nat→Prop}:∀{k:Nat} {i j:Nat},E i j→Via E k i j
 |0,_,_,h=>h
 |_+1,_,_,h=> .inl (Via.up h)
theorem Via.sound{E:Nat→Nat→Prop}:∀(k:Nat) {i j:Nat},Via E k i j→mB E i j
 |0,_,_,h=> .one h
 |k+1,_,_,h=>by
  rcases h with h|⟨h1,h2⟩
  ·exact Via.sound k h
  exact(Via.sound k h1).trans (Via.sound k h2)
theorem Via.join{E:Nat→Nat→Prop}:∀(k:Nat) {i l j:Nat},l<k→Via E k i l→Via E k l j→Via E k i j
 |0,_,_,_,hl,_,_=>or
 |k+1,i,l,j,hl,h1,h2=>by
  by_cases e:l=k
  ·subst e;have a:Via E l i l:=by rcases h1 with h|⟨h,_⟩<;>exact h
   have b:Via E l l j:=by rcases h2 with h|⟨_,h⟩<;>exact h
   exact .inr ⟨a,b⟩
  have hl':l<k:=or;rcases h1 with h1|⟨h1,h1'⟩<;>rcases h2 with h2|⟨h2,h2'⟩
  ·exact .inl (Via.join k hl' h1 h2)
  ·exact .inr ⟨Via.join k hl' h1 h2,h2'⟩
  ·exact .inr ⟨h1,Via.join k hl' h1' h2⟩
  exact .inr ⟨h1,h2'⟩
theorem Via.iff{E:Nat→Nat→Prop}{n:Nat}(hE:∀i j,E i j→i<n∧j<n)(i j:Nat):Via E n i j↔mB E i j:=by
 constructor
 ·exact Via.sound n
 intro h;induction h with
 |one e=>exact Via.up e
 |cons e _ ih=>exact Via.join n (hE _ _ e).2 (Via.up e) ih
structure Bfs(n:Nat)(E:Nat→Nat→Prop)(a b:Nat)(seen:List Bool)(todo:List Nat):Prop where
 len:seen.length=n
 lt:∀x∈todo,x<n
 aMB:∀x,(x∈todo∨seen.getD x false=true)→x=a∨mB E a x
 start:a∈todo∨(a≠b∧∀y,E a y→seen.getD y false=true)
 on:∀x,seen.getD x false=true→x∈todo∨(x≠b∧∀y,E x y→seen.getD y false=true)
structure AI(n:Nat)(E:Nat→Nat→Prop)(a b k:Nat)(D:Nat→Prop)(seen:List Bool)(todo:List Nat):Prop where
 len:seen.length=n
 lt:∀x∈todo,x<n
 kf:k=a∨mB E a k
 kb:k≠b
 got:∀y,D y→seen.getD y false=true
 aMB:∀x,(x∈todo∨seen.getD x false=true)→x=a∨mB E a x
 start:a=k∨a∈todo∨(a≠b∧∀y,E a y→seen.getD y false=true)
 on:∀x,seen.getD x false=true→x=k∨x∈todo∨(x≠b∧∀y,E x y→seen.getD y false=true)
theorem wz(l:List Bool)(i j:Nat)(v:Bool)(h:i<l.length):(l.set i v).getD j false=if j=i then v else l.getD j false:=by
 rw[Ka,Ka];by_cases e:j=i
 ·subst e;simp[h]
 rw[Ko or];simp[e]
theorem Bfs.first{n:Nat}{E:Nat→Nat→Prop}{a b:Nat}(ha:a<n):Bfs n E a b (Kf n false) [a]:=by
 have hf:∀x,(Kf n false).getD x false=false:=fun x=>by
  rw[Ka,Ki];split<;>rfl
 refine⟨Zm,by simpa using ha,fun x hx=>?_, .inl Zm,fun x hx=>by rw[hf x] at hx;cases hx⟩;rcases hx with hx|hx
 ·exact .inl (by simpa using hx)
 rw[hf x] at hx;cases hx
theorem AI.one{n:Nat}{E:Nat→Nat→Prop}{a b k x:Nat}{D:Nat→Prop}{seen:List Bool}{todo:List Nat}(B:AI n E a b k D seen todo)(hx:x<n)(he:E k x):AI n E a b k (fun y=>D y∨y=x) (seen.set x true) (todo++[x]):=by
 have aAO:∀j,(seen.set x true).getD j false=if j=x then true else seen.getD j false:=fun j=>wz _ _ _ _ (by rw[B.len];exact hx)
 have up:∀y,seen.getD y false=true→(seen.set x true).getD y false=true:=fun y hy=>by rw[aAO];split<;>simp_all
 have hfx:x=a∨mB E a x:=by
  rcases B.kf with h|h
  ·rw[←h];exact .inr (.one he)
  exact .inr (h.snoc he)
 refine⟨by simp[B.len],?_,B.kf,B.kb,?_,?_,?_,?_⟩
 ·intro y hy;rcases Kd.1 hy with h|h
  ·exact B.lt y h
  simp at h;omega
 ·rintro y (hy|rfl)
  ·exact up y (B.got y hy)
  rw[aAO,if_pos rfl]
 ·intro y hy;by_cases e:y=x
  ·rw[e];exact hfx
  rw[aAO,if_neg e] at hy;refine B.aMB y (hy.imp (fun h=>?_) id);rcases Kd.1 h with h|h
  ·exact h
  exact absurd (by simpa using h) e
 ·rcases B.start with h|h|⟨h1,h2⟩
  ·exact .inl h
  ·exact .inr (.inl (by simp[h]))
  exact .inr (.inr ⟨h1,fun y hy=>up y (h2 y hy)⟩)
 intro y hy;by_cases e:y=x
 ·exact .inr (.inl (by simp[e]))
 rw[aAO,if_neg e] at hy;rcases B.on y hy with h|h|⟨h1,h2⟩
 ·exact .inl h
 ·exact .inr (.inl (by simp[h]))
 exact .inr (.inr ⟨h1,fun z hz=>up z (h2 z hz)⟩)
structure Pa where
 n:Bool
 a:Int
 deriving DecidableEq,Inhabited
def Pa.ok(p:Pa):Bool:=decide (0≤p.a)&&decide (p.a≤1048576)
def Pa.le(p q:Pa):Bool:=(p.n|| !q.n)&&decide (p.a≤q.a)
def Pa.thn(p q:Pa):Option Pa:=
 if (!p.ok|| !q.ok)=true then none
 else if q.n=true then some q
 else if Pa.ok ⟨p.n,p.a+q.a⟩=false then none else some ⟨p.n,p.a+q.a⟩
theorem Pa.le_refl(p:Pa):p.le p=true:=by cases p with|mk n a=>cases n<;>simp[Pa.le]
theorem Pa.le_trans{p q r:Pa}(h:p.le q=true)(k:q.le r=true):p.le r=true:=by
 obtain⟨a,x⟩:=p;obtain⟨b,y⟩:=q;obtain⟨c,z⟩:=r;cases a<;>cases b<;>cases c<;>simp[Pa.le] at*<;>omega
theorem Pa.aFw{p q r:Pa}(h:p.thn q=some r):r.ok=true∧q.ok=true∧p.ok=true:=by
 unfold Pa.thn at h;split at h
 ·cases h
 rename_i h0;simp only[Bool.or_eq_true,Bool.not_eq_true',not_or,Bool.not_eq_false] at h0;split at h
 ·injection h with h;subst h;exact⟨h0.2,h0.2,h0.1⟩
 split at h
 ·cases h
 rename_i h1;injection h with h;subst h;exact⟨by simpa using h1,h0.2,h0.1⟩
structure We where
 f:Nat
 t:Nat
 p:Pa
 deriving DecidableEq,Inhabited
def Walk(ws:List We):Nat→List We→Nat→Prop
 |a,[],k=>a=k
 |a,w::l,k=>w∈ws∧w.f=a∧Walk ws w.t l k
def run:Pa→List We→Option Pa
 |p,[]=>some p
 |p,w::l=>(p.thn w.p).bind fun q=>run q l
def Pa.aAT:Pa:=⟨false,0⟩
def Val(ws:List We)(a k:Nat)(p:Pa):Prop:=∃l,Walk ws a l k∧run Pa.aAT l=some p
theorem Walk.append{ws:List We}:∀{l m:List We} {a b c:Nat},Walk ws a l b→Walk ws b m c→Walk ws a (l++m) c
 | [],_,_,_,_,h,k=>by have h:_=_:=h;subst h;exact k
 |w::l,_,_,_,_,⟨h1,h2,h3⟩,k=>⟨h1,h2,Walk.append h3 k⟩
theorem xQ:∀(l m:List We) (p:Pa),run p (l++m)=(run p l).bind fun q=>run q m
 | [],m,p=>rfl
 |w::l,m,p=>by
  show((p.thn w.p).bind fun q=>run q (l++m))=((p.thn w.p).bind fun q=>run q l).bind fun q=>run q m;cases p.thn w.p with
  |none=>rfl
  |some q=>exact xQ l m q
theorem yj:∀(l:List We) {p q:Pa},p.ok=true→run p l=some q→q.ok=true
 | [],p,q,hp,h=>by have h:some p=some q:=h;injection h with h;subst h;exact hp
 |w::l,p,q,hp,h=>by
  have h:((p.thn w.p).bind fun q=>run q l)=some q:=h;cases e:p.thn w.p with
  |none=>rw[e] at h;cases h
  |some r=>rw[e] at h;exact yj l (Pa.aFw e).1 h
theorem Walk.split{ws:List We}:∀{l m:List We} {a c:Nat},Walk ws a (l++m) c→∃b,Walk ws a l b∧Walk ws b m c
 | [],_,a,_,h=>⟨a,rfl,h⟩
 |w::l,_,_,_,⟨h1,h2,h3⟩=>by
  obtain⟨b,h4,h5⟩:=Walk.split h3;exact⟨b,⟨h1,h2,h4⟩,h5⟩
def Can(l:List Pa):Prop:=l.Pairwise fun p q=>p.n=false∧q.n=true∧p.a<q.a
def tX(l:List Pa)(p:Pa):Prop:=∃q∈l,q.le p=true
def h9(l:List Pa)(p:Pa):List Pa:=if p.n=true then (l.filter fun x=> !(p.le x))++[p] else p::(l.filter fun x=> !(p.le x))
theorem oE(l:List Pa)(p x:Pa):x∈h9 l p↔x=p∨(x∈l∧p.le x=false):=by
 unfold h9;split
 ·simp[or_comm]
 simp
theorem kg{l:List Pa}{p x:Pa}:tX (h9 l p) x↔tX l x∨p.le x=true:=by
 constructor
 ·rintro⟨q,hq,hle⟩;rcases(oE l p q).1 hq with e|⟨h1,_⟩
  ·subst e;exact .inr hle
  exact .inl ⟨q,h1,hle⟩
 rintro(⟨q,hq,hle⟩|h)
 ·cases e:p.le q with
  |true=>exact⟨p,(oE l p p).2 (.inl rfl),Pa.le_trans e hle⟩
  |false=>exact⟨q,(oE l p q).2 (.inr ⟨hq,e⟩),hle⟩
 exact⟨p,(oE l p p).2 (.inl rfl),h⟩
theorem Can.put{l:List Pa}(h:Can l){p:Pa}(hd:¬tX l p):Can (h9 l p):=by
 unfold h9 Can;have hf:Can (l.filter fun x=> !(p.le x)):=List.Pairwise.sublist List.filter_sublist h;have hno:∀x∈l,x.le p=false:=fun x hx=>by
  cases e:x.le p with
  |false=>rfl
  |true=>exact absurd ⟨x,hx,e⟩ hd
 split
 ·rename_i hn;refine List.pairwise_append.2 ⟨hf,Zm,fun x hx q hq=>?_⟩;simp at hq;subst hq;obtain⟨hx1,hx2⟩:=Kg.1 hx;have h1:=hno x hx1;have h2:q.le x=false:=by simpa using hx2
  obtain⟨a,b⟩:=x;obtain⟨c,d⟩:=q;simp at hn;subst hn;cases a<;>simp[Pa.le] at*<;>omega
 rename_i hn;refine List.pairwise_cons.2 ⟨fun x hx=>?_,hf⟩;obtain⟨hx1,hx2⟩:=Kg.1 hx;have h1:=hno x hx1;have h2:p.le x=false:=by simpa using hx2
 obtain⟨a,b⟩:=x;obtain⟨c,d⟩:=p;simp at hn;subst hn;cases a<;>simp[Pa.le] at*<;>omega
def Cd(l:List Pa):Nat:=l.foldr (fun p m=>min p.a.toNat m) 1048577
def co(l:List Pa):Nat:=Cd l+Cd (l.filter fun p=>p.n)
theorem Val.ok{ws:List We}{a k:Nat}{p:Pa}(h:Val ws a k p):p.ok=true:=by
 obtain⟨l,_,hr⟩:=h;exact yj l (by rfl) hr
theorem Val.step{ws:List We}{a:Nat}{p r:Pa}{w:We}(h:Val ws a w.f p)(hw:w∈ws)(e:p.thn w.p=some r):Val ws a w.t r:=by
 obtain⟨l,h1,h2⟩:=h;refine⟨l++[w],h1.append ⟨hw,rfl,rfl⟩,?_⟩;rw[xQ,h2];show((p.thn w.p).bind fun q=>run q [])=some r;rw[e];rfl
theorem Val.aAT(ws:List We)(a:Nat):Val ws a a Pa.aAT:=⟨[],rfl,rfl⟩
def AH(ws:List We)(out:List (List Pa))(k:Nat):Prop:=∀p∈out.getD k [],∀w∈ws,w.f=k→∀r,p.thn w.p=some r→tX (out.getD w.t []) r
structure Cw(ws:List We)(n a:Nat)(out:List (List Pa))(todo:List Nat):Prop where
 len:out.length=n
 can:∀k,Can (out.getD k [])
 val:∀k,∀p∈out.getD k [],Val ws a k p
 start:tX (out.getD a []) Pa.aAT
 lt:∀x∈todo,x<n
 clo:∀k,k<n→k∉todo→AH ws out k
structure sd(ws:List We)(n a k:Nat)(paths:List Pa)(D:We→Pa→Prop)(out:List (List Pa))(todo:List Nat):Prop where
 len:out.length=n
 can:∀k,Can (out.getD k [])
 val:∀k,∀p∈out.getD k [],Val ws a k p
 start:tX (out.getD a []) Pa.aAT
 lt:∀x∈todo,x<n
 clo:∀j,j<n→j∉todo→j≠k→AH ws out j
 pv:∀p∈paths,Val ws a k p
 me:k∈todo∨(out.getD k []=paths∧∀w∈ws,∀p∈paths,D w p→w.f=k→∀r,p.thn w.p=some r→tX (out.getD w.t []) r)
theorem tU{α:Type}(l:List α)(i j:Nat)(v d:α)(h:i<l.length):(l.set i v).getD j d=if j=i then v else l.getD j d:=by
 rw[Ka,Ka];by_cases e:j=i
 ·subst e;simp[h]
 rw[Ko or];simp[e]
theorem sd.put{ws:List We}{n a k:Nat}{paths:List Pa}{D:We→Pa→Prop}{out:List (List Pa)}{todo:List Nat}(W:sd ws n a k paths D out todo){w:We}{p r:Pa}(hw:w∈ws)(hf:w.f=k)(ht:w.t<n)(hp:p∈paths)(e:p.thn w.p=some r)(hd:¬tX (out.getD w.t []) r):
 sd ws n a k paths (fun v q=>D v q∨(v=w∧q=p)) (out.set w.t (h9 (out.getD w.t []) r)) (todo++[w.t]):=by
 have aAO:∀j,(out.set w.t (h9 (out.getD w.t []) r)).getD j []=if j=w.t then h9 (out.getD w.t []) r else out.getD j []:=fun j=>tU _ _ _ _ _ (by rw[W.len];exact ht)
 have up:∀j x,tX (out.getD j []) x→tX ((out.set w.t (h9 (out.getD w.t []) r)).getD j []) x:=fun j x h=>by
  rw[aAO];split
  ·rename_i ej;rw[ej] at h;exact kg.2 (.inl h)
  exact h
 refine⟨by simp[W.len],fun j=>?_,fun j q hq=>?_,up _ _ W.start,?_,?_,W.pv,?_⟩
 ·rw[aAO];split
  ·exact(W.can _).put hd
  exact W.can j
 ·rw[aAO] at hq;split at hq
  ·rename_i ej;subst ej;rcases(oE _ _ _).1 hq with eq|⟨h1,_⟩
   ·subst eq;exact Val.step (by rw[hf];exact W.pv p hp) hw e
   exact W.val _ q h1
  exact W.val j q hq
 ·intro x hx;rcases Kd.1 hx with h|h
  ·exact W.lt x h
  simp at h;omega
 ·intro j hj hn hk q hq v hv hvf r' hr';have hjt:j≠w.t:=fun ej=>hn (by simp[ej]);rw[aAO,if_neg hjt] at hq;exact up _ _ (W.clo j hj (fun h=>hn (by simp[h])) hk q hq v hv hvf r' hr')
 rcases W.me with h|⟨h1,h2⟩
 ·exact .inl (by simp[h])
 by_cases ek:k=w.t
 ·exact .inl (by simp[ek])
 refine .inr ⟨by rw[aAO,if_neg ek];exact h1,?_⟩;rintro v hv q hq (hD|⟨ev,eq⟩) hvf r' hr'
 ·exact up _ _ (h2 v hv q hq hD hvf r' hr')
 subst ev eq;rw[e] at hr';injection hr' with hr';subst hr';rw[aAO,if_pos rfl];exact kg.2 (.inr (Pa.le_refl _))
structure CC(ws:List We)(a k:Nat)(l:List Pa):Prop where
 can:Can l
 val:∀p∈l,Val ws a k p
 dom:∀p,Val ws a k p→tX l p
structure AF(ws:List We)(n a r:Nat)(at':List (List Pa)):Prop where
 len:at'.length=n
 can:∀k,k<n→Can (at'.getD k [])
 val:∀k,k<n→∀p∈at'.getD k [],Val ws a k p
 dom:∀k,k<n→∀l p,l.length≤r→Walk ws a l k→run Pa.aAT l=some p→tX (at'.getD k []) p
structure CK(l m:List Pa):Prop where
 can:Can m
 sub:∀p∈m,p∈l
 dom:∀p∈l,tX m p
theorem AF.first{ws:List We}{n a:Nat}(ha:a<n):AF ws n a 0 ((Kf n []).set a [Pa.aAT]):=by
 have aAO:∀j,((Kf n ([]:List Pa)).set a [Pa.aAT]).getD j []=if j=a then [Pa.aAT] else []:=fun j=>by
  rw[tU _ _ _ _ _ (by simpa using ha)];split
  ·rfl
  rw[Ka,Ki];split<;>rfl
 refine⟨Zm,fun k _=>?_,fun k _ p hp=>?_,fun k _ l p hl hw hr=>?_⟩
 ·rw[aAO];split<;>simp[Can]
 ·rw[aAO] at hp;split at hp
  ·rename_i e;simp at hp;subst e hp;exact Val.aAT ws k
  cases hp
 have e:l=[]:=List.length_eq_zero_iff.1 or;subst e;have hw:a=k:=hw;have hr:some Pa.aAT=some p:=hr;injection hr with hr;subst hw hr;rw[aAO,if_pos rfl];exact⟨Pa.aAT,Zm,Pa.le_refl _⟩
theorem Cw.first{ws:List We}{n a:Nat}(ha:a<n):Cw ws n a ((Kf n []).set a [Pa.aAT]) [a]:=by
 have aAO:∀j,((Kf n ([]:List Pa)).set a [Pa.aAT]).getD j []=if j=a then [Pa.aAT] else []:=fun j=>by
  rw[tU _ _ _ _ _ (by simpa using ha)];split
  ·rfl
  rw[Ka,Ki];split<;>rfl
 refine⟨Zm,fun k=>?_,fun k p hp=>?_,?_,by simpa using ha,fun k hk hn p hp=>?_⟩
 ·rw[aAO];split<;>simp[Can]
 ·rw[aAO] at hp;split at hp
  ·rename_i e;simp at hp;subst e hp;exact Val.aAT ws k
  cases hp
 ·rw[aAO,if_pos rfl];exact⟨Pa.aAT,Zm,Pa.le_refl _⟩
 rw[aAO,if_neg (by simpa using hn)] at hp;cases hp
section
variable{α:Type} [DecidableEq α]{lt:α→α→Bool}
structure Ord(lt:α→α→Bool):Prop where
 irr:∀x,lt x x=false
 trans:∀x y z,lt x y=true→lt y z=true→lt x z=true
 tot:∀x y,lt x y=false→lt y x=false→x=y
def csT(out:List α)(x:α):List α:=if out.getLast?=some x then out else out++[x]
def cs(l:List α):List α:=l.foldl csT []
end
end Go.Proofs.YtgbiopfghdilnaaGreatDoor
namespace Go.Proofs.YtgbiopfghdilnaaGreatDoor
open Go.RowKit
attribute [local irreducible] IntKind.wrap
def Pa.v(p:Pa):V:= .agg [.bool p.n, .int .i64 p.a]
def dP(n:Int):V:=if n=0 then .nilIface else .iface 100 (.int .i64 n)
theorem Ai:dP 0= .nilIface:=rfl
theorem dO(L:Nat→Prop)(n:Int):(dP n).names L:=by unfold dP;split<;>simp[V.names]
theorem lA(n:Int):veq (.iface true) (dP n) .nilIface=some (decide (n=0)):=by
 unfold dP;split<;>simp_all [veq]
end Go.Proofs.YtgbiopfghdilnaaGreatDoor
namespace Go.Proofs.YtgbiopfghdilnaaGreatDoor
open Go.RowKit Go.Sort
attribute [local irreducible] IntKind.wrap
theorem vb{a b:Bool}(h:a=true↔b=true):V.bool a=V.bool b:=by rw[Bool.eq_iff_iff.2 h]
theorem zf:aD Tryz.prog 106=some (LB.aDS 153):=Zz
theorem za:aD Tryz.prog 153=some LB.aCG:=Zz
theorem dt(s:ByteArray)(h:Hp):aM Tryz.prog 155 [.str s] h (.bool false):=by
 refine aJ (fun L=>trivial) fun h' nx hh=>aB L.aTn fun hd=>?_;simp only[jL,jM,jA,jB,jN,jO,jP,jQ,V.undef];refine au ?_;refine aC h' (leo hd) ⟨?_,rfl⟩;simp
theorem r6(a b:UInt8):zS a b=-1∨zS a b=0∨zS a b=1:=by
 unfold zS qY;split
 ·simp
 split<;>simp
theorem vQ:∀x y:List UInt8,dZ zS x y=-1∨dZ zS x y=0∨dZ zS x y=1
 | [],[]=>by simp[dZ]
 | [],_::_=>by simp[dZ]
 |_::_,[]=>by simp[dZ]
 |a::x,b::y=>by
  unfold dZ orC;split
  ·exact vQ x y
  exact r6 a b
theorem Bn(a b:ByteArray):r7 a b=if Op.bytesLess a.toList b.toList=true then-1 else if (!(Op.bytesLess a.toList b.toList||a.toList==b.toList))=true then 1 else 0:=by
 rw[eN,ny];have h1:=vQ a.toList b.toList;have h2:=c3S.eq a b;unfold r7 at h2⊢;by_cases e:a=b
 ·subst e;have:=h2.2 rfl;rw[this];simp
 have h3:dZ zS a.toList b.toList≠0:=fun k=>e (h2.1 k);rcases h1 with h1|h1|h1
 ·rw[h1];simp
 ·exact absurd h1 h3
 rw[h1];simp[e]
theorem xg(a b:ByteArray)(h:Hp):aM Tryz.prog 108 [.str a, .str b] h (.int .i64 (r7 a b)):=by
 refine aJ (fun L=>trivial) fun h' nx hh=>aB L.aUQ fun hd=>?_;simp only[jL,jM,jA,jB,jN,jO,jP,jQ,V.undef];have C1:=fun h=>dt a h;have C2:=fun h=>dt b h;rw[Bn];cases h1:Op.bytesLess a.toList b.toList with
 |true=>
  refine aue h1 ?_;exact aC h' (leo hd) ⟨rfl,rfl⟩
 |false=>
  cases h2:a.toList==b.toList with
  |true=>
   refine aue (e4 h1 h2 KD KB) ?_;exact aC h' (leo hd) ⟨rfl,rfl⟩
  |false=>
   refine aue (e4 h1 h2 KD KB) ?_;exact aC h' (leo hd) ⟨rfl,rfl⟩
theorem Bm(a b:Vl):orI [qY a.k b.k,qY a.n b.n,r7 a.s b.s]=r5 a b:=by
 simp only[orI,r5,orC];repeat' split
 all_goals first|rfl|omega
theorem uq(a b:Vl)(h:Hp):aM Tryz.prog 65 [a.v,b.v] h (.int .i64 (r5 a b)):=by
 refine aJ (fun L=>trivial) fun h' nx hh=>aB L.aUv fun hd=>?_;simp only[jL,jM,jA,jB,jN,jO,jP,jQ,V.undef];have D1:=fun h=>zU zf za a.k b.k h;have D2:=fun h=>zU qm A3 a.n b.n h;have D3:=fun h=>xg a.s b.s h;have D4:=fun h=>vf wc (.tok (nx+17)) [qY a.k b.k,qY a.n b.n,r7 a.s b.s] Zm h;rw[Bm] at D4;refine aue Vl.v.eq_1 ?_;exact aC h' (leo hd) ⟨rfl,rfl⟩
theorem sW(n:Int)(h:Hp):aM Tryz.prog 97 [.int .i64 n] h (.bool (uV n)):=by
 refine aJ (fun L=>trivial) fun h' nx hh=>aB L.aSg fun hd=>?_;simp only[jL,jM,jA,jB,jN,jO,jP,jQ,V.undef];unfold uV;by_cases h1:-2147483647≤n
 ·have h2:decide (-2147483647≤n)=true:=dct;refine aue h2 ?_;refine aC h' (leo hd) ⟨?_,rfl⟩;simp[h1]
 have h2:decide (-2147483647≤n)=false:=dcf;refine aue h2 ?_;refine aC h' (leo hd) ⟨?_,rfl⟩;simp[h1]
theorem ma(c:Nat)(h:Hp):aM Tryz.prog 148 [.int .u8 c] h (.bool (fU c)):=by
 refine aJ (fun L=>trivial) fun h' nx hh=>aB L.aSZ fun hd=>?_;simp only[jL,jM,jA,jB,jN,jO,jP,jQ,V.undef];unfold fU;by_cases h1:(97:Int)≤c
 ·have h2:decide ((97:Int)≤c)=true:=dct;refine aue h2 ?_;refine aC h' (leo hd) ⟨?_,rfl⟩;have:97≤c:=or;simp[this];omega
 have h2:decide ((97:Int)≤c)=false:=dcf;refine aue h2 ?_;refine aC h' (leo hd) ⟨?_,rfl⟩;simp;omega
theorem qi(c:Nat)(h:Hp):aM Tryz.prog 147 [.int .i32 c] h (.bool (iZ c)):=by
 refine aJ (fun L=>trivial) fun h' nx hh=>aB L.aSa fun hd=>?_;simp only[jL,jM,jA,jB,jN,jO,jP,jQ,V.undef];unfold iZ qE;cases h1:decide ((97:Int)≤c)<;>cases h2:decide ((c:Int)≤122)<;>cases h3:decide ((48:Int)≤c)<;>cases h4:decide ((c:Int)≤57)<;>
  (refine aue (e4 h1 h2 h3 h4) ?_
   refine aC h' (leo hd) ⟨?_,rfl⟩;simp only[decide_eq_true_eq,decide_eq_false_iff_not] at h1 h2 h3 h4;refine vb ?_;simp;try omega)
theorem du(s:ByteArray)(h:Hp):aM Tryz.prog 98 [.str s] h (.bool (lG s)):=by
 refine aJ (fun L=>trivial) fun h' nx hh=>aB L.aSf fun hd=>?_;simp only[jL,jM,jA,jB,jN,jO,jP,jQ,V.undef];have C1:=fun h=>ma (byt s 0) h;have C2:=fun h=>uT iZ 147 [] (fun x _=>qi x Hp.none) s h;have hb:(s.data.toList.getD 0 0).toNat=byt s 0:=rfl;have aAf:(s.toList==(⟨#[]⟩:ByteArray).toList)=decide (s.size=0):=by
  rw[eN];congr 1;rw[eq_iff_iff];exact⟨fun e=>by rw[e];rfl,fun e=>by cases s with|mk d=>simp only[ByteArray.size] at e;rw[Kb e]⟩
 rw[jx] at C2;by_cases h0:s.size=0
 ·have g0:decide (s.size=0)=true:=dct;have:lG s=false:=by unfold lG;exact decide_eq_false or
  refine aue (e2 aAf g0) ?_;exact aC h' (leo hd) ⟨by rw[this]<;>rfl,rfl⟩
 have g0:decide (s.size=0)=false:=dcf;by_cases h1:32<s.size
 ·have g1:decide ((s.size:Int)≤32)=false:=dcf;have:lG s=false:=by unfold lG;exact decide_eq_false or
  refine aue (e3 aAf g0 g1) ?_;exact aC h' (leo hd) ⟨by rw[this]<;>rfl,rfl⟩
 have g1:decide ((s.size:Int)≤32)=true:=dct;have aAl:0<s.size:=or;cases h2:fU (byt s 0) with
 |false=>
  rw[h2] at C1;have:lG s=false:=by unfold lG;exact decide_eq_false (by simp[h2])
  refine aue (e5 aAf g0 g1 hb aAl) ?_;exact aC h' (leo hd) ⟨by rw[this]<;>rfl,rfl⟩
 |true=>
  rw[h2] at C1;have:lG s=decide (∀i,i<s.size→qE (byt s i)=true):=by
   unfold lG;congr 1;rw[eq_iff_iff];exact⟨fun k=>k.2.2.2,fun k=>⟨or,or,h2,k⟩⟩
  refine aue (e5 aAf g0 g1 hb aAl) ?_;refine aC h' (leo hd) ⟨?_,rfl⟩;rw[this];simp
theorem gB(x:Vl)(h:Hp):aM Tryz.prog 54 [x.v] h (.bool (cC x)):=by
 refine aJ (fun L=>trivial) fun h' nx hh=>aB L.aSh fun hd=>?_;simp only[jL,jM,jA,jB,jN,jO,jP,jQ,V.undef];have C1:=fun h=>sW x.n h;have C2:=fun h=>du x.s h;have aAf:(x.s.toList==(⟨#[]⟩:ByteArray).toList)=decide (x.s.size=0):=by
  rw[eN];congr 1;rw[eq_iff_iff];exact⟨fun e=>by rw[e];rfl,fun e=>by cases hs:x.s with|mk d=>rw[hs] at e;simp only[ByteArray.size] at e;rw[Kb e]⟩
 unfold cC;by_cases k1:x.k=1
 ·have g1:(x.k==1)=true:=bqt;by_cases k2:x.s.size=0
  ·have g2:decide (x.s.size=0)=true:=dct;refine aue (e4 Vl.v.eq_1 g1 aAf g2) ?_;refine aC h' (leo hd) ⟨?_,rfl⟩;simp[k1,k2]
  have g2:decide (x.s.size=0)=false:=dcf;refine aue (e4 Vl.v.eq_1 g1 aAf g2) ?_;refine aC h' (leo hd) ⟨?_,rfl⟩;simp[k1,k2]
 have g1:(x.k==1)=false:=bqf;by_cases k3:x.k=2
 ·have g3:(x.k==2)=true:=bqt;by_cases k2:x.n=0
  ·have g2:(x.n==0)=true:=bqt;refine aue (e4 Vl.v.eq_1 g1 g3 g2) ?_;refine aC h' (leo hd) ⟨?_,rfl⟩;simp[k3,k2]
  have g2:(x.n==0)=false:=bqf;refine aue (e4 Vl.v.eq_1 g1 g3 g2) ?_;refine aC h' (leo hd) ⟨?_,rfl⟩;simp[k3,k2]
 have g3:(x.k==2)=false:=bqf;refine aue (e3 Vl.v.eq_1 g1 g3) ?_;refine aC h' (leo hd) ⟨?_,rfl⟩;simp[k1,k3]
theorem x9(n:Int)(h:Hp):aM Tryz.prog 184 [.int .i64 n] h (.tup [(ofV n).1.v,dP (ofV n).2]):=by
 refine aJ (fun L=>⟨Vl.aAQ L _,by unfold dP;split<;>simp[V.names],trivial⟩) fun h' nx hh=>aB L.aR1 fun hd=>?_;simp only[jL,jM,jA,jB,jN,jO,jP,jQ,V.undef];have C1:=fun h=>sW n h;unfold ofV;cases hb:uV n with
 |true=>
  rw[hb] at C1;refine au ?_;refine bI (by simp only[go_sem,reduceIte,jA,jB,jC,jD,reduceCtorEq,jE,jF]) h' (leo hd) ⟨?_,rfl⟩;refine Zn ?_;rfl
 |false=>
  rw[hb] at C1;refine au ?_;refine bI (by simp only[go_sem,reduceIte,jA,jB,jC,jD,reduceCtorEq,jE,jF]) h' (leo hd) ⟨?_,rfl⟩;refine Zn ?_;rfl
end Go.Proofs.YtgbiopfghdilnaaGreatDoor
