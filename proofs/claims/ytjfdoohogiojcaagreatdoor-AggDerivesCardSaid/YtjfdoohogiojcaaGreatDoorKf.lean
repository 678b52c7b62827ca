/-
Texts of this proof,one behind the other. No conditions.
-/
import Derived.Test.YtjfdoohogiojcaaGreatDoorChecked
import Derived.Test.YtjfdoohogiojcaaGreatDoorKe
import Derived.Test.YtjfdoohogiojcaaGreatDoorKdb
import Derived.Shelf.GgClosure.GivesRunes
import Derived.Shelf.GgClosure.StringsIndexFunc
import Derived.Shelf.GgClosure.StringsIndexFuncTop
import Derived.Below
import Derived.Shelf.RegionOpenPlain
import Derived.WalkKit
import Derived.Deep.LoopGhost
import Derived.Deep.RegionLaw
import Derived.Lib.Walk
import Derived.Sort.WalkB12
import Derived.Test.YtjfdoohogiojcaaGreatDoorKLow
import Derived.Test.YtjfdoohogiojcaaGreatDoorKd
open Go.Proofs.YtjfdoohogiojcaaGreatDoor.V renaming undef→Ka
open List renaming getD_eq_getElem?_getD→Kb,mem_append→Ke,take_append_of_le_length→Kf,replicate→Kg,mem_filter→Kh,filter_append→Ki,getElem?_replicate→Kj,length_cons→Km,filter_cons→Ko,getElem?_set_ne→Kp,contains_eq_mem→Kq,getElem?_eq_some_iff→Ks,range→Kw,mem_singleton→Kx,take_length→Ky,getElem_mem→Kz
open Array renaming eq_empty_of_size_eq_zero→Kc
open Bool renaming false_eq_true→Kd,not_false→Kt,and_false→Ku,true_and→Kv,eq_iff_iff→KA,false_and→KB,and_self→KC,or_false→KD,or_true→KF
open Nat renaming le_refl→Kk,lt_or_ge→KG
open Go.Instr renaming next→KE
set_option linter.unusedSimpArgs false
set_option linter.unusedVariables false
set_option linter.unusedSectionVars false
set_option maxHeartbeats 8000000
open Nat renaming reduceAdd→jA,reduceSub→jB,reduceLT→jC,reduceLeDiff→jD,reduceEqDiff→jE
open Int renaming reduceToNat→jF,natCast_add→jH,natCast_one→jI,natCast_zero→jJ
open List renaming length_cons→jL,length_nil→jM,replicate_succ→jN,replicate_zero→jO,cons_append→jP,nil_append→jQ
namespace Go.Proofs.YtjfdoohogiojcaaGreatDoor
open Go.RowKit Go.Shelf Go.Lib Go.Sort
def dJ(w w':World):Prop:=Below w.heap.size w w'∧w.drawn≤w'.drawn
theorem dJ.refl(w:World):dJ w w:=⟨Below.refl _ w,Kk _⟩
theorem dJ.trans{a b c:World}(h:dJ a b)(k:dJ b c):dJ a c:=⟨h.1.trans (k.1.mono h.1.size),Nat.le_trans h.2 k.2⟩
set_option maxHeartbeats 2000000 in
set_option maxRecDepth 1000000 in
theorem yI(g:Nat)(lb:Array Value)(eg:∀args w,(callFunc g args).run Tryz.prog w= .ok (.enter g args) w)(p:Nat→Bool)(s:ByteArray)(w:World)
 (hp:∀(W:World) (x:Nat),x≤1114111→dJ w W→Calls Tryz.prog g (#[.int .i32 x]++lb) W fun e w'=>e= .returned (.bool (p x))∧dJ W w'):
 Calls Tryz.prog 142 #[.string s, .func (.func g) #[] lb, .bool true] w fun e w'=>e= .returned (.int .i64 (Lib.idxFunc p true s))∧dJ w w':=by
 have mixed:Tryz.prog.follows .mixedOrders=true:=Zz
 go_enter Tryz.func142,Tryz.ntmps142
 go_wp2
 go_loopg [] s.size (fun gf wx=>∃pos:Nat,wx.heap[w.heap.size]?=some (.stringIter s pos)∧dJ w wx∧Lib.idxFuncFrom p true s gf pos=Lib.idxFunc p true s∧s.size≤pos+gf)
 case atStart=>exact⟨0,World.iter_heap w s 0,⟨(Below.refl _ w).alloc (Kk _) _,Kk _⟩,rfl,or⟩
 case round=>
  obtain⟨pos,hit,hbw,hleft,hfu⟩:=hrel;by_cases hps:pos<s.size
  ·obtain⟨g',rfl⟩:∃g',gk=g'+1:=⟨gk-1,or⟩;have hnx:∀ty,(KE (.pointer (some ⟨w.heap.size,0,none⟩)) true ty).run Tryz.prog wr=_:=fun ty=>Lib.run_next_any_at wr w.heap.size s pos ty hit hps;have hwd:=Lib.width_pos s pos;obtain⟨R,hR⟩:∃R,(Utf8.decode s pos).1=R:=⟨_,rfl⟩;obtain⟨K,hK⟩:∃K,(Utf8.decode s pos).2=K:=⟨_,rfl⟩;simp only[Lib.idxFuncFrom,hps,if_true,hR,hK] at hleft;rw[hR,hK] at hnx;rw[hK] at hwd;have hit2:=Lib.iterAt_heap wr w.heap.size s pos (pos+K) hit;have hbw2:dJ w (wr.iterAt w.heap.size s (pos+K)):=⟨Lib.below_iterAt hbw.1 (k:=w.heap.size) (Kk _) s (pos+K),hbw.2⟩;obtain⟨W,hWd⟩:∃W,wr.iterAt w.heap.size s (pos+K)=W:=⟨_,rfl⟩;rw[hWd] at hnx hit2 hbw2;have hltW:w.heap.size<W.heap.size:=(Array.getElem?_eq_some_iff.1 hit2).1;have cS:Calls Tryz.prog g (#[.int .i32 (R:Int)]++lb) W _:=hp W R (by rw[←hR];exact Lib.rune_le s pos) hbw2;clear hp;cases hsp:p R<;>rw[hsp] at cS<;>simp only[hsp,if_true,Kd,if_false] at hleft
   ·go_wp2_with (go_at_fn g;refine cS.mono ?_;rintro e W' ⟨rfl,hbc⟩)
    go_roundg g'
    case measure=>omega
    case rel=>exact⟨pos+K,(hbc.1.block _ hltW).trans hit2,hbw2.trans hbc,hleft,or⟩
   go_wp2_with (go_at_fn g;refine cS.mono ?_;rintro e W' ⟨rfl,hbc⟩)
   go_ret
   exact⟨by rw[←hleft]<;>rfl,hbw2.trans hbc⟩
  have hnx:∀ty,(KE (.pointer (some ⟨w.heap.size,0,none⟩)) true ty).run Tryz.prog wr=_:=fun ty=>Lib.run_next_end_at wr w.heap.size s pos ty hit hps;rw[Lib.idxFuncFrom_end p true s gk pos hps] at hleft
  go_wp2
  go_ret
  exact⟨by rw[←hleft]<;>rfl,hbw⟩
set_option maxHeartbeats 1000000 in
theorem sR(g:Nat)(lb:Array Value)(eg:∀args w,(callFunc g args).run Tryz.prog w= .ok (.enter g args) w)(p:Nat→Bool)(s:ByteArray)(w:World)
 (hp:∀(W:World) (x:Nat),x≤1114111→dJ w W→Calls Tryz.prog g (#[.int .i32 x]++lb) W fun e w'=>e= .returned (.bool (p x))∧dJ W w'):
 Calls Tryz.prog 112 #[.string s, .func (.func g) #[] lb] w fun e w'=>e= .returned (.bool (decide (0≤Lib.idxFunc p true s)))∧dJ w w':=by
 have mixed:Tryz.prog.follows .mixedOrders=true:=Zz;have cI:=yI g lb eg p s w hp;have e1:∀args w,(callFunc 142 args).run Tryz.prog w= .ok (.enter 142 args) w:=enters_of Tryz.func142 Zz rfl;have cJ:Calls Tryz.prog 130 #[.string s, .func (.func g) #[] lb] w fun e w'=>e= .returned (.int .i64 (Lib.idxFunc p true s))∧dJ w w':=by
  go_enter Tryz.func130,Tryz.ntmps130
  go_wp2_with (go_at_fn 142;refine cI.mono ?_;rintro e w' ⟨rfl,hb⟩)
  go_ret
  exact⟨rfl,hb⟩
 have e2:∀args w,(callFunc 130 args).run Tryz.prog w= .ok (.enter 130 args) w:=enters_of Tryz.func130 Zz rfl;clear cI e1;obtain⟨I,hI⟩:∃I,Lib.idxFunc p true s=I:=⟨_,rfl⟩;rw[hI] at cJ⊢
 go_enter Tryz.func112,Tryz.ntmps112
 go_wp2_with (go_at_fn 130;refine cJ.mono ?_;rintro e w' ⟨rfl,hb⟩)
 go_ret
 exact⟨rfl,hb⟩
theorem oR{K:Ker}{W:World}(hb:dJ K.w W):K.le {K with w:=W} where
 live _ hn:=hn
 mu _ _:=rfl
 tp _ _:=rfl
 fro:=rfl
 imm _ _:=Kk _
 cell b o hb' _:=eS (hb.1.block b hb')
 shape b hb':=iW (hb.1.block b hb')
 below:=⟨hb.1.os,hb.1.tape,hb.1.output,hb.2,hb.1.size,fun b hb' _=>hb.1.block b hb'⟩
theorem Rel.later{K:Ker}{h:Hp}(hr:Rel K h){W:World}(hb:dJ K.w W):Rel {K with w:=W} h:=
 ⟨hr.lt,hr.base,fun n b e=>(hr.blk n b e).mono (oR hb) (hr.lt n b e) (hb.1.block _ (hr.blk n b e).lt_size) rfl,hr.inj,hr.size.keep (oR hb)⟩
theorem uX(p:Nat→Bool)(g:Nat)(caps:List V)(hp:∀x:Nat,x≤1114111→aO Tryz.prog g ([.int .i32 x]++caps) Hp.none (.bool (p x)))(s:ByteArray)(h:Hp):aO Tryz.prog 112 [.str s, .fn (.func g) [] caps] h (.bool (decide (0≤Lib.idxFunc p true s))):=by
 refine aI (fun L=>trivial) fun h' nx hh=>⟨Zz,fun K cargs hlv hr hv=>?_⟩;obtain⟨hsz,hv⟩:=hv;have hsz:cargs.size=2:=by simpa using hsz.symm
 obtain⟨c1,c2,rfl⟩:∃c1 c2,cargs=#[c1,c2]:=⟨cargs[0],cargs[1],by
  apply Array.ext
  ·simp[hsz]
  intro i h1 h2;have:i=0∨i=1:=by simp at h2;omega
  rcases this with rfl|rfl<;>rfl⟩
 have v1:VR K (.str s) c1:=hv 0 Zm;have v2:VR K (.fn (.func g) [] caps) c2:=hv 1 Zm;cases v1;cases v2 with
 |fn _ _ _ cfirst ccap q1 q2 w1 w2=>
  have hcf:cfirst=#[]:=by
   have:cfirst.size=0:=by simpa using q1.symm
   exact Kc this
  subst hcf;have hen:=(hp 0 or Hp.none 0 (aM _)).1;refine(sR g ccap (fun args w=>fX hen args w) p s K.w fun W x hx hb=>?_).mono ?_
  ·have hle:=oR hb
   have c:=(hp x hx Hp.none nx (aM _)).2 {K with w:=W,fro:=fun b=>b<W.heap.size} (#[.int .i32 x]++ccap) hlv ⟨(fun n b e=>by cases e),(fun n b e=>by cases e),(fun n b e=>by cases e),(fun n n' b b' e=>by cases e),((hr.size.keep hle).all)⟩
    ((show VRs _ [.int .i32 x] #[.int .i32 x] from⟨rfl,fun i hi=>by
      have:i=0:=by simpa using hi
      subst this;exact .int _ _⟩).append ⟨q2,fun i hi=>VR.refro (K:={K with w:=W}) (fun b hb'=>Nat.lt_of_lt_of_le (hr.size.lt b hb') hb.1.size) ((w2 i hi).mono hle)⟩)
   refine c.mono ?_;rintro e' w' ⟨K',v,cv,h',nx',rfl,rfl,a1,a2,a3,a4,a5,rfl,rfl,rfl⟩;cases a2;obtain⟨k1,k2,k3,k4,k5,k6⟩:=a1.below;exact⟨rfl,⟨k1,k2,k3,k5,fun b hb=>k6 b hb (.inl hb)⟩,k4⟩
  rintro e w' ⟨rfl,hb⟩;exact⟨{K with w:=w'},_,_,h',nx,rfl,rfl,oR hb, .bool _,hr.later hb,fun m hm=>⟨hlv m hm, .inl hm⟩,Kk _,rfl,rfl⟩
end Go.Proofs.YtjfdoohogiojcaaGreatDoor
namespace Go.Proofs.YtjfdoohogiojcaaGreatDoor
open Go.RowKit
theorem ot:aF Tryz.prog 76=some (LB.aEZ 104):=Zz
theorem Af:aF Tryz.prog 104=some LB.aDA:=Zz
theorem tv:aF Tryz.prog 74=some LB.aKS:=Zz
end Go.Proofs.YtjfdoohogiojcaaGreatDoor
namespace Go.Proofs.YtjfdoohogiojcaaGreatDoor
open Go.RowKit
attribute [local go_sem] qJ iY aA.ok aA.next LOp.ok LOp.next aY.ok aY.out aK.ev bJ rx pN mY bq V.fits V.aAE V.cells V.cell Ka bV bO bQ Sh.size Hp.set Hp.del pB kZ yW iH aA.dok aA.aEH LOp.dok LOp.aFn pu rr nO dC zT Hp.aBo veq gI iG List.take_succ_cons List.take_zero List.take_nil List.drop_succ_cons List.drop_zero List.drop_nil List.set_cons_succ List.set_cons_zero List.getD_cons_succ List.getD_cons_zero Km List.length_nil List.map_cons List.map_nil List.all_cons List.all_nil List.mem_cons List.not_mem_nil List.replicate_succ List.replicate_zero List.cons_append List.nil_append List.append_nil List.isEmpty_cons List.isEmpty_nil fG gF vV Option.getD_some Option.isSome_some Option.isSome_none Nat.add_eq Nat.zero_add Nat.add_zero true_and and_true and_self true_implies implies_true false_implies forall_const forall_eq forall_eq_or_imp ne_eq not_false_eq_true not_true_eq_false Bool.not_true Kt decide_true decide_false Bool.and_true Kv Ku KB true_or or_true false_or or_false eq_self Kd Ba AA lH aD cT dW gO yZ uW yY mB oZ fK Int.toNat_natCast Int.toNat_zero Ky
structure Tm where
 e:Int
 r:Int
 deriving DecidableEq,Inhabited
def Tm.v(t:Tm):V:= .agg [.int .i64 t.e, .int .i64 t.r]
def Tm.le(a b:Tm):Bool:=decide (a.e≤b.e)&&decide (a.r≤b.r)
def Tm.ok(t:Tm):Bool:=decide (0≤t.e)&&decide (t.e≤1048576)&&(decide (0≤t.r)&&decide (t.r≤1048576))
end Go.Proofs.YtjfdoohogiojcaaGreatDoor
namespace Go.Proofs.YtjfdoohogiojcaaGreatDoor
inductive mC{α:Type}(E:α→α→Prop):α→α→Prop where
 |one {a b:α}:E a b→mC E a b
 |cons {a b c:α}:E a b→mC E b c→mC E a c
namespace mC
variable{α:Type}{E F:α→α→Prop}
theorem trans{a b c:α}(h:mC E a b)(k:mC E b c):mC E a c:=by
 induction h with
 |one e=>exact .cons e k
 |cons e _ ih=>exact .cons e (ih k)
theorem snoc{a b c:α}(h:mC E a b)(e:E b c):mC E a c:=h.trans (.one e)
theorem mono(hs:∀a b,E a b→F a b){a b:α}(h:mC E a b):mC F a b:=by
 induction h with
 |one e=>exact .one (hs _ _ e)
 |cons e _ ih=>exact .cons (hs _ _ e) ih
theorem last{a b:α}(h:mC E a b):∃c,E c b∧(c=a∨mC E a c):=by
 induction h with
 |one e=>exact⟨_,e, .inl rfl⟩
 |cons e k ih=>
  obtain⟨c,hc,hh⟩:=ih;rcases hh with rfl|hh
  ·exact⟨_,hc, .inr (.one e)⟩
  exact⟨c,hc, .inr (.cons e hh)⟩
theorem closed{S:α→Prop}(hS:∀a b,S a→E a b→S b){a b:α}(h:mC E a b)(ha:S a):S b:=by
 induction h with
 |one e=>exact hS _ _ ha e
 |cons e _ ih=>exact ih (hS _ _ ha e)
end mC
structure Aw(n:Nat)(E:List (Nat×Nat))(i:Nat)(cM:List Int)(row:List Nat):Prop where
 len:cM.length=n
 nd:row.Nodup
 lt:∀x∈row,x<n
 cnt:∀j,j<n→cM.getD j 0=((E.filter fun e=>decide (e.2=j)&& !((row.take i).contains e.1)).length:Int)
 iff:∀j,j<n→(j∈row↔cM.getD j 0=0)
 back:∀m (h:m<row.length),∀y,(y,row[m])∈E→y∈row.take m
structure KIn(n:Nat)(E D R:List (Nat×Nat))(i k:Nat)(cM:List Int)(row:List Nat):Prop where
 eq:E=D++R
 hk:row[i]?=some k
 len:cM.length=n
 nd:row.Nodup
 lt:∀x∈row,x<n
 cnt:∀j,j<n→cM.getD j 0+((D.filter fun e=>decide (e.2=j)&&decide (e.1=k)).length:Int)=((E.filter fun e=>decide (e.2=j)&& !((row.take i).contains e.1)).length:Int)
 iff:∀j,j<n→(j∈row↔cM.getD j 0=0)
 back:∀m (h:m<row.length),∀y,(y,row[m])∈E→y∈row.take m
theorem Aw.start{n:Nat}{E:List (Nat×Nat)}{i k:Nat}{cM:List Int}{row:List Nat}(K:Aw n E i cM row)(hk:row[i]?=some k):KIn n E [] E i k cM row:=
 ⟨rfl,hk,K.len,K.nd,K.lt,fun j hj=>by simpa using K.cnt j hj,K.iff,K.back⟩
theorem og{row:List Nat}{i k:Nat}(hn:row.Nodup)(hk:row[i]?=some k):k∉row.take i:=by
 intro h;obtain⟨m,hm,e⟩:=List.getElem_of_mem h;obtain⟨hi,e2⟩:=Ks.1 hk;have hm':m<i∧m<row.length:=by simp at hm;omega
 rw[List.getElem_take] at e;have hp:=List.pairwise_iff_getElem.1 hn m i hm'.2 hi hm'.1;exact hp (e.trans e2.symm)
theorem y0(l:List Int)(i j:Nat)(v:Int)(h:i<l.length):(l.set i v).getD j 0=if j=i then v else l.getD j 0:=by
 rw[Kb,Kb];by_cases e:j=i
 ·subst e;simp[h]
 rw[Kp or];simp[e]
theorem KIn.one{n:Nat}{E D R:List (Nat×Nat)}{i k x:Nat}{cM:List Int}{row:List Nat}(K:KIn n E D ((k,x)::R) i k cM row)(hx:x<n):
 1≤cM.getD x 0∧KIn n E (D++[(k,x)]) R i k (cM.set x (cM.getD x 0-1)) (if cM.getD x 0-1=0 then row++[x] else row):=by
 obtain⟨hi,hik⟩:=Ks.1 K.hk;have hnk:=og K.nd K.hk;have hcx:=K.cnt x hx
 --ways to x from k are among those that count
 have sub:∀l:List (Nat×Nat),((l.filter fun e=>decide (e.2=x)&&decide (e.1=k)).length:Int)≤((l.filter fun e=>decide (e.2=x)&& !((row.take i).contains e.1)).length:Int):=by
  intro l;induction l with
  |nil=>simp
  |cons e l ih=>
   simp only[Ko,Kq,Ke,Kx] at ih⊢;by_cases h1:e.2=x
   ·by_cases h2:e.1=k
    ·simp only[h1,h2,hnk,Kq,decide_true,decide_false,Kt,KC,if_true,Km];omega
    simp only[h1,h2,decide_true,decide_false,Ku,Kd,if_false,Kv];split<;>(try simp only[Km])<;>omega
   simp only[h1,decide_false,KB,Kd,if_false];exact ih
 have s1:=sub E;have s2:((E.filter fun e=>decide (e.2=x)&&decide (e.1=k)).length:Int)=((D.filter fun e=>decide (e.2=x)&&decide (e.1=k)).length:Int)+1+((R.filter fun e=>decide (e.2=x)&&decide (e.1=k)).length:Int):=by
  rw[K.eq,Ki,Ko];simp;omega
 have hge:1≤cM.getD x 0:=or;refine⟨hge,?_⟩;have hxr:x∉row:=fun h=>by have:=(K.iff x hx).1 h;omega
 have aAO:∀j,(cM.set x (cM.getD x 0-1)).getD j 0=if j=x then cM.getD x 0-1 else cM.getD j 0:=fun j=>y0 _ _ _ _ (by rw[K.len];exact hx)
 have aHT:∀aKn:List Nat,aKn.take i=row.take i→∀j,j<n→(cM.set x (cM.getD x 0-1)).getD j 0+(((D++[(k,x)]).filter fun e=>decide (e.2=j)&&decide (e.1=k)).length:Int)=((E.filter fun e=>decide (e.2=j)&& !((aKn.take i).contains e.1)).length:Int):=by
  intro aKn hr j hj;rw[hr,aAO,←K.cnt j hj,Ki];by_cases e:j=x
  ·subst e;simp;omega
  have e':¬x=j:=fun h=>e h.symm;simp[e,e']
 split
 ·rename_i h0;have htk:(row++[x]).take i=row.take i:=by rw[Kf or]
  refine⟨by rw[K.eq];simp,by rw[List.getElem?_append_left hi];exact K.hk,by simp[K.len],?_,?_,aHT _ htk,?_,?_⟩
  ·exact List.nodup_append.2 ⟨K.nd,Zm,fun a ha b hb=>by
    rintro rfl;simp at hb;subst hb;exact hxr ha⟩
  ·intro y hy;rcases Ke.1 hy with h|h
   ·exact K.lt y h
   simp at h;omega
  ·intro j hj;rw[aAO,Ke,Kx];by_cases e:j=x
   ·simp only[e,or_true,if_true,true_iff];exact h0
   simp only[e,or_false,if_false];exact K.iff j hj
  intro m hm y hy;by_cases hml:m<row.length
  ·rw[List.getElem_append_left hml] at hy;rw[Kf or];exact K.back m hml y hy
  have hme:m=row.length:=by simp at hm;omega
  subst hme;have hyx:(y,x)∈E:=by simpa using hy
  rw[Kf or,Ky]
  --all ways to x that count come from k
  refine Classical.byContradiction fun hny=>?_;have hyk:y≠k:=fun e=>hny (by rw[e,←hik];exact Kz hi);have hyt:y∉row.take i:=fun h=>hny (List.mem_of_mem_take h);have strict:∀l:List (Nat×Nat),(y,x)∈l→((l.filter fun e=>decide (e.2=x)&&decide (e.1=k)).length:Int)+1≤((l.filter fun e=>decide (e.2=x)&& !((row.take i).contains e.1)).length:Int):=by
   intro l hl;obtain⟨a,b,hab⟩:=List.append_of_mem hl;subst hab;have aQJ:∀l:List (Nat×Nat),((l.filter fun e=>decide (e.2=x)&&decide (e.1=k)).length:Int)≤((l.filter fun e=>decide (e.2=x)&& !((row.take i).contains e.1)).length:Int):=sub;have ha:=aQJ a;have hb:=aQJ b;rw[Ki,Ki,Ko,Ko];simp only[hyk,hyt,Kq,decide_true,decide_false,Kt,KC,Ku,Kd,if_false,if_true,List.length_append,Km] at ha hb⊢;omega
  have:=strict E hyx;omega
 rename_i h0;refine⟨by rw[K.eq];simp,K.hk,by simp[K.len],K.nd,K.lt,aHT _ rfl,?_,K.back⟩;intro j hj;rw[aAO];by_cases e:j=x
 ·simp only[e,if_true,hxr,false_iff];exact h0
 simp only[e,if_false];exact K.iff j hj
theorem Aw.first{n:Nat}{E:List (Nat×Nat)}{cM:List Int}(hl:cM.length=n)(hc:∀j,j<n→cM.getD j 0=((E.filter fun e=>decide (e.2=j)).length:Int)):
 Aw n E 0 cM ((Kw n).filter fun j=>decide (cM.getD j 0=0)):=by
 refine⟨hl,List.nodup_range.filter _,fun x hx=>by simpa using(Kh.1 hx).1,fun j hj=>by simpa using hc j hj,fun j hj=>by simp[hj],?_⟩;intro m hm y hy;exfalso;have aA4:((Kw n).filter fun j=>decide (cM.getD j 0=0))[m]∈(Kw n).filter fun j=>decide (cM.getD j 0=0):=Kz hm;generalize ((Kw n).filter fun j=>decide (cM.getD j 0=0))[m]=z at aA4 hy;obtain⟨h1,h2⟩:=Kh.1 aA4;have h1':z<n:=by simpa using h1
 have h2':cM.getD z 0=0:=by simpa using h2
 rw[hc z h1'] at h2';have hne:(E.filter fun e=>decide (e.2=z))≠ []:=List.ne_nil_of_mem (Kh.2 ⟨hy,Zm⟩);have:=List.length_pos_iff.2 hne;omega
def Via(E:Nat→Nat→Prop):Nat→Nat→Nat→Prop
 |0,i,j=>E i j
 |k+1,i,j=>Via E k i j∨(Via E k i k∧Via E k k j)
theorem Via.up{E:Nat→Nat→Prop}:∀{k:Nat} {i j:Nat},E i j→Via E k i j
 |0,_,_,h=>h
 |_+1,_,_,h=> .inl (Via.up h)
theorem Via.sound{E:Nat→Nat→Prop}:∀(k:Nat) {i j:Nat},Via E k i j→mC E i j
 |0,_,_,h=> .one h
 |k+1,_,_,h=>by
  rcases h with h|⟨h1,h2⟩
  ·exact Via.sound k h
  exact(Via.sound k h1).trans (Via.sound k h2)
theorem Via.join{E:Nat→Nat→Prop}:∀(k:Nat) {i l j:Nat},l<k→Via E k i l→Via E k l j→Via E k i j
 |0,_,_,_,hl,_,_=>or
 |k+1,i,l,j,hl,h1,h2=>by
  by_cases e:l=k
  ·subst e;have a:Via E l i l:=by rcases h1 with h|⟨h,_⟩<;>exact h
   have b:Via E l l j:=by rcases h2 with h|⟨_,h⟩<;>exact h
   exact .inr ⟨a,b⟩
  have hl':l<k:=or;rcases h1 with h1|⟨h1,h1'⟩<;>rcases h2 with h2|⟨h2,h2'⟩
  ·exact .inl (Via.join k hl' h1 h2)
  ·exact .inr ⟨Via.join k hl' h1 h2,h2'⟩
  ·exact .inr ⟨h1,Via.join k hl' h1' h2⟩
  exact .inr ⟨h1,h2'⟩
theorem Via.iff{E:Nat→Nat→Prop}{n:Nat}(hE:∀i j,E i j→i<n∧j<n)(i j:Nat):Via E n i j↔mC E i j:=by
 constructor
 ·exact Via.sound n
 intro h;induction h with
 |one e=>exact Via.up e
 |cons e _ ih=>exact Via.join n (hE _ _ e).2 (Via.up e) ih
structure Bfs(n:Nat)(E:Nat→Nat→Prop)(a b:Nat)(seen:List Bool)(todo:List Nat):Prop where
 len:seen.length=n
 lt:∀x∈todo,x<n
 aKQ:∀x,(x∈todo∨seen.getD x false=true)→x=a∨mC E a x
 start:a∈todo∨(a≠b∧∀y,E a y→seen.getD y false=true)
 on:∀x,seen.getD x false=true→x∈todo∨(x≠b∧∀y,E x y→seen.getD y false=true)
structure zu(n:Nat)(E:Nat→Nat→Prop)(a b k:Nat)(D:Nat→Prop)(seen:List Bool)(todo:List Nat):Prop where
 len:seen.length=n
 lt:∀x∈todo,x<n
 kf:k=a∨mC E a k
 kb:k≠b
 got:∀y,D y→seen.getD y false=true
 aKQ:∀x,(x∈todo∨seen.getD x false=true)→x=a∨mC E a x
 start:a=k∨a∈todo∨(a≠b∧∀y,E a y→seen.getD y false=true)
 on:∀x,seen.getD x false=true→x=k∨x∈todo∨(x≠b∧∀y,E x y→seen.getD y false=true)
theorem uq(l:List Bool)(i j:Nat)(v:Bool)(h:i<l.length):(l.set i v).getD j false=if j=i then v else l.getD j false:=by
 rw[Kb,Kb];by_cases e:j=i
 ·subst e;simp[h]
 rw[Kp or];simp[e]
theorem Bfs.first{n:Nat}{E:Nat→Nat→Prop}{a b:Nat}(ha:a<n):Bfs n E a b (Kg n false) [a]:=by
 have hf:∀x,(Kg n false).getD x false=false:=fun x=>by
  rw[Kb,Kj];split<;>rfl
 refine⟨Zm,by simpa using ha,fun x hx=>?_, .inl Zm,fun x hx=>by rw[hf x] at hx;cases hx⟩;rcases hx with hx|hx
 ·exact .inl (by simpa using hx)
 rw[hf x] at hx;cases hx
theorem zu.one{n:Nat}{E:Nat→Nat→Prop}{a b k x:Nat}{D:Nat→Prop}{seen:List Bool}{todo:List Nat}(B:zu n E a b k D seen todo)(hx:x<n)(he:E k x):zu n E a b k (fun y=>D y∨y=x) (seen.set x true) (todo++[x]):=by
 have aAO:∀j,(seen.set x true).getD j false=if j=x then true else seen.getD j false:=fun j=>uq _ _ _ _ (by rw[B.len];exact hx)
 have up:∀y,seen.getD y false=true→(seen.set x true).getD y false=true:=fun y hy=>by rw[aAO];split<;>simp_all
 have hfx:x=a∨mC E a x:=by
  rcases B.kf with h|h
  ·rw[←h];exact .inr (.one he)
  exact .inr (h.snoc he)
 refine⟨by simp[B.len],?_,B.kf,B.kb,?_,?_,?_,?_⟩
 ·intro y hy;rcases Ke.1 hy with h|h
  ·exact B.lt y h
  simp at h;omega
 ·rintro y (hy|rfl)
  ·exact up y (B.got y hy)
  rw[aAO,if_pos rfl]
 ·intro y hy;by_cases e:y=x
  ·rw[e];exact hfx
  rw[aAO,if_neg e] at hy;refine B.aKQ y (hy.imp (fun h=>?_) id);rcases Ke.1 h with h|h
  ·exact h
  exact absurd (by simpa using h) e
 ·rcases B.start with h|h|⟨h1,h2⟩
  ·exact .inl h
  ·exact .inr (.inl (by simp[h]))
  exact .inr (.inr ⟨h1,fun y hy=>up y (h2 y hy)⟩)
 intro y hy;by_cases e:y=x
 ·exact .inr (.inl (by simp[e]))
 rw[aAO,if_neg e] at hy;rcases B.on y hy with h|h|⟨h1,h2⟩
 ·exact .inl h
 ·exact .inr (.inl (by simp[h]))
 exact .inr (.inr ⟨h1,fun z hz=>up z (h2 z hz)⟩)
structure Pa where
 n:Bool
 a:Int
 deriving DecidableEq,Inhabited
def Pa.ok(p:Pa):Bool:=decide (0≤p.a)&&decide (p.a≤1048576)
def Pa.le(p q:Pa):Bool:=(p.n|| !q.n)&&decide (p.a≤q.a)
def Pa.thn(p q:Pa):Option Pa:=
 if (!p.ok|| !q.ok)=true then none
 else if q.n=true then some q
 else if Pa.ok ⟨p.n,p.a+q.a⟩=false then none else some ⟨p.n,p.a+q.a⟩
theorem Pa.le_refl(p:Pa):p.le p=true:=by cases p with|mk n a=>cases n<;>simp[Pa.le]
theorem Pa.le_trans{p q r:Pa}(h:p.le q=true)(k:q.le r=true):p.le r=true:=by
 obtain⟨a,x⟩:=p;obtain⟨b,y⟩:=q;obtain⟨c,z⟩:=r;cases a<;>cases b<;>cases c<;>simp[Pa.le] at*<;>omega
theorem Pa.aGz{p q r:Pa}(h:p.thn q=some r):r.ok=true∧q.ok=true∧p.ok=true:=by
 unfold Pa.thn at h;split at h
 ·cases h
 rename_i h0;simp only[Bool.or_eq_true,Bool.not_eq_true',not_or,Bool.not_eq_false] at h0;split at h
 ·injection h with h;subst h;exact⟨h0.2,h0.2,h0.1⟩
 split at h
 ·cases h
 rename_i h1;injection h with h;subst h;exact⟨by simpa using h1,h0.2,h0.1⟩
structure We where
 f:Nat
 t:Nat
 p:Pa
 deriving DecidableEq,Inhabited
def Walk(ws:List We):Nat→List We→Nat→Prop
 |a,[],k=>a=k
 |a,w::l,k=>w∈ws∧w.f=a∧Walk ws w.t l k
def run:Pa→List We→Option Pa
 |p,[]=>some p
 |p,w::l=>(p.thn w.p).bind fun q=>run q l
def Pa.aAQ:Pa:=⟨false,0⟩
def Val(ws:List We)(a k:Nat)(p:Pa):Prop:=∃l,Walk ws a l k∧run Pa.aAQ l=some p
theorem Walk.append{ws:List We}:∀{l m:List We} {a b c:Nat},Walk ws a l b→Walk ws b m c→Walk ws a (l++m) c
 | [],_,_,_,_,h,k=>by have h:_=_:=h;subst h;exact k
 |w::l,_,_,_,_,⟨h1,h2,h3⟩,k=>⟨h1,h2,Walk.append h3 k⟩
theorem wX:∀(l m:List We) (p:Pa),run p (l++m)=(run p l).bind fun q=>run q m
 | [],m,p=>rfl
 |w::l,m,p=>by
  show((p.thn w.p).bind fun q=>run q (l++m))=((p.thn w.p).bind fun q=>run q l).bind fun q=>run q m;cases p.thn w.p with
  |none=>rfl
  |some q=>exact wX l m q
theorem wu:∀(l:List We) {p q:Pa},p.ok=true→run p l=some q→q.ok=true
 | [],p,q,hp,h=>by have h:some p=some q:=h;injection h with h;subst h;exact hp
 |w::l,p,q,hp,h=>by
  have h:((p.thn w.p).bind fun q=>run q l)=some q:=h;cases e:p.thn w.p with
  |none=>rw[e] at h;cases h
  |some r=>rw[e] at h;exact wu l (Pa.aGz e).1 h
theorem Walk.split{ws:List We}:∀{l m:List We} {a c:Nat},Walk ws a (l++m) c→∃b,Walk ws a l b∧Walk ws b m c
 | [],_,a,_,h=>⟨a,rfl,h⟩
 |w::l,_,_,_,⟨h1,h2,h3⟩=>by
  obtain⟨b,h4,h5⟩:=Walk.split h3;exact⟨b,⟨h1,h2,h4⟩,h5⟩
def Can(l:List Pa):Prop:=l.Pairwise fun p q=>p.n=false∧q.n=true∧p.a<q.a
def uU(l:List Pa)(p:Pa):Prop:=∃q∈l,q.le p=true
def fa(l:List Pa)(p:Pa):List Pa:=if p.n=true then (l.filter fun x=> !(p.le x))++[p] else p::(l.filter fun x=> !(p.le x))
theorem oC(l:List Pa)(p x:Pa):x∈fa l p↔x=p∨(x∈l∧p.le x=false):=by
 unfold fa;split
 ·simp[or_comm]
 simp
theorem jd{l:List Pa}{p x:Pa}:uU (fa l p) x↔uU l x∨p.le x=true:=by
 constructor
 ·rintro⟨q,hq,hle⟩;rcases(oC l p q).1 hq with e|⟨h1,_⟩
  ·subst e;exact .inr hle
  exact .inl ⟨q,h1,hle⟩
 rintro(⟨q,hq,hle⟩|h)
 ·cases e:p.le q with
  |true=>exact⟨p,(oC l p p).2 (.inl rfl),Pa.le_trans e hle⟩
  |false=>exact⟨q,(oC l p q).2 (.inr ⟨hq,e⟩),hle⟩
 exact⟨p,(oC l p p).2 (.inl rfl),h⟩
theorem Can.put{l:List Pa}(h:Can l){p:Pa}(hd:¬uU l p):Can (fa l p):=by
 unfold fa Can;have hf:Can (l.filter fun x=> !(p.le x)):=List.Pairwise.sublist List.filter_sublist h;have hno:∀x∈l,x.le p=false:=fun x hx=>by
  cases e:x.le p with
  |false=>rfl
  |true=>exact absurd ⟨x,hx,e⟩ hd
 split
 ·rename_i hn;refine List.pairwise_append.2 ⟨hf,Zm,fun x hx q hq=>?_⟩;simp at hq;subst hq;obtain⟨hx1,hx2⟩:=Kh.1 hx;have h1:=hno x hx1;have h2:q.le x=false:=by simpa using hx2
  obtain⟨a,b⟩:=x;obtain⟨c,d⟩:=q;simp at hn;subst hn;cases a<;>simp[Pa.le] at*<;>omega
 rename_i hn;refine List.pairwise_cons.2 ⟨fun x hx=>?_,hf⟩;obtain⟨hx1,hx2⟩:=Kh.1 hx;have h1:=hno x hx1;have h2:p.le x=false:=by simpa using hx2
 obtain⟨a,b⟩:=x;obtain⟨c,d⟩:=p;simp at hn;subst hn;cases a<;>simp[Pa.le] at*<;>omega
def Bb(l:List Pa):Nat:=l.foldr (fun p m=>min p.a.toNat m) 1048577
def co(l:List Pa):Nat:=Bb l+Bb (l.filter fun p=>p.n)
theorem Val.ok{ws:List We}{a k:Nat}{p:Pa}(h:Val ws a k p):p.ok=true:=by
 obtain⟨l,_,hr⟩:=h;exact wu l (by rfl) hr
theorem Val.step{ws:List We}{a:Nat}{p r:Pa}{w:We}(h:Val ws a w.f p)(hw:w∈ws)(e:p.thn w.p=some r):Val ws a w.t r:=by
 obtain⟨l,h1,h2⟩:=h;refine⟨l++[w],h1.append ⟨hw,rfl,rfl⟩,?_⟩;rw[wX,h2];show((p.thn w.p).bind fun q=>run q [])=some r;rw[e];rfl
theorem Val.aAQ(ws:List We)(a:Nat):Val ws a a Pa.aAQ:=⟨[],rfl,rfl⟩
def zt(ws:List We)(out:List (List Pa))(k:Nat):Prop:=∀p∈out.getD k [],∀w∈ws,w.f=k→∀r,p.thn w.p=some r→uU (out.getD w.t []) r
structure Bn(ws:List We)(n a:Nat)(out:List (List Pa))(todo:List Nat):Prop where
 len:out.length=n
 can:∀k,Can (out.getD k [])
 val:∀k,∀p∈out.getD k [],Val ws a k p
 start:uU (out.getD a []) Pa.aAQ
 lt:∀x∈todo,x<n
 clo:∀k,k<n→k∉todo→zt ws out k
structure ql(ws:List We)(n a k:Nat)(paths:List Pa)(D:We→Pa→Prop)(out:List (List Pa))(todo:List Nat):Prop where
 len:out.length=n
 can:∀k,Can (out.getD k [])
 val:∀k,∀p∈out.getD k [],Val ws a k p
 start:uU (out.getD a []) Pa.aAQ
 lt:∀x∈todo,x<n
 clo:∀j,j<n→j∉todo→j≠k→zt ws out j
 pv:∀p∈paths,Val ws a k p
 me:k∈todo∨(out.getD k []=paths∧∀w∈ws,∀p∈paths,D w p→w.f=k→∀r,p.thn w.p=some r→uU (out.getD w.t []) r)
theorem tY{α:Type}(l:List α)(i j:Nat)(v d:α)(h:i<l.length):(l.set i v).getD j d=if j=i then v else l.getD j d:=by
 rw[Kb,Kb];by_cases e:j=i
 ·subst e;simp[h]
 rw[Kp or];simp[e]
theorem ql.put{ws:List We}{n a k:Nat}{paths:List Pa}{D:We→Pa→Prop}{out:List (List Pa)}{todo:List Nat}(W:ql ws n a k paths D out todo){w:We}{p r:Pa}(hw:w∈ws)(hf:w.f=k)(ht:w.t<n)(hp:p∈paths)(e:p.thn w.p=some r)(hd:¬uU (out.getD w.t []) r):
 ql ws n a k paths (fun v q=>D v q∨(v=w∧q=p)) (out.set w.t (fa (out.getD w.t []) r)) (todo++[w.t]):=by
 have aAO:∀j,(out.set w.t (fa (out.getD w.t []) r)).getD j []=if j=w.t then fa (out.getD w.t []) r else out.getD j []:=fun j=>tY _ _ _ _ _ (by rw[W.len];exact ht)
 have up:∀j x,uU (out.getD j []) x→uU ((out.set w.t (fa (out.getD w.t []) r)).getD j []) x:=fun j x h=>by
  rw[aAO];split
  ·rename_i ej;rw[ej] at h;exact jd.2 (.inl h)
  exact h
 refine⟨by simp[W.len],fun j=>?_,fun j q hq=>?_,up _ _ W.start,?_,?_,W.pv,?_⟩
 ·rw[aAO];split
  ·exact(W.can _).put hd
  exact W.can j
 ·rw[aAO] at hq;split at hq
  ·rename_i ej;subst ej;rcases(oC _ _ _).1 hq with eq|⟨h1,_⟩
   ·subst eq;exact Val.step (by rw[hf];exact W.pv p hp) hw e
   exact W.val _ q h1
  exact W.val j q hq
 ·intro x hx;rcases Ke.1 hx with h|h
  ·exact W.lt x h
  simp at h;omega
 ·intro j hj hn hk q hq v hv hvf r' hr';have hjt:j≠w.t:=fun ej=>hn (by simp[ej]);rw[aAO,if_neg hjt] at hq;exact up _ _ (W.clo j hj (fun h=>hn (by simp[h])) hk q hq v hv hvf r' hr')
 rcases W.me with h|⟨h1,h2⟩
 ·exact .inl (by simp[h])
 by_cases ek:k=w.t
 ·exact .inl (by simp[ek])
 refine .inr ⟨by rw[aAO,if_neg ek];exact h1,?_⟩;rintro v hv q hq (hD|⟨ev,eq⟩) hvf r' hr'
 ·exact up _ _ (h2 v hv q hq hD hvf r' hr')
 subst ev eq;rw[e] at hr';injection hr' with hr';subst hr';rw[aAO,if_pos rfl];exact jd.2 (.inr (Pa.le_refl _))
structure Bp(ws:List We)(a k:Nat)(l:List Pa):Prop where
 can:Can l
 val:∀p∈l,Val ws a k p
 dom:∀p,Val ws a k p→uU l p
structure zp(ws:List We)(n a r:Nat)(at':List (List Pa)):Prop where
 len:at'.length=n
 can:∀k,k<n→Can (at'.getD k [])
 val:∀k,k<n→∀p∈at'.getD k [],Val ws a k p
 dom:∀k,k<n→∀l p,l.length≤r→Walk ws a l k→run Pa.aAQ l=some p→uU (at'.getD k []) p
structure Bx(l m:List Pa):Prop where
 can:Can m
 sub:∀p∈m,p∈l
 dom:∀p∈l,uU m p
theorem zp.first{ws:List We}{n a:Nat}(ha:a<n):zp ws n a 0 ((Kg n []).set a [Pa.aAQ]):=by
 have aAO:∀j,((Kg n ([]:List Pa)).set a [Pa.aAQ]).getD j []=if j=a then [Pa.aAQ] else []:=fun j=>by
  rw[tY _ _ _ _ _ (by simpa using ha)];split
  ·rfl
  rw[Kb,Kj];split<;>rfl
 refine⟨Zm,fun k _=>?_,fun k _ p hp=>?_,fun k _ l p hl hw hr=>?_⟩
 ·rw[aAO];split<;>simp[Can]
 ·rw[aAO] at hp;split at hp
  ·rename_i e;simp at hp;subst e hp;exact Val.aAQ ws k
  cases hp
 have e:l=[]:=List.length_eq_zero_iff.1 or;subst e;have hw:a=k:=hw;have hr:some Pa.aAQ=some p:=hr;injection hr with hr;subst hw hr;rw[aAO,if_pos rfl];exact⟨Pa.aAQ,Zm,Pa.le_refl _⟩
theorem Bn.first{ws:List We}{n a:Nat}(ha:a<n):Bn ws n a ((Kg n []).set a [Pa.aAQ]) [a]:=by
 have aAO:∀j,((Kg n ([]:List Pa)).set a [Pa.aAQ]).getD j []=if j=a then [Pa.aAQ] else []:=fun j=>by
  rw[tY _ _ _ _ _ (by simpa using ha)];split
  ·rfl
  rw[Kb,Kj];split<;>rfl
 refine⟨Zm,fun k=>?_,fun k p hp=>?_,?_,by simpa using ha,fun k hk hn p hp=>?_⟩
 ·rw[aAO];split<;>simp[Can]
 ·rw[aAO] at hp;split at hp
  ·rename_i e;simp at hp;subst e hp;exact Val.aAQ ws k
  cases hp
 ·rw[aAO,if_pos rfl];exact⟨Pa.aAQ,Zm,Pa.le_refl _⟩
 rw[aAO,if_neg (by simpa using hn)] at hp;cases hp
section
variable{α:Type} [DecidableEq α]{lt:α→α→Bool}
structure Ord(lt:α→α→Bool):Prop where
 irr:∀x,lt x x=false
 trans:∀x y z,lt x y=true→lt y z=true→lt x z=true
 tot:∀x y,lt x y=false→lt y x=false→x=y
def csT(out:List α)(x:α):List α:=if out.getLast?=some x then out else out++[x]
def cs(l:List α):List α:=l.foldl csT []
end
end Go.Proofs.YtjfdoohogiojcaaGreatDoor
namespace Go.Proofs.YtjfdoohogiojcaaGreatDoor
open Go.RowKit
attribute [local irreducible] IntKind.wrap
def Pa.v(p:Pa):V:= .agg [.bool p.n, .int .i64 p.a]
def gY(n:Int):V:=if n=0 then .nilIface else .iface 83 (.int .i64 n)
theorem yS:gY 0= .nilIface:=rfl
theorem rF(L:Nat→Prop)(n:Int):(gY n).names L:=by unfold gY;split<;>simp[V.names]
theorem zy(n:Int):veq (.iface true) (gY n) .nilIface=some (decide (n=0)):=by
 unfold gY;split<;>simp_all [veq]
end Go.Proofs.YtjfdoohogiojcaaGreatDoor
namespace Go.Proofs.YtjfdoohogiojcaaGreatDoor
open Go.RowKit Go.Sort
attribute [local irreducible] IntKind.wrap
theorem vb{a b:Bool}(h:a=true↔b=true):V.bool a=V.bool b:=by rw[KA.2 h]
theorem x5:aF Tryz.prog 75=some (LB.aEZ 103):=Zz
theorem xp:aF Tryz.prog 103=some LB.aDA:=Zz
theorem bw(s:ByteArray)(h:Hp):aO Tryz.prog 105 [.str s] h (.bool false):=by
 refine aI (fun L=>trivial) fun h' nx hh=>aB L.aSC fun hd=>?_;simp only[jL,jM,jA,jB,jN,jO,jP,jQ,Ka];refine au ?_;refine aC h' (leo hd) ⟨?_,rfl⟩;simp
theorem qc(a b:UInt8):zC a b=-1∨zC a b=0∨zC a b=1:=by
 unfold zC qE;split
 ·simp
 split<;>simp
theorem vT:∀x y:List UInt8,dM zC x y=-1∨dM zC x y=0∨dM zC x y=1
 | [],[]=>by simp[dM]
 | [],_::_=>by simp[dM]
 |_::_,[]=>by simp[dM]
 |a::x,b::y=>by
  unfold dM orC;split
  ·exact vT x y
  exact qc a b
theorem Ar(a b:ByteArray):qd a b=if Op.bytesLess a.toList b.toList=true then-1 else if (!(Op.bytesLess a.toList b.toList||a.toList==b.toList))=true then 1 else 0:=by
 rw[eA,zI];have h1:=vT a.toList b.toList;have h2:=c3S.eq a b;unfold qd at h2⊢;by_cases e:a=b
 ·subst e;have:=h2.2 rfl;rw[this];simp
 have h3:dM zC a.toList b.toList≠0:=fun k=>e (h2.1 k);rcases h1 with h1|h1|h1
 ·rw[h1];simp
 ·exact absurd h1 h3
 rw[h1];simp[e]
theorem vd(a b:ByteArray)(h:Hp):aO Tryz.prog 77 [.str a, .str b] h (.int .i64 (qd a b)):=by
 refine aI (fun L=>trivial) fun h' nx hh=>aB L.aSj fun hd=>?_;simp only[jL,jM,jA,jB,jN,jO,jP,jQ,Ka];have C1:=fun h=>bw a h;have C2:=fun h=>bw b h;rw[Ar];cases h1:Op.bytesLess a.toList b.toList with
 |true=>
  refine aue h1 ?_;exact aC h' (leo hd) ⟨rfl,rfl⟩
 |false=>
  cases h2:a.toList==b.toList with
  |true=>
   refine aue (e4 h1 h2 KF KD) ?_;exact aC h' (leo hd) ⟨rfl,rfl⟩
  |false=>
   refine aue (e4 h1 h2 KF KD) ?_;exact aC h' (leo hd) ⟨rfl,rfl⟩
theorem Aq(a b:Vl):orI [qE a.k b.k,qE a.n b.n,qd a.s b.s]=dQ a b:=by
 simp only[orI,dQ,orC];repeat' split
 all_goals first|rfl|omega
theorem tH(a b:Vl)(h:Hp):aO Tryz.prog 46 [a.v,b.v] h (.int .i64 (dQ a b)):=by
 refine aI (fun L=>trivial) fun h' nx hh=>aB L.aTI fun hd=>?_;simp only[jL,jM,jA,jB,jN,jO,jP,jQ,Ka];have D1:=fun h=>zF x5 xp a.k b.k h;have D2:=fun h=>zF ot Af a.n b.n h;have D3:=fun h=>vd a.s b.s h;have D4:=fun h=>th tv (.tok (nx+17)) [qE a.k b.k,qE a.n b.n,qd a.s b.s] Zm h;rw[Aq] at D4;refine aue Vl.v.eq_1 ?_;exact aC h' (leo hd) ⟨rfl,rfl⟩
theorem sW(n:Int)(h:Hp):aO Tryz.prog 86 [.int .i64 n] h (.bool (iI n)):=by
 refine aI (fun L=>trivial) fun h' nx hh=>aB L.aSR fun hd=>?_;simp only[jL,jM,jA,jB,jN,jO,jP,jQ,Ka];unfold iI;by_cases h1:-2147483647≤n
 ·have h2:decide (-2147483647≤n)=true:=dct;refine aue h2 ?_;refine aC h' (leo hd) ⟨?_,rfl⟩;simp[h1]
 have h2:decide (-2147483647≤n)=false:=dcf;refine aue h2 ?_;refine aC h' (leo hd) ⟨?_,rfl⟩;simp[h1]
theorem jv(c:Nat)(h:Hp):aO Tryz.prog 111 [.int .u8 c] h (.bool (cZ c)):=by
 refine aI (fun L=>trivial) fun h' nx hh=>aB L.aR7 fun hd=>?_;simp only[jL,jM,jA,jB,jN,jO,jP,jQ,Ka];unfold cZ;by_cases h1:(97:Int)≤c
 ·have h2:decide ((97:Int)≤c)=true:=dct;refine aue h2 ?_;refine aC h' (leo hd) ⟨?_,rfl⟩;have:97≤c:=or;simp[this];omega
 have h2:decide ((97:Int)≤c)=false:=dcf;refine aue h2 ?_;refine aC h' (leo hd) ⟨?_,rfl⟩;simp;omega
theorem oi(c:Nat)(h:Hp):aO Tryz.prog 110 [.int .i32 c] h (.bool (kD c)):=by
 refine aI (fun L=>trivial) fun h' nx hh=>aB L.aR8 fun hd=>?_;simp only[jL,jM,jA,jB,jN,jO,jP,jQ,Ka];unfold kD jT;cases h1:decide ((97:Int)≤c)<;>cases h2:decide ((c:Int)≤122)<;>cases h3:decide ((48:Int)≤c)<;>cases h4:decide ((c:Int)≤57)<;>
  (refine aue (e4 h1 h2 h3 h4) ?_
   refine aC h' (leo hd) ⟨?_,rfl⟩;simp only[decide_eq_true_eq,decide_eq_false_iff_not] at h1 h2 h3 h4;refine vb ?_;simp;try omega)
theorem bz(s:ByteArray)(h:Hp):aO Tryz.prog 87 [.str s] h (.bool (gA s)):=by
 refine aI (fun L=>trivial) fun h' nx hh=>aB L.aSQ fun hd=>?_;simp only[jL,jM,jA,jB,jN,jO,jP,jQ,Ka];have C1:=fun h=>jv (byt s 0) h;have C2:=fun h=>uX kD 110 [] (fun x _=>oi x Hp.none) s h;have hb:(s.data.toList.getD 0 0).toNat=byt s 0:=rfl;have aAd:(s.toList==(⟨#[]⟩:ByteArray).toList)=decide (s.size=0):=by
  rw[eA];congr 1;rw[eq_iff_iff];exact⟨fun e=>by rw[e];rfl,fun e=>by cases s with|mk d=>simp only[ByteArray.size] at e;rw[Kc e]⟩
 rw[ij] at C2;by_cases h0:s.size=0
 ·have g0:decide (s.size=0)=true:=dct;have:gA s=false:=by unfold gA;exact decide_eq_false or
  refine aue (e2 aAd g0) ?_;exact aC h' (leo hd) ⟨by rw[this]<;>rfl,rfl⟩
 have g0:decide (s.size=0)=false:=dcf;by_cases h1:32<s.size
 ·have g1:decide ((s.size:Int)≤32)=false:=dcf;have:gA s=false:=by unfold gA;exact decide_eq_false or
  refine aue (e3 aAd g0 g1) ?_;exact aC h' (leo hd) ⟨by rw[this]<;>rfl,rfl⟩
 have g1:decide ((s.size:Int)≤32)=true:=dct;have aAi:0<s.size:=or;cases h2:cZ (byt s 0) with
 |false=>
  rw[h2] at C1;have:gA s=false:=by unfold gA;exact decide_eq_false (by simp[h2])
  refine aue (e5 aAd g0 g1 hb aAi) ?_;exact aC h' (leo hd) ⟨by rw[this]<;>rfl,rfl⟩
 |true=>
  rw[h2] at C1;have:gA s=decide (∀i,i<s.size→jT (byt s i)=true):=by
   unfold gA;congr 1;rw[eq_iff_iff];exact⟨fun k=>k.2.2.2,fun k=>⟨or,or,h2,k⟩⟩
  refine aue (e5 aAd g0 g1 hb aAi) ?_;refine aC h' (leo hd) ⟨?_,rfl⟩;rw[this];simp
theorem lF(x:Vl)(h:Hp):aO Tryz.prog 57 [x.v] h (.bool (cF x)):=by
 refine aI (fun L=>trivial) fun h' nx hh=>aB L.aS3 fun hd=>?_;simp only[jL,jM,jA,jB,jN,jO,jP,jQ,Ka];have C1:=fun h=>sW x.n h;have C2:=fun h=>bz x.s h;have aAd:(x.s.toList==(⟨#[]⟩:ByteArray).toList)=decide (x.s.size=0):=by
  rw[eA];congr 1;rw[eq_iff_iff];exact⟨fun e=>by rw[e];rfl,fun e=>by cases hs:x.s with|mk d=>rw[hs] at e;simp only[ByteArray.size] at e;rw[Kc e]⟩
 unfold cF;by_cases k1:x.k=1
 ·have g1:(x.k==1)=true:=bqt;by_cases k2:x.s.size=0
  ·have g2:decide (x.s.size=0)=true:=dct;refine aue (e4 Vl.v.eq_1 g1 aAd g2) ?_;refine aC h' (leo hd) ⟨?_,rfl⟩;simp[k1,k2]
  have g2:decide (x.s.size=0)=false:=dcf;refine aue (e4 Vl.v.eq_1 g1 aAd g2) ?_;refine aC h' (leo hd) ⟨?_,rfl⟩;simp[k1,k2]
 have g1:(x.k==1)=false:=bqf;by_cases k3:x.k=2
 ·have g3:(x.k==2)=true:=bqt;by_cases k2:x.n=0
  ·have g2:(x.n==0)=true:=bqt;refine aue (e4 Vl.v.eq_1 g1 g3 g2) ?_;refine aC h' (leo hd) ⟨?_,rfl⟩;simp[k3,k2]
  have g2:(x.n==0)=false:=bqf;refine aue (e4 Vl.v.eq_1 g1 g3 g2) ?_;refine aC h' (leo hd) ⟨?_,rfl⟩;simp[k3,k2]
 have g3:(x.k==2)=false:=bqf;refine aue (e3 Vl.v.eq_1 g1 g3) ?_;refine aC h' (leo hd) ⟨?_,rfl⟩;simp[k1,k3]
theorem g8(n:Int)(h:Hp):aO Tryz.prog 61 [.int .i64 n] h (.tup [(ofV n).1.v,gY (ofV n).2]):=by
 refine aI (fun L=>⟨Vl.aAI L _,by unfold gY;split<;>simp[V.names],trivial⟩) fun h' nx hh=>aB L.aS1 fun hd=>?_;simp only[jL,jM,jA,jB,jN,jO,jP,jQ,Ka];have C1:=fun h=>sW n h;unfold ofV;cases hb:iI n with
 |true=>
  rw[hb] at C1;refine au ?_;refine aL (by simp only[go_sem,reduceIte,jA,jB,jC,jD,reduceCtorEq,jE,jF]) h' (leo hd) ⟨?_,rfl⟩;refine Zn ?_;rfl
 |false=>
  rw[hb] at C1;refine au ?_;refine aL (by simp only[go_sem,reduceIte,jA,jB,jC,jD,reduceCtorEq,jE,jF]) h' (leo hd) ⟨?_,rfl⟩;refine Zn ?_;rfl
set_option maxHeartbeats 4000000 in
theorem qZ(s:ByteArray)(hl:s.size≤9223372036854775807)(h:Hp):aO Tryz.prog 109 [.str s] h (.bool (gA s)):=by
 refine aI (fun L=>trivial) fun h' nx hh=>aB L.aR9 fun hd=>?_;simp only[jL,jM,jA,jB,jN,jO,jP,jQ,Ka];refine au ?_
 refine aT (fun i:Nat=>aD 48 0 [(0, .str s),(3, .int .i64 i)])
  (fun i hp nx1=>i≤s.size∧hp=h'∧(∀j,j<i→jT (byt s j)=true)∧(0<i→cZ (byt s 0)=true))
  (fun i=>s.size-i) 0 ⟨Nat.zero_le _,rfl,fun j hj=>absurd hj or,fun h=>absurd h or⟩ (by simp only[WkL,aD,jH,jI,jJ,go_sem,reduceIte,jA,jB,jC,jD,reduceCtorEq,jE,jF]) ?_
 rintro i hp nx1 ⟨hi,rfl,aDc,aCv⟩;generalize hQ:bB _ _ _ _ _=Q0;simp only[aD,go_sem,reduceIte,jA,jB,jC,jD,reduceCtorEq,jE,jF];rcases KG i s.size with hlt|hge
 ·have hc:decide ((i:Int)<(s.size:Int))=true:=dct;have hw:IntKind.i64.wrap ((i:Int)+1)=((i+1:Nat):Int):=wrp;have hb:(s.data.toList.getD i 0).toNat=byt s i:=rfl;have hi0:((i:Int)==0)=decide (i=0):=by by_cases e:i=0<;>simp[e]
  obtain⟨c,hcq⟩:∃c,byt s i=c:=⟨_,rfl⟩;have bad:((cZ c=false∧(i=0∨jT c=false)))→gA s=false:=fun k=>by
   unfold gA;refine decide_eq_false fun n=>?_;rcases k with⟨k1,rfl|k2⟩
   ·rw[hcq] at n;rw[n.2.2.1] at k1;cases k1
   have:=n.2.2.2 i hlt;rw[hcq,k2] at this;cases this
  have aRa:(cZ c=true∨(i≠0∧jT c=true))→(∀j,j<i+1→jT (byt s j)=true)∧(0<i+1→cZ (byt s 0)=true):=fun k=>by
   refine⟨fun j hj=>?_,fun _=>?_⟩
   ·rcases KG j i with h|h
    ·exact aDc j h
    have:j=i:=or;subst this;rw[hcq];rcases k with k|k
    ·simp only[cZ,jT,decide_eq_true_eq] at k⊢;exact .inl k
    exact k.2
   rcases Nat.eq_zero_or_pos i with h|h
   ·subst h;rw[hcq];exact k.elim id fun k=>absurd rfl k.1
   exact aCv h
  cases h0:decide (i=0)<;>cases h1:decide ((97:Int)≤c)<;>cases h2:decide ((c:Int)≤122)<;>cases h3:decide ((48:Int)≤c)<;>cases h4:decide ((c:Int)≤57)<;>cases h5:((c:Int) != 95)<;>
   (have g:=e6 h0 h1 h2 h3 h4 h5
    simp only[decide_eq_true_eq,decide_eq_false_iff_not,bne_iff_ne,bne_eq_false_iff_eq,ne_eq] at g;try (exfalso;omega))
  all_goals refine aue (e11 hc hw hb hi0 hcq h0 h1 h2 h3 h4 (e2 h5 hlt)) ?_
  all_goals
   rw[←hQ]
   first
    |refine aH (i+1) or ⟨or,rfl,aRa (by simp only[cZ,jT,decide_eq_true_eq];omega)⟩ (by simp only[WkL,aD,jH,jI,jJ,go_sem,reduceIte,jA,jB,jC,jD,reduceCtorEq,jE,jF])
    |(refine au ?_
      exact aC hp (leo hd) ⟨by rw[bad (by simp only[cZ,jT,decide_eq_false_iff_not];omega)]<;>rfl,rfl⟩)
 have hc:decide ((i:Int)<(s.size:Int))=false:=dcf;have hi:i=s.size:=or;subst hi;refine aue hc ?_;rw[←hQ];have hn:gA s=(decide ((s.size:Int)≥1)&&decide ((s.size:Int)≤32)):=by
  rw[KA];simp only[gA,Bool.and_eq_true,decide_eq_true_eq];exact⟨fun k=>⟨or,or⟩,fun k=>⟨or,or,aCv or,aDc⟩⟩
 cases h1:decide ((s.size:Int)≥1) with
 |true=>
  have h1':decide (1≤(s.size:Int))=true:=h1;refine aue h1' ?_;refine aC hp (leo hd) ⟨?_,rfl⟩;rw[hn,h1,Kv];rfl
 |false=>
  have h1':decide (1≤(s.size:Int))=false:=h1;refine aue h1' ?_;refine aC hp (leo hd) ⟨?_,rfl⟩;rw[hn,h1];rfl
theorem kC(x:Vl)(hl:x.s.size≤9223372036854775807)(h:Hp):aO Tryz.prog 83 [x.v] h (.bool (cF x)):=by
 refine aI (fun L=>trivial) fun h' nx hh=>aB L.aSU fun hd=>?_;simp only[jL,jM,jA,jB,jN,jO,jP,jQ,Ka];have C1:=fun h=>qZ x.s hl h;unfold cF iI;cases k1:(x.k==1) with
 |true=>
  have q1:x.k=1:=by simpa using k1
  cases k2:((x.s.size:Int)==0) with
  |true=>
   have q2:x.s.size=0:=by simpa using k2
   cases k3:decide (-2147483647≤x.n) with
   |true=>
    refine aue (e4 Vl.v.eq_1 k1 k2 k3) ?_;refine aC h' (leo hd) ⟨vb ?_,rfl⟩;simp only[decide_eq_true_eq] at k3;simp[q1,q2,k3]
   |false=>
    refine aue (e4 Vl.v.eq_1 k1 k2 k3) ?_;refine aC h' (leo hd) ⟨vb ?_,rfl⟩;simp only[decide_eq_false_iff_not] at k3;simp[q1,q2];omega
  |false=>
   have q2:x.s.size≠0:=by simpa using k2
   refine aue (e3 Vl.v.eq_1 k1 k2) ?_;refine aC h' (leo hd) ⟨vb ?_,rfl⟩;simp[q1,q2]
 |false=>
  have q1:x.k≠1:=by simpa using k1
  cases k2:(x.k==2) with
  |true=>
   have q2:x.k=2:=by simpa using k2
   cases k3:(x.n==0) with
   |true=>
    have q3:x.n=0:=by simpa using k3
    refine aue (e4 Vl.v.eq_1 k1 k2 k3) ?_;refine aC h' (leo hd) ⟨vb ?_,rfl⟩;simp[q2,q3]
   |false=>
    have q3:x.n≠0:=by simpa using k3
    refine aue (e4 Vl.v.eq_1 k1 k2 k3) ?_;refine aC h' (leo hd) ⟨vb ?_,rfl⟩;simp[q2,q3]
  |false=>
   have q2:x.k≠2:=by simpa using k2
   refine aue (e3 Vl.v.eq_1 k1 k2) ?_;refine aC h' (leo hd) ⟨vb ?_,rfl⟩;simp[q1,q2]
theorem nT(a b:Vl)(h:Hp):aO Tryz.prog 85 [a.v,b.v] h (.bool (yA a b)):=by
 refine aI (fun L=>trivial) fun h' nx hh=>aB L.aSS fun hd=>?_;simp only[jL,jM,jA,jB,jN,jO,jP,jQ,Ka];unfold yA dQ orC qE;cases k1:(a.k != b.k) with
 |true=>
  have q1:a.k≠b.k:=by simpa using k1
  refine aue (ee2 Vl.v.eq_1 k1) ?_;refine aC h' (leo hd) ⟨vb ?_,rfl⟩;simp only[decide_eq_true_eq];repeat' split
  all_goals omega
 |false=>
  have q1:a.k=b.k:=by simpa using k1
  cases k2:(a.n != b.n) with
  |true=>
   have q2:a.n≠b.n:=by simpa using k2
   refine aue (e3 Vl.v.eq_1 k1 k2) ?_;refine aC h' (leo hd) ⟨vb ?_,rfl⟩;simp only[decide_eq_true_eq];repeat' split
   all_goals omega
  |false=>
   have q2:a.n=b.n:=by simpa using k2
   refine aue (e3 Vl.v.eq_1 k1 k2) ?_;refine aC h' (leo hd) ⟨vb ?_,rfl⟩;simp only[zI,decide_eq_true_eq,q1,q2,Int.lt_irrefl,if_false,if_true];exact Iff.rfl
theorem bt(n:Int)(h:Hp):aO Tryz.prog 13 [gY n] h (.int .i64 n):=by
 refine aI (fun L=>trivial) fun h' nx hh=>aB L.aTv fun hd=>?_;simp only[jL,jM,jA,jB,jN,jO,jP,jQ,Ka];by_cases hn:n=0
 ·subst hn;refine aue yS ?_;exact aC h' (leo hd) ⟨rfl,rfl⟩
 have e:gY n= .iface 83 (.int .i64 n):=by unfold gY;rw[if_neg hn]
 have e2:(n != 0)=true:=by simpa using hn
 refine aue (ee2 e e2) ?_;exact aC h' (leo hd) ⟨rfl,rfl⟩
end Go.Proofs.YtjfdoohogiojcaaGreatDoor
