/-
Texts of this proof,one behind the other. No conditions.
-/
import Derived.Test.YtlhedpgobaellaaGreatDoorChecked
import Derived.Test.YtlhedpgobaellaaGreatDoorKdb
import Derived.Shelf.GgClosure.GivesRunes
import Derived.Shelf.GgClosure.StringsIndexFuncTop
import Derived.Below
import Derived.Shelf.RegionOpenPlain
import Derived.Deep.RegionLaw
import Derived.Lib.Walk
import Derived.Sort.WalkB12
import Derived.Test.YtlhedpgobaellaaGreatDoorKLow
import Derived.Lib.Bytealg
import Derived.Shelf.SlSortCmp.Whole1
import Derived.Shelf.Strconv.AtoiAll
import Derived.Shelf.Strconv.Itoa3
import Derived.Lib.BufferWrite
import Derived.Lib.UnsafeStr
import Derived.Lib.AppendIntMem
open Go.Proofs.YtlhedpgobaellaaGreatDoor.V renaming undef→Ka,names→Km
open List renaming getD_eq_getElem?_getD→Kb,replicate_succ→Kc,replicate_zero→Kd,length_cons→Ke,cons_append→Kf,nil_append→Kg,length_nil→Kj,mem_append→Kq,take_append_of_le_length→Kv,replicate→Kw,getElem?_set_ne→Kx,mem_filter→Kz,mem_singleton→KA,filter_append→KB,getElem?_replicate→KC,take_succ_eq_append_getElem→KE,filter_cons→KF,contains_eq_mem→KI,getElem?_eq_some_iff→KN,getElem?_map→KO,mem_take_iff_getElem→KP,getElem?_eq_getElem→KQ,take_length→KS,getElem_mem→KT,range→KU,take_of_length_le→KW,mem_of_mem_take→Qc,append_nil→Qp,length_set→Qu,take_zero→Qx
open Nat renaming reduceAdd→Kh,reduceSub→Ki,le_refl→Kk,zero_le→Ko,lt_or_ge→Ku,reduceLeDiff→KG,reduceEqDiff→KH,reduceLT→KV,le_trans→Qf,zero_add→Qg,le_succ_of_le→Qi,lt_succ_of_lt→Qj,le_succ→Ql,lt_succ_self→Qo,lt_irrefl→QB,add_mul→QF
open Array renaming eq_empty_of_size_eq_zero→Kp,getElem?_eq_getElem→Ky,length_toList→KL,getD_eq_getD_getElem?→KM,getElem?_eq_none→KX,ext→Qh,getD→Qw
open Bool renaming false_eq_true→Ks,eq_iff_iff→KJ,not_false→KZ,and_false→Qa,true_and→Qd,and_eq_true→Qk,false_and→Qy,and_self→Qz,or_false→QA,or_true→QD
open Go.IntKind renaming wrap→Kt
open Int renaming toNat_natCast→KD,reduceToNat→KK,natCast_zero→Qm,natCast_add→Qr,natCast_one→Qt
open Option renaming getD_some→KR,isSome_none→Qe,map_some→Qq
open Go.World renaming shape?→KY,cell?→Qb,freeze→Qv
open Go.Instr renaming next→QC
open Go renaming undef→QE
open Nat renaming reduceAdd→jA,reduceSub→jB,reduceLT→jC,reduceLeDiff→jD,reduceEqDiff→jE
open Int renaming reduceToNat→jF,toNat_natCast→jG,natCast_add→jH,natCast_one→jI,natCast_zero→jJ
set_option linter.all false
set_option maxHeartbeats 8000000
namespace Go.Proofs.YtlhedpgobaellaaGreatDoor
open Go.RowKit Go.Shelf Go.Lib Go.Sort
def dU(w w':World):Prop:=Below w.heap.size w w'∧w.drawn≤w'.drawn
theorem dU.refl(w:World):dU w w:=⟨Below.refl _ w,Kk _⟩
theorem dU.trans{a b c:World}(h:dU a b)(k:dU b c):dU a c:=⟨h.1.trans (k.1.mono h.1.size),Qf h.2 k.2⟩
set_option maxRecDepth 1000000 in
theorem bp(g:Nat)(lb:Array Value)(eg:∀args w,(callFunc g args).run Tryz.prog w= .ok (.enter g args) w)(p:Nat→Bool)(s:ByteArray)(w:World)
 (hp:∀(W:World) (x:Nat),x≤1114111→dU w W→Calls Tryz.prog g (#[.int .i32 x]++lb) W fun e w'=>e= .returned (.bool (p x))∧dU W w'):
 Calls Tryz.prog 262 #[.string s, .func (.func g) #[] lb, .bool true] w fun e w'=>e= .returned (.int .i64 (Lib.idxFunc p true s))∧dU w w':=by
 have mixed:Tryz.prog.follows .mixedOrders=true:=Zz
 go_enter Tryz.func262,Tryz.ntmps262
 go_wp2
 go_loopg [] s.size (fun gf wx=>∃pos:Nat,wx.heap[w.heap.size]?=some (.stringIter s pos)∧dU w wx∧Lib.idxFuncFrom p true s gf pos=Lib.idxFunc p true s∧s.size≤pos+gf)
 case atStart=>exact⟨0,World.iter_heap w s 0,⟨(Below.refl _ w).alloc (Kk _) _,Kk _⟩,rfl,or⟩
 case round=>
  obtain⟨pos,hit,hbw,hleft,hfu⟩:=hrel;by_cases hps:pos<s.size
  ·obtain⟨g',rfl⟩:∃g',gk=g'+1:=⟨gk-1,or⟩;have hnx:∀ty,(QC (.pointer (some ⟨w.heap.size,0,none⟩)) true ty).run Tryz.prog wr=_:=fun ty=>Lib.run_next_any_at wr w.heap.size s pos ty hit hps;have hwd:=Lib.width_pos s pos;obtain⟨R,hR⟩:∃R,(Utf8.decode s pos).1=R:=⟨_,rfl⟩;obtain⟨K,hK⟩:∃K,(Utf8.decode s pos).2=K:=⟨_,rfl⟩;simp only[Lib.idxFuncFrom,hps,if_true,hR,hK] at hleft;rw[hR,hK] at hnx;rw[hK] at hwd;have hit2:=Lib.iterAt_heap wr w.heap.size s pos (pos+K) hit;have hbw2:dU w (wr.iterAt w.heap.size s (pos+K)):=⟨Lib.below_iterAt hbw.1 (k:=w.heap.size) (Kk _) s (pos+K),hbw.2⟩;obtain⟨W,hWd⟩:∃W,wr.iterAt w.heap.size s (pos+K)=W:=⟨_,rfl⟩;rw[hWd] at hnx hit2 hbw2;have hltW:w.heap.size<W.heap.size:=(Array.getElem?_eq_some_iff.1 hit2).1;have cS:Calls Tryz.prog g (#[.int .i32 (R:Int)]++lb) W _:=hp W R (by rw[←hR];exact Lib.rune_le s pos) hbw2;clear hp;cases hsp:p R<;>rw[hsp] at cS<;>simp only[hsp,if_true,Ks,if_false] at hleft
   ·go_wp2_with (go_at_fn g;refine cS.mono ?_;rintro e W' ⟨rfl,hbc⟩)
    go_roundg g'
    case measure=>omega
    case rel=>exact⟨pos+K,(hbc.1.block _ hltW).trans hit2,hbw2.trans hbc,hleft,or⟩
   go_wp2_with (go_at_fn g;refine cS.mono ?_;rintro e W' ⟨rfl,hbc⟩)
   go_ret
   exact⟨by rw[←hleft]<;>rfl,hbw2.trans hbc⟩
  have hnx:∀ty,(QC (.pointer (some ⟨w.heap.size,0,none⟩)) true ty).run Tryz.prog wr=_:=fun ty=>Lib.run_next_end_at wr w.heap.size s pos ty hit hps;rw[Lib.idxFuncFrom_end p true s gk pos hps] at hleft
  go_wp2
  go_ret
  exact⟨by rw[←hleft]<;>rfl,hbw⟩
theorem vG(g:Nat)(lb:Array Value)(eg:∀args w,(callFunc g args).run Tryz.prog w= .ok (.enter g args) w)(p:Nat→Bool)(s:ByteArray)(w:World)
 (hp:∀(W:World) (x:Nat),x≤1114111→dU w W→Calls Tryz.prog g (#[.int .i32 x]++lb) W fun e w'=>e= .returned (.bool (p x))∧dU W w'):
 Calls Tryz.prog 207 #[.string s, .func (.func g) #[] lb] w fun e w'=>e= .returned (.bool (decide (0≤Lib.idxFunc p true s)))∧dU w w':=by
 have mixed:Tryz.prog.follows .mixedOrders=true:=Zz;have cI:=bp g lb eg p s w hp;have e1:∀args w,(callFunc 262 args).run Tryz.prog w= .ok (.enter 262 args) w:=enters_of Tryz.func262 Zz rfl;have cJ:Calls Tryz.prog 247 #[.string s, .func (.func g) #[] lb] w fun e w'=>e= .returned (.int .i64 (Lib.idxFunc p true s))∧dU w w':=by
  go_enter Tryz.func247,Tryz.ntmps247
  go_wp2_with (go_at_fn 262;refine cI.mono ?_;rintro e w' ⟨rfl,hb⟩)
  go_ret
  exact⟨rfl,hb⟩
 have e2:∀args w,(callFunc 247 args).run Tryz.prog w= .ok (.enter 247 args) w:=enters_of Tryz.func247 Zz rfl;clear cI e1;obtain⟨I,hI⟩:∃I,Lib.idxFunc p true s=I:=⟨_,rfl⟩;rw[hI] at cJ⊢
 go_enter Tryz.func207,Tryz.ntmps207
 go_wp2_with (go_at_fn 247;refine cJ.mono ?_;rintro e w' ⟨rfl,hb⟩)
 go_ret
 exact⟨rfl,hb⟩
theorem pP{K:Ker}{W:World}(hb:dU K.w W):K.le {K with w:=W} where
 live _ hn:=hn
 mu _ _:=rfl
 tp _ _:=rfl
 fro:=rfl
 imm _ _:=Kk _
 cell b o hb' _:=fY (hb.1.block b hb')
 shape b hb':=jS (hb.1.block b hb')
 below:=⟨hb.1.os,hb.1.tape,hb.1.output,hb.2,hb.1.size,fun b hb' _=>hb.1.block b hb'⟩
theorem Rel.later{K:Ker}{h:Hp}(hr:Rel K h){W:World}(hb:dU K.w W):Rel {K with w:=W} h:=
 ⟨hr.lt,hr.base,fun n b e=>(hr.blk n b e).mono (pP hb) (hr.lt n b e) (hb.1.block _ (hr.blk n b e).lt_size) rfl,hr.inj,hr.size.keep (pP hb)⟩
theorem wP(p:Nat→Bool)(g:Nat)(caps:List V)(hp:∀x:Nat,x≤1114111→aL Tryz.prog g ([.int .i32 x]++caps) Hp.none (.bool (p x)))(s:ByteArray)(h:Hp):aL Tryz.prog 207 [.str s, .fn (.func g) [] caps] h (.bool (decide (0≤Lib.idxFunc p true s))):=by
 refine aI (fun L=>trivial) fun h' nx hh=>⟨Zz,fun K cargs hlv hr hv=>?_⟩;obtain⟨hsz,hv⟩:=hv;have hsz:cargs.size=2:=by simpa using hsz.symm
 obtain⟨c1,c2,rfl⟩:∃c1 c2,cargs=#[c1,c2]:=⟨cargs[0],cargs[1],by
  apply Qh
  ·simp[hsz]
  intro i h1 h2;have:i=0∨i=1:=by simp at h2;omega
  rcases this with rfl|rfl<;>rfl⟩
 have v1:VR K (.str s) c1:=hv 0 Zm;have v2:VR K (.fn (.func g) [] caps) c2:=hv 1 Zm;cases v1;cases v2 with
 |fn _ _ _ cfirst ccap q1 q2 w1 w2=>
  have hcf:cfirst=#[]:=by
   have:cfirst.size=0:=by simpa using q1.symm
   exact Kp this
  subst hcf;have hen:=(hp 0 or Hp.none 0 (aH _)).1;refine(vG g ccap (fun args w=>iF hen args w) p s K.w fun W x hx hb=>?_).mono ?_
  ·have hle:=pP hb
   have c:=(hp x hx Hp.none nx (aH _)).2 {K with w:=W,fro:=fun b=>b<W.heap.size} (#[.int .i32 x]++ccap) hlv ⟨(fun n b e=>by cases e),(fun n b e=>by cases e),(fun n b e=>by cases e),(fun n n' b b' e=>by cases e),((hr.size.keep hle).all)⟩
    ((show VRs _ [.int .i32 x] #[.int .i32 x] from⟨rfl,fun i hi=>by
      have:i=0:=by simpa using hi
      subst this;exact .int _ _⟩).append ⟨q2,fun i hi=>VR.refro (K:={K with w:=W}) (fun b hb'=>Nat.lt_of_lt_of_le (hr.size.lt b hb') hb.1.size) ((w2 i hi).mono hle)⟩)
   refine c.mono ?_;rintro e' w' ⟨K',v,cv,h',nx',rfl,rfl,a1,a2,a3,a4,a5,rfl,rfl,rfl⟩;cases a2;obtain⟨k1,k2,k3,k4,k5,k6⟩:=a1.below;exact⟨rfl,⟨k1,k2,k3,k5,fun b hb=>k6 b hb (.inl hb)⟩,k4⟩
  rintro e w' ⟨rfl,hb⟩;exact⟨{K with w:=w'},_,_,h',nx,rfl,rfl,pP hb, .bool _,hr.later hb,fun m hm=>⟨hlv m hm, .inl hm⟩,Kk _,rfl,rfl⟩
end Go.Proofs.YtlhedpgobaellaaGreatDoor
namespace Go.Proofs.YtlhedpgobaellaaGreatDoor
open Go.RowKit
theorem u6:aE Tryz.prog 157=some (LB.aDh 214):=Zz
theorem DU:aE Tryz.prog 214=some LB.aCW:=Zz
theorem Az:aE Tryz.prog 155=some LB.aOE:=Zz
end Go.Proofs.YtlhedpgobaellaaGreatDoor
namespace Go.Proofs.YtlhedpgobaellaaGreatDoor
open Go.RowKit
attribute [local go_sem] pI iI aA.ok aA.next LOp.ok LOp.next aW.ok aW.out aK.ev bI sr nJ lM wB V.fits V.aAE V.cells V.cell Ka cB bE bR Sh.size Hp.set Hp.del oO kG wN gL aA.dok aA.aCr LOp.dok LOp.aD5 rq r8 pY dR yO Hp.aBX veq gF gG List.take_succ_cons Qx List.take_nil List.drop_succ_cons List.drop_zero List.drop_nil List.set_cons_succ List.set_cons_zero List.getD_cons_succ List.getD_cons_zero Ke Kj List.map_cons List.map_nil List.all_cons List.all_nil List.mem_cons List.not_mem_nil Kc Kd Kf Kg Qp List.isEmpty_cons List.isEmpty_nil eF fL qC KR Option.isSome_some Qe Nat.add_eq Qg Nat.add_zero true_and and_true and_self true_implies implies_true false_implies forall_const forall_eq forall_eq_or_imp ne_eq not_false_eq_true not_true_eq_false Bool.not_true KZ decide_true decide_false Bool.and_true Qd Qa Qy true_or or_true false_or or_false eq_self Ks E0 BP iC aD cN dK gI vE qW vD jV mB dB KD Int.toNat_zero KS
structure Tm where
 e:Int
 r:Int
 deriving DecidableEq,Inhabited
def Tm.v(t:Tm):V:= .agg [.int .i64 t.e, .int .i64 t.r]
def Tm.le(a b:Tm):Bool:=decide (a.e≤b.e)&&decide (a.r≤b.r)
def Tm.ok(t:Tm):Bool:=decide (0≤t.e)&&decide (t.e≤1048576)&&(decide (0≤t.r)&&decide (t.r≤1048576))
end Go.Proofs.YtlhedpgobaellaaGreatDoor
namespace Go.Proofs.YtlhedpgobaellaaGreatDoor
inductive nA{α:Type}(E:α→α→Prop):α→α→Prop where
 |one {a b:α}:E a b→nA E a b
 |cons {a b c:α}:E a b→nA E b c→nA E a c
namespace nA
variable{α:Type}{E F:α→α→Prop}
theorem trans{a b c:α}(h:nA E a b)(k:nA E b c):nA E a c:=by
 induction h with
 |one e=>exact .cons e k
 |cons e _ ih=>exact .cons e (ih k)
theorem snoc{a b c:α}(h:nA E a b)(e:E b c):nA E a c:=h.trans (.one e)
theorem mono(hs:∀a b,E a b→F a b){a b:α}(h:nA E a b):nA F a b:=by
 induction h with
 |one e=>exact .one (hs _ _ e)
 |cons e _ ih=>exact .cons (hs _ _ e) ih
theorem last{a b:α}(h:nA E a b):∃c,E c b∧(c=a∨nA E a c):=by
 induction h with
 |one e=>exact⟨_,e, .inl rfl⟩
 |cons e k ih=>
  obtain⟨c,hc,hh⟩:=ih;rcases hh with rfl|hh
  ·exact⟨_,hc, .inr (.one e)⟩
  exact⟨c,hc, .inr (.cons e hh)⟩
theorem closed{S:α→Prop}(hS:∀a b,S a→E a b→S b){a b:α}(h:nA E a b)(ha:S a):S b:=by
 induction h with
 |one e=>exact hS _ _ ha e
 |cons e _ ih=>exact ih (hS _ _ ha e)
end nA
structure EB(n:Nat)(E:List (Nat×Nat))(i:Nat)(cO:List Int)(row:List Nat):Prop where
 len:cO.length=n
 nd:row.Nodup
 lt:∀x∈row,x<n
 cnt:∀j,j<n→cO.getD j 0=((E.filter fun e=>decide (e.2=j)&& !((row.take i).contains e.1)).length:Int)
 iff:∀j,j<n→(j∈row↔cO.getD j 0=0)
 back:∀m (h:m<row.length),∀y,(y,row[m])∈E→y∈row.take m
structure KIn(n:Nat)(E D R:List (Nat×Nat))(i k:Nat)(cO:List Int)(row:List Nat):Prop where
 eq:E=D++R
 hk:row[i]?=some k
 len:cO.length=n
 nd:row.Nodup
 lt:∀x∈row,x<n
 cnt:∀j,j<n→cO.getD j 0+((D.filter fun e=>decide (e.2=j)&&decide (e.1=k)).length:Int)=((E.filter fun e=>decide (e.2=j)&& !((row.take i).contains e.1)).length:Int)
 iff:∀j,j<n→(j∈row↔cO.getD j 0=0)
 back:∀m (h:m<row.length),∀y,(y,row[m])∈E→y∈row.take m
theorem EB.start{n:Nat}{E:List (Nat×Nat)}{i k:Nat}{cO:List Int}{row:List Nat}(K:EB n E i cO row)(hk:row[i]?=some k):KIn n E [] E i k cO row:=
 ⟨rfl,hk,K.len,K.nd,K.lt,fun j hj=>by simpa using K.cnt j hj,K.iff,K.back⟩
theorem ut{row:List Nat}{i k:Nat}(hn:row.Nodup)(hk:row[i]?=some k):k∉row.take i:=by
 intro h;obtain⟨m,hm,e⟩:=List.getElem_of_mem h;obtain⟨hi,e2⟩:=KN.1 hk;have hm':m<i∧m<row.length:=by simp at hm;omega
 rw[List.getElem_take] at e;have hp:=List.pairwise_iff_getElem.1 hn m i hm'.2 hi hm'.1;exact hp (e.trans e2.symm)
theorem CD(l:List Int)(i j:Nat)(v:Int)(h:i<l.length):(l.set i v).getD j 0=if j=i then v else l.getD j 0:=by
 rw[Kb,Kb];by_cases e:j=i
 ·subst e;simp[h]
 rw[Kx or];simp[e]
theorem KIn.one{n:Nat}{E D R:List (Nat×Nat)}{i k x:Nat}{cO:List Int}{row:List Nat}(K:KIn n E D ((k,x)::R) i k cO row)(hx:x<n):
 1≤cO.getD x 0∧KIn n E (D++[(k,x)]) R i k (cO.set x (cO.getD x 0-1)) (if cO.getD x 0-1=0 then row++[x] else row):=by
 obtain⟨hi,hik⟩:=KN.1 K.hk;have hnk:=ut K.nd K.hk;have hcx:=K.cnt x hx
 --ways to x from k are among those that count
 have sub:∀l:List (Nat×Nat),((l.filter fun e=>decide (e.2=x)&&decide (e.1=k)).length:Int)≤((l.filter fun e=>decide (e.2=x)&& !((row.take i).contains e.1)).length:Int):=by
  intro l;induction l with
  |nil=>simp
  |cons e l ih=>
   simp only[KF,KI,Kq,KA] at ih⊢;by_cases h1:e.2=x
   ·by_cases h2:e.1=k
    ·simp only[h1,h2,hnk,KI,decide_true,decide_false,KZ,Qz,if_true,Ke];omega
    simp only[h1,h2,decide_true,decide_false,Qa,Ks,if_false,Qd];split<;>(try simp only[Ke])<;>omega
   simp only[h1,decide_false,Qy,Ks,if_false];exact ih
 have s1:=sub E;have s2:((E.filter fun e=>decide (e.2=x)&&decide (e.1=k)).length:Int)=((D.filter fun e=>decide (e.2=x)&&decide (e.1=k)).length:Int)+1+((R.filter fun e=>decide (e.2=x)&&decide (e.1=k)).length:Int):=by
  rw[K.eq,KB,KF];simp;omega
 have hge:1≤cO.getD x 0:=or;refine⟨hge,?_⟩;have hxr:x∉row:=fun h=>by have:=(K.iff x hx).1 h;omega
 have aAP:∀j,(cO.set x (cO.getD x 0-1)).getD j 0=if j=x then cO.getD x 0-1 else cO.getD j 0:=fun j=>CD _ _ _ _ (by rw[K.len];exact hx)
 have aGw:∀aOU:List Nat,aOU.take i=row.take i→∀j,j<n→(cO.set x (cO.getD x 0-1)).getD j 0+(((D++[(k,x)]).filter fun e=>decide (e.2=j)&&decide (e.1=k)).length:Int)=((E.filter fun e=>decide (e.2=j)&& !((aOU.take i).contains e.1)).length:Int):=by
  intro aOU hr j hj;rw[hr,aAP,←K.cnt j hj,KB];by_cases e:j=x
  ·subst e;simp;omega
  have e':¬x=j:=fun h=>e h.symm;simp[e,e']
 split
 ·rename_i h0;have htk:(row++[x]).take i=row.take i:=by rw[Kv or]
  refine⟨by rw[K.eq];simp,by rw[List.getElem?_append_left hi];exact K.hk,by simp[K.len],?_,?_,aGw _ htk,?_,?_⟩
  ·exact List.nodup_append.2 ⟨K.nd,Zm,fun a ha b hb=>by
    rintro rfl;simp at hb;subst hb;exact hxr ha⟩
  ·intro y hy;rcases Kq.1 hy with h|h
   ·exact K.lt y h
   simp at h;omega
  ·intro j hj;rw[aAP,Kq,KA];by_cases e:j=x
   ·simp only[e,or_true,if_true,true_iff];exact h0
   simp only[e,or_false,if_false];exact K.iff j hj
  intro m hm y hy;by_cases hml:m<row.length
  ·rw[List.getElem_append_left hml] at hy;rw[Kv or];exact K.back m hml y hy
  have hme:m=row.length:=by simp at hm;omega
  subst hme;have hyx:(y,x)∈E:=by simpa using hy
  rw[Kv or,KS]
  --all ways to x that count come from k
  refine Classical.byContradiction fun hny=>?_;have hyk:y≠k:=fun e=>hny (by rw[e,←hik];exact KT hi);have hyt:y∉row.take i:=fun h=>hny (Qc h);have strict:∀l:List (Nat×Nat),(y,x)∈l→((l.filter fun e=>decide (e.2=x)&&decide (e.1=k)).length:Int)+1≤((l.filter fun e=>decide (e.2=x)&& !((row.take i).contains e.1)).length:Int):=by
   intro l hl;obtain⟨a,b,hab⟩:=List.append_of_mem hl;subst hab;have aUl:∀l:List (Nat×Nat),((l.filter fun e=>decide (e.2=x)&&decide (e.1=k)).length:Int)≤((l.filter fun e=>decide (e.2=x)&& !((row.take i).contains e.1)).length:Int):=sub;have ha:=aUl a;have hb:=aUl b;rw[KB,KB,KF,KF];simp only[hyk,hyt,KI,decide_true,decide_false,KZ,Qz,Qa,Ks,if_false,if_true,List.length_append,Ke] at ha hb⊢;omega
  have:=strict E hyx;omega
 rename_i h0;refine⟨by rw[K.eq];simp,K.hk,by simp[K.len],K.nd,K.lt,aGw _ rfl,?_,K.back⟩;intro j hj;rw[aAP];by_cases e:j=x
 ·simp only[e,if_true,hxr,false_iff];exact h0
 simp only[e,if_false];exact K.iff j hj
theorem EB.first{n:Nat}{E:List (Nat×Nat)}{cO:List Int}(hl:cO.length=n)(hc:∀j,j<n→cO.getD j 0=((E.filter fun e=>decide (e.2=j)).length:Int)):
 EB n E 0 cO ((KU n).filter fun j=>decide (cO.getD j 0=0)):=by
 refine⟨hl,List.nodup_range.filter _,fun x hx=>by simpa using(Kz.1 hx).1,fun j hj=>by simpa using hc j hj,fun j hj=>by simp[hj],?_⟩;intro m hm y hy;exfalso;have aAo:((KU n).filter fun j=>decide (cO.getD j 0=0))[m]∈(KU n).filter fun j=>decide (cO.getD j 0=0):=KT hm;generalize ((KU n).filter fun j=>decide (cO.getD j 0=0))[m]=z at aAo hy;obtain⟨h1,h2⟩:=Kz.1 aAo;have h1':z<n:=by simpa using h1
 have h2':cO.getD z 0=0:=by simpa using h2
 rw[hc z h1'] at h2';have hne:(E.filter fun e=>decide (e.2=z))≠ []:=List.ne_nil_of_mem (Kz.2 ⟨hy,Zm⟩);have:=List.length_pos_iff.2 hne;omega
def Via(E:Nat→Nat→Prop):Nat→Nat→Nat→Prop
 |0,i,j=>E i j
 |k+1,i,j=>Via E k i j∨(Via E k i k∧Via E k k j)
theorem Via.up{E:Nat→Nat→Prop}:∀{k:Nat} {i j:Nat},E i j→Via E k i j
 |0,_,_,h=>h
 |_+1,_,_,h=> .inl (Via.up h)
theorem Via.sound{E:Nat→Nat→Prop}:∀(k:Nat) {i j:Nat},Via E k i j→nA E i j
 |0,_,_,h=> .one h
 |k+1,_,_,h=>by
  rcases h with h|⟨h1,h2⟩
  ·exact Via.sound k h
  exact(Via.sound k h1).trans (Via.sound k h2)
theorem Via.join{E:Nat→Nat→Prop}:∀(k:Nat) {i l j:Nat},l<k→Via E k i l→Via E k l j→Via E k i j
 |0,_,_,_,hl,_,_=>or
 |k+1,i,l,j,hl,h1,h2=>by
  by_cases e:l=k
  ·subst e;have a:Via E l i l:=by rcases h1 with h|⟨h,_⟩<;>exact h
   have b:Via E l l j:=by rcases h2 with h|⟨_,h⟩<;>exact h
   exact .inr ⟨a,b⟩
  have hl':l<k:=or;rcases h1 with h1|⟨h1,h1'⟩<;>rcases h2 with h2|⟨h2,h2'⟩
  ·exact .inl (Via.join k hl' h1 h2)
  ·exact .inr ⟨Via.join k hl' h1 h2,h2'⟩
  ·exact .inr ⟨h1,Via.join k hl' h1' h2⟩
  exact .inr ⟨h1,h2'⟩
theorem Via.iff{E:Nat→Nat→Prop}{n:Nat}(hE:∀i j,E i j→i<n∧j<n)(i j:Nat):Via E n i j↔nA E i j:=by
 constructor
 ·exact Via.sound n
 intro h;induction h with
 |one e=>exact Via.up e
 |cons e _ ih=>exact Via.join n (hE _ _ e).2 (Via.up e) ih
structure Bfs(n:Nat)(E:Nat→Nat→Prop)(a b:Nat)(seen:List Bool)(todo:List Nat):Prop where
 len:seen.length=n
 lt:∀x∈todo,x<n
 aOD:∀x,(x∈todo∨seen.getD x false=true)→x=a∨nA E a x
 start:a∈todo∨(a≠b∧∀y,E a y→seen.getD y false=true)
 on:∀x,seen.getD x false=true→x∈todo∨(x≠b∧∀y,E x y→seen.getD y false=true)
structure Dv(n:Nat)(E:Nat→Nat→Prop)(a b k:Nat)(D:Nat→Prop)(seen:List Bool)(todo:List Nat):Prop where
 len:seen.length=n
 lt:∀x∈todo,x<n
 kf:k=a∨nA E a k
 kb:k≠b
 got:∀y,D y→seen.getD y false=true
 aOD:∀x,(x∈todo∨seen.getD x false=true)→x=a∨nA E a x
 start:a=k∨a∈todo∨(a≠b∧∀y,E a y→seen.getD y false=true)
 on:∀x,seen.getD x false=true→x=k∨x∈todo∨(x≠b∧∀y,E x y→seen.getD y false=true)
theorem AS(l:List Bool)(i j:Nat)(v:Bool)(h:i<l.length):(l.set i v).getD j false=if j=i then v else l.getD j false:=by
 rw[Kb,Kb];by_cases e:j=i
 ·subst e;simp[h]
 rw[Kx or];simp[e]
theorem Bfs.first{n:Nat}{E:Nat→Nat→Prop}{a b:Nat}(ha:a<n):Bfs n E a b (Kw n false) [a]:=by
 have hf:∀x,(Kw n false).getD x false=false:=fun x=>by
  rw[Kb,KC];split<;>rfl
 refine⟨Zm,by simpa using ha,fun x hx=>?_, .inl Zm,fun x hx=>by rw[hf x] at hx;cases hx⟩;rcases hx with hx|hx
 ·exact .inl (by simpa using hx)
 rw[hf x] at hx;cases hx
theorem Dv.one{n:Nat}{E:Nat→Nat→Prop}{a b k x:Nat}{D:Nat→Prop}{seen:List Bool}{todo:List Nat}(B:Dv n E a b k D seen todo)(hx:x<n)(he:E k x):Dv n E a b k (fun y=>D y∨y=x) (seen.set x true) (todo++[x]):=by
 have aAP:∀j,(seen.set x true).getD j false=if j=x then true else seen.getD j false:=fun j=>AS _ _ _ _ (by rw[B.len];exact hx)
 have up:∀y,seen.getD y false=true→(seen.set x true).getD y false=true:=fun y hy=>by rw[aAP];split<;>simp_all
 have hfx:x=a∨nA E a x:=by
  rcases B.kf with h|h
  ·rw[←h];exact .inr (.one he)
  exact .inr (h.snoc he)
 refine⟨by simp[B.len],?_,B.kf,B.kb,?_,?_,?_,?_⟩
 ·intro y hy;rcases Kq.1 hy with h|h
  ·exact B.lt y h
  simp at h;omega
 ·rintro y (hy|rfl)
  ·exact up y (B.got y hy)
  rw[aAP,if_pos rfl]
 ·intro y hy;by_cases e:y=x
  ·rw[e];exact hfx
  rw[aAP,if_neg e] at hy;refine B.aOD y (hy.imp (fun h=>?_) id);rcases Kq.1 h with h|h
  ·exact h
  exact absurd (by simpa using h) e
 ·rcases B.start with h|h|⟨h1,h2⟩
  ·exact .inl h
  ·exact .inr (.inl (by simp[h]))
  exact .inr (.inr ⟨h1,fun y hy=>up y (h2 y hy)⟩)
 intro y hy;by_cases e:y=x
 ·exact .inr (.inl (by simp[e]))
 rw[aAP,if_neg e] at hy;rcases B.on y hy with h|h|⟨h1,h2⟩
 ·exact .inl h
 ·exact .inr (.inl (by simp[h]))
 exact .inr (.inr ⟨h1,fun z hz=>up z (h2 z hz)⟩)
structure Pa where
 n:Bool
 a:Int
 deriving DecidableEq,Inhabited
def Pa.ok(p:Pa):Bool:=decide (0≤p.a)&&decide (p.a≤1048576)
def Pa.le(p q:Pa):Bool:=(p.n|| !q.n)&&decide (p.a≤q.a)
def Pa.thn(p q:Pa):Option Pa:=
 if (!p.ok|| !q.ok)=true then none
 else if q.n=true then some q
 else if Pa.ok ⟨p.n,p.a+q.a⟩=false then none else some ⟨p.n,p.a+q.a⟩
theorem Pa.le_refl(p:Pa):p.le p=true:=by cases p with|mk n a=>cases n<;>simp[Pa.le]
theorem Pa.le_trans{p q r:Pa}(h:p.le q=true)(k:q.le r=true):p.le r=true:=by
 obtain⟨a,x⟩:=p;obtain⟨b,y⟩:=q;obtain⟨c,z⟩:=r;cases a<;>cases b<;>cases c<;>simp[Pa.le] at*<;>omega
theorem Pa.aGU{p q r:Pa}(h:p.thn q=some r):r.ok=true∧q.ok=true∧p.ok=true:=by
 unfold Pa.thn at h;split at h
 ·cases h
 rename_i h0;simp only[Bool.or_eq_true,Bool.not_eq_true',not_or,Bool.not_eq_false] at h0;split at h
 ·injection h with h;subst h;exact⟨h0.2,h0.2,h0.1⟩
 split at h
 ·cases h
 rename_i h1;injection h with h;subst h;exact⟨by simpa using h1,h0.2,h0.1⟩
structure We where
 f:Nat
 t:Nat
 p:Pa
 deriving DecidableEq,Inhabited
def Walk(ws:List We):Nat→List We→Nat→Prop
 |a,[],k=>a=k
 |a,w::l,k=>w∈ws∧w.f=a∧Walk ws w.t l k
def run:Pa→List We→Option Pa
 |p,[]=>some p
 |p,w::l=>(p.thn w.p).bind fun q=>run q l
def Pa.aAS:Pa:=⟨false,0⟩
def Val(ws:List We)(a k:Nat)(p:Pa):Prop:=∃l,Walk ws a l k∧run Pa.aAS l=some p
theorem Walk.append{ws:List We}:∀{l m:List We} {a b c:Nat},Walk ws a l b→Walk ws b m c→Walk ws a (l++m) c
 | [],_,_,_,_,h,k=>by have h:_=_:=h;subst h;exact k
 |w::l,_,_,_,_,⟨h1,h2,h3⟩,k=>⟨h1,h2,Walk.append h3 k⟩
theorem zN:∀(l m:List We) (p:Pa),run p (l++m)=(run p l).bind fun q=>run q m
 | [],m,p=>rfl
 |w::l,m,p=>by
  show((p.thn w.p).bind fun q=>run q (l++m))=((p.thn w.p).bind fun q=>run q l).bind fun q=>run q m;cases p.thn w.p with
  |none=>rfl
  |some q=>exact zN l m q
theorem BD:∀(l:List We) {p q:Pa},p.ok=true→run p l=some q→q.ok=true
 | [],p,q,hp,h=>by have h:some p=some q:=h;injection h with h;subst h;exact hp
 |w::l,p,q,hp,h=>by
  have h:((p.thn w.p).bind fun q=>run q l)=some q:=h;cases e:p.thn w.p with
  |none=>rw[e] at h;cases h
  |some r=>rw[e] at h;exact BD l (Pa.aGU e).1 h
theorem Walk.split{ws:List We}:∀{l m:List We} {a c:Nat},Walk ws a (l++m) c→∃b,Walk ws a l b∧Walk ws b m c
 | [],_,a,_,h=>⟨a,rfl,h⟩
 |w::l,_,_,_,⟨h1,h2,h3⟩=>by
  obtain⟨b,h4,h5⟩:=Walk.split h3;exact⟨b,⟨h1,h2,h4⟩,h5⟩
def Can(l:List Pa):Prop:=l.Pairwise fun p q=>p.n=false∧q.n=true∧p.a<q.a
def wM(l:List Pa)(p:Pa):Prop:=∃q∈l,q.le p=true
def lf(l:List Pa)(p:Pa):List Pa:=if p.n=true then (l.filter fun x=> !(p.le x))++[p] else p::(l.filter fun x=> !(p.le x))
theorem pE(l:List Pa)(p x:Pa):x∈lf l p↔x=p∨(x∈l∧p.le x=false):=by
 unfold lf;split
 ·simp[or_comm]
 simp
theorem pk{l:List Pa}{p x:Pa}:wM (lf l p) x↔wM l x∨p.le x=true:=by
 constructor
 ·rintro⟨q,hq,hle⟩;rcases(pE l p q).1 hq with e|⟨h1,_⟩
  ·subst e;exact .inr hle
  exact .inl ⟨q,h1,hle⟩
 rintro(⟨q,hq,hle⟩|h)
 ·cases e:p.le q with
  |true=>exact⟨p,(pE l p p).2 (.inl rfl),Pa.le_trans e hle⟩
  |false=>exact⟨q,(pE l p q).2 (.inr ⟨hq,e⟩),hle⟩
 exact⟨p,(pE l p p).2 (.inl rfl),h⟩
theorem Can.put{l:List Pa}(h:Can l){p:Pa}(hd:¬wM l p):Can (lf l p):=by
 unfold lf Can;have hf:Can (l.filter fun x=> !(p.le x)):=List.Pairwise.sublist List.filter_sublist h;have hno:∀x∈l,x.le p=false:=fun x hx=>by
  cases e:x.le p with
  |false=>rfl
  |true=>exact absurd ⟨x,hx,e⟩ hd
 split
 ·rename_i hn;refine List.pairwise_append.2 ⟨hf,Zm,fun x hx q hq=>?_⟩;simp at hq;subst hq;obtain⟨hx1,hx2⟩:=Kz.1 hx;have h1:=hno x hx1;have h2:q.le x=false:=by simpa using hx2
  obtain⟨a,b⟩:=x;obtain⟨c,d⟩:=q;simp at hn;subst hn;cases a<;>simp[Pa.le] at*<;>omega
 rename_i hn;refine List.pairwise_cons.2 ⟨fun x hx=>?_,hf⟩;obtain⟨hx1,hx2⟩:=Kz.1 hx;have h1:=hno x hx1;have h2:p.le x=false:=by simpa using hx2
 obtain⟨a,b⟩:=x;obtain⟨c,d⟩:=p;simp at hn;subst hn;cases a<;>simp[Pa.le] at*<;>omega
def FG(l:List Pa):Nat:=l.foldr (fun p m=>min p.a.toNat m) 1048577
def co(l:List Pa):Nat:=FG l+FG (l.filter fun p=>p.n)
theorem Val.ok{ws:List We}{a k:Nat}{p:Pa}(h:Val ws a k p):p.ok=true:=by
 obtain⟨l,_,hr⟩:=h;exact BD l (by rfl) hr
theorem Val.step{ws:List We}{a:Nat}{p r:Pa}{w:We}(h:Val ws a w.f p)(hw:w∈ws)(e:p.thn w.p=some r):Val ws a w.t r:=by
 obtain⟨l,h1,h2⟩:=h;refine⟨l++[w],h1.append ⟨hw,rfl,rfl⟩,?_⟩;rw[zN,h2];show((p.thn w.p).bind fun q=>run q [])=some r;rw[e];rfl
theorem Val.aAS(ws:List We)(a:Nat):Val ws a a Pa.aAS:=⟨[],rfl,rfl⟩
def Du(ws:List We)(out:List (List Pa))(k:Nat):Prop:=∀p∈out.getD k [],∀w∈ws,w.f=k→∀r,p.thn w.p=some r→wM (out.getD w.t []) r
structure F4(ws:List We)(n a:Nat)(out:List (List Pa))(todo:List Nat):Prop where
 len:out.length=n
 can:∀k,Can (out.getD k [])
 val:∀k,∀p∈out.getD k [],Val ws a k p
 start:wM (out.getD a []) Pa.aAS
 lt:∀x∈todo,x<n
 clo:∀k,k<n→k∉todo→Du ws out k
structure w9(ws:List We)(n a k:Nat)(paths:List Pa)(D:We→Pa→Prop)(out:List (List Pa))(todo:List Nat):Prop where
 len:out.length=n
 can:∀k,Can (out.getD k [])
 val:∀k,∀p∈out.getD k [],Val ws a k p
 start:wM (out.getD a []) Pa.aAS
 lt:∀x∈todo,x<n
 clo:∀j,j<n→j∉todo→j≠k→Du ws out j
 pv:∀p∈paths,Val ws a k p
 me:k∈todo∨(out.getD k []=paths∧∀w∈ws,∀p∈paths,D w p→w.f=k→∀r,p.thn w.p=some r→wM (out.getD w.t []) r)
theorem wJ{α:Type}(l:List α)(i j:Nat)(v d:α)(h:i<l.length):(l.set i v).getD j d=if j=i then v else l.getD j d:=by
 rw[Kb,Kb];by_cases e:j=i
 ·subst e;simp[h]
 rw[Kx or];simp[e]
theorem w9.put{ws:List We}{n a k:Nat}{paths:List Pa}{D:We→Pa→Prop}{out:List (List Pa)}{todo:List Nat}(W:w9 ws n a k paths D out todo){w:We}{p r:Pa}(hw:w∈ws)(hf:w.f=k)(ht:w.t<n)(hp:p∈paths)(e:p.thn w.p=some r)(hd:¬wM (out.getD w.t []) r):
 w9 ws n a k paths (fun v q=>D v q∨(v=w∧q=p)) (out.set w.t (lf (out.getD w.t []) r)) (todo++[w.t]):=by
 have aAP:∀j,(out.set w.t (lf (out.getD w.t []) r)).getD j []=if j=w.t then lf (out.getD w.t []) r else out.getD j []:=fun j=>wJ _ _ _ _ _ (by rw[W.len];exact ht)
 have up:∀j x,wM (out.getD j []) x→wM ((out.set w.t (lf (out.getD w.t []) r)).getD j []) x:=fun j x h=>by
  rw[aAP];split
  ·rename_i ej;rw[ej] at h;exact pk.2 (.inl h)
  exact h
 refine⟨by simp[W.len],fun j=>?_,fun j q hq=>?_,up _ _ W.start,?_,?_,W.pv,?_⟩
 ·rw[aAP];split
  ·exact(W.can _).put hd
  exact W.can j
 ·rw[aAP] at hq;split at hq
  ·rename_i ej;subst ej;rcases(pE _ _ _).1 hq with eq|⟨h1,_⟩
   ·subst eq;exact Val.step (by rw[hf];exact W.pv p hp) hw e
   exact W.val _ q h1
  exact W.val j q hq
 ·intro x hx;rcases Kq.1 hx with h|h
  ·exact W.lt x h
  simp at h;omega
 ·intro j hj hn hk q hq v hv hvf r' hr';have hjt:j≠w.t:=fun ej=>hn (by simp[ej]);rw[aAP,if_neg hjt] at hq;exact up _ _ (W.clo j hj (fun h=>hn (by simp[h])) hk q hq v hv hvf r' hr')
 rcases W.me with h|⟨h1,h2⟩
 ·exact .inl (by simp[h])
 by_cases ek:k=w.t
 ·exact .inl (by simp[ek])
 refine .inr ⟨by rw[aAP,if_neg ek];exact h1,?_⟩;rintro v hv q hq (hD|⟨ev,eq⟩) hvf r' hr'
 ·exact up _ _ (h2 v hv q hq hD hvf r' hr')
 subst ev eq;rw[e] at hr';injection hr' with hr';subst hr';rw[aAP,if_pos rfl];exact pk.2 (.inr (Pa.le_refl _))
structure F8(ws:List We)(a k:Nat)(l:List Pa):Prop where
 can:Can l
 val:∀p∈l,Val ws a k p
 dom:∀p,Val ws a k p→wM l p
structure Dt(ws:List We)(n a r:Nat)(at':List (List Pa)):Prop where
 len:at'.length=n
 can:∀k,k<n→Can (at'.getD k [])
 val:∀k,k<n→∀p∈at'.getD k [],Val ws a k p
 dom:∀k,k<n→∀l p,l.length≤r→Walk ws a l k→run Pa.aAS l=some p→wM (at'.getD k []) p
structure Gi(l m:List Pa):Prop where
 can:Can m
 sub:∀p∈m,p∈l
 dom:∀p∈l,wM m p
theorem Dt.first{ws:List We}{n a:Nat}(ha:a<n):Dt ws n a 0 ((Kw n []).set a [Pa.aAS]):=by
 have aAP:∀j,((Kw n ([]:List Pa)).set a [Pa.aAS]).getD j []=if j=a then [Pa.aAS] else []:=fun j=>by
  rw[wJ _ _ _ _ _ (by simpa using ha)];split
  ·rfl
  rw[Kb,KC];split<;>rfl
 refine⟨Zm,fun k _=>?_,fun k _ p hp=>?_,fun k _ l p hl hw hr=>?_⟩
 ·rw[aAP];split<;>simp[Can]
 ·rw[aAP] at hp;split at hp
  ·rename_i e;simp at hp;subst e hp;exact Val.aAS ws k
  cases hp
 have e:l=[]:=List.length_eq_zero_iff.1 or;subst e;have hw:a=k:=hw;have hr:some Pa.aAS=some p:=hr;injection hr with hr;subst hw hr;rw[aAP,if_pos rfl];exact⟨Pa.aAS,Zm,Pa.le_refl _⟩
theorem F4.first{ws:List We}{n a:Nat}(ha:a<n):F4 ws n a ((Kw n []).set a [Pa.aAS]) [a]:=by
 have aAP:∀j,((Kw n ([]:List Pa)).set a [Pa.aAS]).getD j []=if j=a then [Pa.aAS] else []:=fun j=>by
  rw[wJ _ _ _ _ _ (by simpa using ha)];split
  ·rfl
  rw[Kb,KC];split<;>rfl
 refine⟨Zm,fun k=>?_,fun k p hp=>?_,?_,by simpa using ha,fun k hk hn p hp=>?_⟩
 ·rw[aAP];split<;>simp[Can]
 ·rw[aAP] at hp;split at hp
  ·rename_i e;simp at hp;subst e hp;exact Val.aAS ws k
  cases hp
 ·rw[aAP,if_pos rfl];exact⟨Pa.aAS,Zm,Pa.le_refl _⟩
 rw[aAP,if_neg (by simpa using hn)] at hp;cases hp
section
variable{α:Type} [DecidableEq α]{lt:α→α→Bool}
structure Ord(lt:α→α→Bool):Prop where
 irr:∀x,lt x x=false
 trans:∀x y z,lt x y=true→lt y z=true→lt x z=true
 tot:∀x y,lt x y=false→lt y x=false→x=y
def csT(out:List α)(x:α):List α:=if out.getLast?=some x then out else out++[x]
def cs(l:List α):List α:=l.foldl csT []
end
end Go.Proofs.YtlhedpgobaellaaGreatDoor
namespace Go.Proofs.YtlhedpgobaellaaGreatDoor
open Go.RowKit
attribute [local irreducible] Kt
def Pa.v(p:Pa):V:= .agg [.bool p.n, .int .i64 p.a]
def fM(n:Int):V:=if n=0 then .nilIface else .iface 93 (.int .i64 n)
theorem Fj:fM 0= .nilIface:=rfl
theorem eV(L:Nat→Prop)(n:Int):(fM n).names L:=by unfold fM;split<;>simp[Km]
theorem eO(n:Int):veq (.iface true) (fM n) .nilIface=some (decide (n=0)):=by
 unfold fM;split<;>simp_all [veq]
end Go.Proofs.YtlhedpgobaellaaGreatDoor
namespace Go.Proofs.YtlhedpgobaellaaGreatDoor
open Go.RowKit Go.Sort
attribute [local irreducible] Kt
theorem vb{a b:Bool}(h:a=true↔b=true):V.bool a=V.bool b:=by rw[KJ.2 h]
theorem Cc:aE Tryz.prog 156=some (LB.aDh 213):=Zz
theorem B7:aE Tryz.prog 213=some LB.aCW:=Zz
theorem ix(s:ByteArray)(h:Hp):aL Tryz.prog 215 [.str s] h (.bool false):=by
 refine aI (fun L=>trivial) fun h' nx hh=>aB L.aUH fun hd=>?_;refine ZK ?_;refine au ?_;refine aC h' (leo hd) ⟨?_,rfl⟩;simp
theorem ww(a b:UInt8):db a b=-1∨db a b=0∨db a b=1:=by
 unfold db rC;split
 ·simp
 split<;>simp
theorem xL:∀x y:List UInt8,dZ db x y=-1∨dZ db x y=0∨dZ db x y=1
 | [],[]=>by simp[dZ]
 | [],_::_=>by simp[dZ]
 |_::_,[]=>by simp[dZ]
 |a::x,b::y=>by
  unfold dZ orC;split
  ·exact xL x y
  exact ww a b
theorem Es(a b:ByteArray):wy a b=if Op.bytesLess a.toList b.toList=true then-1 else if (!(Op.bytesLess a.toList b.toList||a.toList==b.toList))=true then 1 else 0:=by
 rw[dS,dm];have h1:=xL a.toList b.toList;have h2:=c3S.eq a b;unfold wy at h2⊢;by_cases e:a=b
 ·subst e;have:=h2.2 rfl;rw[this];simp
 have h3:dZ db a.toList b.toList≠0:=fun k=>e (h2.1 k);rcases h1 with h1|h1|h1
 ·rw[h1];simp
 ·exact absurd h1 h3
 rw[h1];simp[e]
theorem Ba(a b:ByteArray)(h:Hp):aL Tryz.prog 158 [.str a, .str b] h (.int .i64 (wy a b)):=by
 refine aI (fun L=>trivial) fun h' nx hh=>aB L.aW2 fun hd=>?_;refine ZK ?_;have C1:=fun h=>ix a h;have C2:=fun h=>ix b h;rw[Es];cases h1:Op.bytesLess a.toList b.toList with
 |true=>
  refine aue h1 ?_;exact aC h' (leo hd) ⟨rfl,rfl⟩
 |false=>
  cases h2:a.toList==b.toList with
  |true=>
   refine aue (e4 h1 h2 QD QA) ?_;exact aC h' (leo hd) ⟨rfl,rfl⟩
  |false=>
   refine aue (e4 h1 h2 QD QA) ?_;exact aC h' (leo hd) ⟨rfl,rfl⟩
theorem Er(a b:Vl):orI [rC a.k b.k,rC a.n b.n,wy a.s b.s]=pZ a b:=by
 simp only[orI,pZ,orC];repeat' split
 all_goals first|rfl|omega
theorem zo(a b:Vl)(h:Hp):aL Tryz.prog 100 [a.v,b.v] h (.int .i64 (pZ a b)):=by
 refine aI (fun L=>trivial) fun h' nx hh=>aB L.aXm fun hd=>?_;refine ZK ?_;have D1:=fun h=>df Cc B7 a.k b.k h;have D2:=fun h=>df u6 DU a.n b.n h;have D3:=fun h=>Ba a.s b.s h;have D4:=fun h=>Ao Az (.tok (nx+17)) [rC a.k b.k,rC a.n b.n,wy a.s b.s] Zm h;rw[Er] at D4;refine aue Vl.v.eq_1 ?_;exact aC h' (leo hd) ⟨rfl,rfl⟩
theorem vK(n:Int)(h:Hp):aL Tryz.prog 143 [.int .i64 n] h (.bool (sK n)):=by
 refine aI (fun L=>trivial) fun h' nx hh=>aB L.aVF fun hd=>?_;refine ZK ?_;unfold sK;by_cases h1:-2147483647≤n
 ·have h2:decide (-2147483647≤n)=true:=dct;refine aue h2 ?_;refine aC h' (leo hd) ⟨?_,rfl⟩;simp[h1]
 have h2:decide (-2147483647≤n)=false:=dcf;refine aue h2 ?_;refine aC h' (leo hd) ⟨?_,rfl⟩;simp[h1]
theorem qi(c:Nat)(h:Hp):aL Tryz.prog 206 [.int .u8 c] h (.bool (dM c)):=by
 refine aI (fun L=>trivial) fun h' nx hh=>aB L.aN9 fun hd=>?_;refine ZK ?_;unfold dM;by_cases h1:(97:Int)≤c
 ·have h2:decide ((97:Int)≤c)=true:=dct;refine aue h2 ?_;refine aC h' (leo hd) ⟨?_,rfl⟩;have:97≤c:=or;simp[this];omega
 have h2:decide ((97:Int)≤c)=false:=dcf;refine aue h2 ?_;refine aC h' (leo hd) ⟨?_,rfl⟩;simp;omega
theorem ux(c:Nat)(h:Hp):aL Tryz.prog 205 [.int .i32 c] h (.bool (kQ c)):=by
 refine aI (fun L=>trivial) fun h' nx hh=>aB L.aOA fun hd=>?_;refine ZK ?_;unfold kQ kC;cases h1:decide ((97:Int)≤c)<;>cases h2:decide ((c:Int)≤122)<;>cases h3:decide ((48:Int)≤c)<;>cases h4:decide ((c:Int)≤57)<;>
  (refine aue (e4 h1 h2 h3 h4) ?_
   refine aC h' (leo hd) ⟨?_,rfl⟩;simp only[decide_eq_true_eq,decide_eq_false_iff_not] at h1 h2 h3 h4;refine vb ?_;simp;try omega)
theorem iy(s:ByteArray)(h:Hp):aL Tryz.prog 144 [.str s] h (.bool (iJ s)):=by
 refine aI (fun L=>trivial) fun h' nx hh=>aB L.aVE fun hd=>?_;refine ZK ?_;have C1:=fun h=>qi (byt s 0) h;have C2:=fun h=>wP kQ 205 [] (fun x _=>ux x Hp.none) s h;have hb:(s.data.toList.getD 0 0).toNat=byt s 0:=rfl;have hnil:(s.toList==(⟨#[]⟩:ByteArray).toList)=decide (s.size=0):=by
  rw[dS];congr 1;rw[eq_iff_iff];exact⟨fun e=>by rw[e];rfl,fun e=>by cases s with|mk d=>simp only[ByteArray.size] at e;rw[Kp e]⟩
 rw[ot] at C2;by_cases h0:s.size=0
 ·have g0:decide (s.size=0)=true:=dct;have:iJ s=false:=by unfold iJ;exact decide_eq_false or
  refine aue (e2 hnil g0) ?_;exact aC h' (leo hd) ⟨by rw[this]<;>rfl,rfl⟩
 have g0:decide (s.size=0)=false:=dcf;by_cases h1:32<s.size
 ·have g1:decide ((s.size:Int)≤32)=false:=dcf;have:iJ s=false:=by unfold iJ;exact decide_eq_false or
  refine aue (e3 hnil g0 g1) ?_;exact aC h' (leo hd) ⟨by rw[this]<;>rfl,rfl⟩
 have g1:decide ((s.size:Int)≤32)=true:=dct;have aAg:0<s.size:=or;cases h2:dM (byt s 0) with
 |false=>
  rw[h2] at C1;have:iJ s=false:=by unfold iJ;exact decide_eq_false (by simp[h2])
  refine aue (e5 hnil g0 g1 hb aAg) ?_;exact aC h' (leo hd) ⟨by rw[this]<;>rfl,rfl⟩
 |true=>
  rw[h2] at C1;have:iJ s=decide (∀i,i<s.size→kC (byt s i)=true):=by
   unfold iJ;congr 1;rw[eq_iff_iff];exact⟨fun k=>k.2.2.2,fun k=>⟨or,or,h2,k⟩⟩
  refine aue (e5 hnil g0 g1 hb aAg) ?_;refine aC h' (leo hd) ⟨?_,rfl⟩;rw[this];simp
theorem gS(x:Vl)(h:Hp):aL Tryz.prog 94 [x.v] h (.bool (bO x)):=by
 refine aI (fun L=>trivial) fun h' nx hh=>aB L.aVJ fun hd=>?_;refine ZK ?_;have C1:=fun h=>vK x.n h;have C2:=fun h=>iy x.s h;have hnil:(x.s.toList==(⟨#[]⟩:ByteArray).toList)=decide (x.s.size=0):=by
  rw[dS];congr 1;rw[eq_iff_iff];exact⟨fun e=>by rw[e];rfl,fun e=>by cases hs:x.s with|mk d=>rw[hs] at e;simp only[ByteArray.size] at e;rw[Kp e]⟩
 unfold bO;by_cases k1:x.k=1
 ·have g1:(x.k==1)=true:=bqt;by_cases k2:x.s.size=0
  ·have g2:decide (x.s.size=0)=true:=dct;refine aue (e4 Vl.v.eq_1 g1 hnil g2) ?_;refine aC h' (leo hd) ⟨?_,rfl⟩;simp[k1,k2]
  have g2:decide (x.s.size=0)=false:=dcf;refine aue (e4 Vl.v.eq_1 g1 hnil g2) ?_;refine aC h' (leo hd) ⟨?_,rfl⟩;simp[k1,k2]
 have g1:(x.k==1)=false:=bqf;by_cases k3:x.k=2
 ·have g3:(x.k==2)=true:=bqt;by_cases k2:x.n=0
  ·have g2:(x.n==0)=true:=bqt;refine aue (e4 Vl.v.eq_1 g1 g3 g2) ?_;refine aC h' (leo hd) ⟨?_,rfl⟩;simp[k3,k2]
  have g2:(x.n==0)=false:=bqf;refine aue (e4 Vl.v.eq_1 g1 g3 g2) ?_;refine aC h' (leo hd) ⟨?_,rfl⟩;simp[k3,k2]
 have g3:(x.k==2)=false:=bqf;refine aue (e3 Vl.v.eq_1 g1 g3) ?_;refine aC h' (leo hd) ⟨?_,rfl⟩;simp[k1,k3]
theorem Bn(n:Int)(h:Hp):aL Tryz.prog 93 [.int .i64 n] h (.tup [(ofV n).1.v,fM (ofV n).2]):=by
 refine aI (fun L=>⟨Vl.aAN L _,by unfold fM;split<;>simp[Km],trivial⟩) fun h' nx hh=>aB L.aXp fun hd=>?_;refine ZK ?_;have C1:=fun h=>vK n h;unfold ofV;cases hb:sK n with
 |true=>
  rw[hb] at C1;refine au ?_;refine bH (by simp only[go_sem,reduceIte,jA,jB,jC,jD,reduceCtorEq,jE,jF]) h' (leo hd) ⟨?_,rfl⟩;refine Zn ?_;rfl
 |false=>
  rw[hb] at C1;refine au ?_;refine bH (by simp only[go_sem,reduceIte,jA,jB,jC,jD,reduceCtorEq,jE,jF]) h' (leo hd) ⟨?_,rfl⟩;refine Zn ?_;rfl
theorem ul(s:ByteArray)(hl:s.size≤9223372036854775807)(h:Hp):aL Tryz.prog 216 [.str s] h (.bool (iJ s)):=by
 refine aI (fun L=>trivial) fun h' nx hh=>aB L.aUG fun hd=>?_;refine ZK ?_;refine au ?_
 refine aP (fun i:Nat=>aD 48 0 [(0, .str s),(3, .int .i64 i)])
  (fun i hp nx1=>i≤s.size∧hp=h'∧(∀j,j<i→kC (byt s j)=true)∧(0<i→dM (byt s 0)=true))
  (fun i=>s.size-i) 0 ⟨Ko _,rfl,fun j hj=>absurd hj or,fun h=>absurd h or⟩ (by simp only[WkL,aD,jH,jI,jJ,go_sem,reduceIte,jA,jB,jC,jD,reduceCtorEq,jE,jF]) ?_
 rintro i hp nx1 ⟨hi,rfl,aC3,aCO⟩;generalize hQ:bB _ _ _ _ _=Q0;refine Zk ?_;rcases Ku i s.size with hlt|hge
 ·have hc:decide ((i:Int)<(s.size:Int))=true:=dct;have hw:IntKind.i64.wrap ((i:Int)+1)=((i+1:Nat):Int):=wrp;have hb:(s.data.toList.getD i 0).toNat=byt s i:=rfl;have hi0:((i:Int)==0)=decide (i=0):=by by_cases e:i=0<;>simp[e]
  obtain⟨c,hcq⟩:∃c,byt s i=c:=⟨_,rfl⟩;have bad:((dM c=false∧(i=0∨kC c=false)))→iJ s=false:=fun k=>by
   unfold iJ;refine decide_eq_false fun n=>?_;rcases k with⟨k1,rfl|k2⟩
   ·rw[hcq] at n;rw[n.2.2.1] at k1;cases k1
   have:=n.2.2.2 i hlt;rw[hcq,k2] at this;cases this
  have aWT:(dM c=true∨(i≠0∧kC c=true))→(∀j,j<i+1→kC (byt s j)=true)∧(0<i+1→dM (byt s 0)=true):=fun k=>by
   refine⟨fun j hj=>?_,fun _=>?_⟩
   ·rcases Ku j i with h|h
    ·exact aC3 j h
    have:j=i:=or;subst this;rw[hcq];rcases k with k|k
    ·simp only[dM,kC,decide_eq_true_eq] at k⊢;exact .inl k
    exact k.2
   rcases Nat.eq_zero_or_pos i with h|h
   ·subst h;rw[hcq];exact k.elim id fun k=>absurd rfl k.1
   exact aCO h
  cases h0:decide (i=0)<;>cases h1:decide ((97:Int)≤c)<;>cases h2:decide ((c:Int)≤122)<;>cases h3:decide ((48:Int)≤c)<;>cases h4:decide ((c:Int)≤57)<;>cases h5:((c:Int) != 95)<;>
   (have g:=e6 h0 h1 h2 h3 h4 h5
    simp only[decide_eq_true_eq,decide_eq_false_iff_not,bne_iff_ne,bne_eq_false_iff_eq,ne_eq] at g;try (exfalso;omega))
  all_goals refine aue (e11 hc hw hb hi0 hcq h0 h1 h2 h3 h4 (e2 h5 hlt)) ?_
  all_goals
   rw[←hQ]
   first
    |refine aG (i+1) or ⟨or,rfl,aWT (by simp only[dM,kC,decide_eq_true_eq];omega)⟩ (by simp only[WkL,aD,jH,jI,jJ,go_sem,reduceIte,jA,jB,jC,jD,reduceCtorEq,jE,jF])
    |(refine au ?_
      exact aC hp (leo hd) ⟨by rw[bad (by simp only[dM,kC,decide_eq_false_iff_not];omega)]<;>rfl,rfl⟩)
 have hc:decide ((i:Int)<(s.size:Int))=false:=dcf;have hi:i=s.size:=or;subst hi;refine aue hc ?_;rw[←hQ];have hn:iJ s=(decide ((s.size:Int)≥1)&&decide ((s.size:Int)≤32)):=by
  rw[KJ];simp only[iJ,Qk,decide_eq_true_eq];exact⟨fun k=>⟨or,or⟩,fun k=>⟨or,or,aCO or,aC3⟩⟩
 cases h1:decide ((s.size:Int)≥1) with
 |true=>
  have h1':decide (1≤(s.size:Int))=true:=h1;refine aue h1' ?_;refine aC hp (leo hd) ⟨?_,rfl⟩;rw[hn,h1,Qd];rfl
 |false=>
  have h1':decide (1≤(s.size:Int))=false:=h1;refine aue h1' ?_;refine aC hp (leo hd) ⟨?_,rfl⟩;rw[hn,h1];rfl
theorem j5(x:Vl)(hl:x.s.size≤9223372036854775807)(h:Hp):aL Tryz.prog 160 [x.v] h (.bool (bO x)):=by
 refine aI (fun L=>trivial) fun h' nx hh=>aB L.aW1 fun hd=>?_;refine ZK ?_;have C1:=fun h=>ul x.s hl h;unfold bO sK;cases k1:(x.k==1) with
 |true=>
  have q1:x.k=1:=by simpa using k1
  cases k2:((x.s.size:Int)==0) with
  |true=>
   have q2:x.s.size=0:=by simpa using k2
   cases k3:decide (-2147483647≤x.n) with
   |true=>
    refine aue (e4 Vl.v.eq_1 k1 k2 k3) ?_;refine aC h' (leo hd) ⟨vb ?_,rfl⟩;simp only[decide_eq_true_eq] at k3;simp[q1,q2,k3]
   |false=>
    refine aue (e4 Vl.v.eq_1 k1 k2 k3) ?_;refine aC h' (leo hd) ⟨vb ?_,rfl⟩;simp only[decide_eq_false_iff_not] at k3;simp[q1,q2];omega
  |false=>
   have q2:x.s.size≠0:=by simpa using k2
   refine aue (e3 Vl.v.eq_1 k1 k2) ?_;refine aC h' (leo hd) ⟨vb ?_,rfl⟩;simp[q1,q2]
 |false=>
  have q1:x.k≠1:=by simpa using k1
  cases k2:(x.k==2) with
  |true=>
   have q2:x.k=2:=by simpa using k2
   cases k3:(x.n==0) with
   |true=>
    have q3:x.n=0:=by simpa using k3
    refine aue (e4 Vl.v.eq_1 k1 k2 k3) ?_;refine aC h' (leo hd) ⟨vb ?_,rfl⟩;simp[q2,q3]
   |false=>
    have q3:x.n≠0:=by simpa using k3
    refine aue (e4 Vl.v.eq_1 k1 k2 k3) ?_;refine aC h' (leo hd) ⟨vb ?_,rfl⟩;simp[q2,q3]
  |false=>
   have q2:x.k≠2:=by simpa using k2
   refine aue (e3 Vl.v.eq_1 k1 k2) ?_;refine aC h' (leo hd) ⟨vb ?_,rfl⟩;simp[q1,q2]
theorem nl(a b:Vl)(h:Hp):aL Tryz.prog 129 [a.v,b.v] h (.bool (y0 a b)):=by
 refine aI (fun L=>trivial) fun h' nx hh=>aB L.aXS fun hd=>?_;refine ZK ?_;unfold y0 pZ orC rC;cases k1:(a.k != b.k) with
 |true=>
  have q1:a.k≠b.k:=by simpa using k1
  refine aue (ee2 Vl.v.eq_1 k1) ?_;refine aC h' (leo hd) ⟨vb ?_,rfl⟩;simp only[decide_eq_true_eq];repeat' split
  all_goals omega
 |false=>
  have q1:a.k=b.k:=by simpa using k1
  cases k2:(a.n != b.n) with
  |true=>
   have q2:a.n≠b.n:=by simpa using k2
   refine aue (e3 Vl.v.eq_1 k1 k2) ?_;refine aC h' (leo hd) ⟨vb ?_,rfl⟩;simp only[decide_eq_true_eq];repeat' split
   all_goals omega
  |false=>
   have q2:a.n=b.n:=by simpa using k2
   refine aue (e3 Vl.v.eq_1 k1 k2) ?_;refine aC h' (leo hd) ⟨vb ?_,rfl⟩;simp only[dm,decide_eq_true_eq,q1,q2,Int.lt_irrefl,if_false,if_true];exact Iff.rfl
end Go.Proofs.YtlhedpgobaellaaGreatDoor
namespace Go.Proofs.YtlhedpgobaellaaGreatDoor
open Go.RowKit Go.Sort
attribute [local irreducible] Kt
theorem nI{P:Program}{f:FuncId}{args:List V}{v:V}(hn:∀L,v.names L)(hen:iY P f=true)(hc:∀(K:Ker) (cargs:Array Value),gZ K→VRs K args cargs→Calls P f cargs K.w fun e w'=>∃cv,e= .returned cv∧(∀K,VR K v cv)∧dU K.w w')(h:Hp):aL P f args h v:=by
 refine aI hn fun h' nx hh=>⟨hen,fun K cargs hlv hr hv=>?_⟩;refine(hc K cargs hr.size hv).mono ?_;rintro e w' ⟨cv,rfl,hv',hb⟩;exact⟨{K with w:=w'},v,cv,h',nx,rfl,rfl,pP hb,hv' _,hr.later hb,fun n hn=>⟨hlv n hn, .inl hn⟩,Kk _,rfl,rfl⟩
theorem bU{t u v:Nat}{R:V→Hp→Nat→Prop}{s:St}(h':Hp)(hle:h'.le s.h)(hR:R (.tup [s.sl.getD t Ka,s.sl.getD u Ka,s.sl.getD v Ka]) h' s.nx):tM [.slot t, .slot u, .slot v] R .ret s:=⟨h',hle,hR⟩
theorem xr{K:Ker}{a:V}{c:Array Value}(h:VRs K [a] c):∃x,c=#[x]∧VR K a x:=by
 obtain⟨hs,hv⟩:=h;have hs:c.size=1:=by simpa using hs.symm
 refine⟨c[0],?_,?_⟩
 ·apply Qh
  ·simp[hs]
  intro i h1 h2;obtain rfl:i=0:=or;rfl
 have:=hv 0 Zm;simpa [Qw,hs] using this
theorem xq{K:Ker}{a b:V}{c:Array Value}(h:VRs K [a,b] c):∃x y,c=#[x,y]∧VR K a x∧VR K b y:=by
 obtain⟨hs,hv⟩:=h;have hs:c.size=2:=by simpa using hs.symm
 refine⟨c[0],c[1],?_,?_,?_⟩
 ·apply Qh
  ·simp[hs]
  intro i h1 h2;have:i=0∨i=1:=or;rcases this with rfl|rfl<;>rfl
 ·have:=hv 0 Zm;simpa [Qw,hs] using this
 have:=hv 1 Zm;simpa [Qw,hs] using this
set_option maxRecDepth 100000 in
theorem pR(s:ByteArray)(c:Int)(w:World):
 Calls Tryz.prog 264 #[.string s, .int .u8 c] w fun e w'=>e= .returned (.int .i64 (Lib.indexByte s.data.toList c.toNat.toUInt8))∧w'=w:=by
 go_enter Tryz.func264,Tryz.ntmps264
 go_wp2
 rw[run_callFunc_extern Tryz.func280 Zz Zz Zz (e:=Extern.BytealgIndexByte.indexByte) Zz,Lib.run_indexByteString];simp only[Result.andThen];rw[Oper.upon_value]
 go_wp2
 go_ret
 exact⟨rfl,rfl⟩
theorem xX(s:ByteArray)(c:Nat)(h:Hp):aL Tryz.prog 264 [.str s, .int .u8 c] h (.int .i64 (Lib.indexByte s.data.toList c.toUInt8)):=by
 refine nI ?_ Zz (fun K cargs _ hv=>?_) h
 ·exact fun L=>trivial
 obtain⟨x,y,rfl,v1,v2⟩:=xq hv;cases v1;cases v2;refine(pR s c K.w).mono ?_;rintro e w' ⟨rfl,rfl⟩;exact⟨_,rfl,fun K=> .int _ _,dU.refl _⟩
theorem bq(s:ByteArray)(c:Nat)(h:Hp):aL Tryz.prog 253 [.str s, .int .u8 c] h (.int .i64 (Lib.indexByte s.data.toList c.toUInt8)):=by
 refine aI (fun L=>trivial) fun h' nx hh=>aB L.aTq fun hd=>?_;simp only[Ke,Kj,Kh,Ki,Kc,Kd,Kf,Kg,Ka];have C1:=fun h=>xX s c h;refine au ?_;exact aC h' (leo hd) ⟨rfl,rfl⟩
theorem qz:∀(l:List UInt8) (c:UInt8),(∃i:Nat,i<l.length∧Lib.indexByte l c=i∧l.getD i 0=c∧∀j,j<i→l.getD j 0≠c)∨(Lib.indexByte l c=-1∧∀j,j<l.length→l.getD j 0≠c)
 | [],c=> .inr ⟨rfl,fun j hj=>absurd hj Zm⟩
 |b::l,c=>by
  unfold Lib.indexByte;by_cases hb:b=c
  ·subst hb;exact .inl ⟨0,Zm,Zm,Zm,fun j hj=>absurd hj or⟩
  rw[if_neg (by simpa using hb)];rcases qz l c with⟨i,h1,h2,h3,h4⟩|⟨h2,h4⟩
  ·refine .inl ⟨i+1,by simpa using h1,?_,by simpa using h3,fun j hj=>?_⟩
   ·rw[h2,if_neg (by rw[beq_iff_eq];omega)];omega
   cases j with
   |zero=>simpa using hb
   |succ j=>simpa using h4 j or
  refine .inr ⟨by rw[h2];rfl,fun j hj=>?_⟩;cases j with
  |zero=>simpa using hb
  |succ j=>simpa using h4 j (by simpa using hj)
theorem Be(c:Nat)(hc:c<256):decide (0≤Lib.indexByte [9,10,13,32] c.toUInt8)=qB c:=by
 revert c;decide+kernel
def gV(r:ByteArray):Nat:=kP (fun c=>decide (c≠10)) r 0
theorem Co(r:ByteArray):Lib.indexByte r.data.toList 10=if gV r<r.size then (gV r:Int) else-1:=by
 have hb:∀j,(byt r j=10)↔r.data.toList.getD j 0=10:=fun j=>by
  unfold byt;constructor
  ·intro h;exact UInt8.toNat_inj.1 (by rw[h];rfl)
  intro h;rw[h];rfl
 have hl:r.data.toList.length=r.size:=Zm;rcases qz r.data.toList 10 with⟨i,h1,h2,h3,h4⟩|⟨h2,h4⟩
 ·have:gV r=i:=sV (Ko _) or (fun k _ hk=>decide_eq_true fun e=>h4 k hk ((hb k).1 e)) (.inr (decide_eq_false fun e=>e ((hb i).2 h3)));rw[this,if_pos or,h2]
 have:gV r=r.size:=sV (Ko _) (Kk _) (fun k _ hk=>decide_eq_true fun e=>h4 k or ((hb k).1 e)) (.inl rfl);rw[this,if_neg or,h2]
set_option maxRecDepth 100000 in
theorem vt(s:ByteArray)(c:UInt8)(w:World):
 Calls Tryz.prog 281 #[.string s, .string ⟨#[c]⟩] w fun e w'=>e= .returned (.int .i64 (Lib.indexByte s.data.toList c))∧w'=w:=by
 go_enter Tryz.func281,Tryz.ntmps281
 go_wp2_with (go_at_call 264;refine(pR _ _ _).mono ?_;rintro e w' ⟨rfl,rfl⟩)
 ·have h:([c]==s.toList)=true:=by assumption
  go_ret
  refine⟨?_,rfl⟩;have e:s.data.toList=[c]:=by rw[←Lib.toList_data];exact(beq_iff_eq.1 h).symm
  rw[e];simp[Lib.indexByte]
 go_ret
 exact⟨rfl,rfl⟩
theorem qx(r:ByteArray)(h:Hp):aL Tryz.prog 281 [.str r, .str ⟨#[10]⟩] h (.int .i64 (if gV r<r.size then (gV r:Int) else-1)):=by
 rw[←Co];refine nI ?_ Zz (fun K cargs _ hv=>?_) h
 ·exact fun L=>trivial
 obtain⟨x,y,rfl,v1,v2⟩:=xq hv;cases v1;cases v2;refine(vt r 10 K.w).mono ?_;rintro e w' ⟨rfl,rfl⟩;exact⟨_,rfl,fun K=> .int _ _,dU.refl _⟩
theorem El(r:ByteArray)(hl:r.size≤1000000)(h:Hp):∃a b,aL Tryz.prog 265 [.str r, .str ⟨#[10]⟩] h (.tup [.str (r.extract 0 (gV r)), .str a, .bool b]):=by
 have hle:gV r≤r.size:=(nE _ r 0 (Ko _)).2.1;by_cases hc:gV r<r.size
 ·refine⟨r.extract (gV r+1) r.size,true,aI (fun L=>⟨trivial,trivial,trivial,trivial⟩) fun h' nx hh=>aB L.aLz fun hd=>?_⟩;simp only[Ke,Kj,Kh,Ki,Kc,Kd,Kf,Kg,Ka];have C1:=fun h=>qx r h;rw[if_pos hc] at C1;have g1:decide ((gV r:Int)≥0)=true:=dct;have g2:decide ((0:Int)≤gV r)=true:=dct;have g3:IntKind.i64.wrap ((gV r:Int)+((1:Nat):Int))=((gV r+1:Nat):Int):=wrp;have g4:(⟨#[10]⟩:ByteArray).size=1:=rfl;have g5:gV r+1≤r.size:=hc;refine aue (e7 g4 g1 g2 g3 hc (KD (gV r+1)) g5) ?_;refine bU h' (leo hd) ⟨?_,rfl⟩;simp only[go_sem,reduceIte,Kh,Ki,KV,KG,reduceCtorEq,KH,KK]
 refine⟨⟨#[]⟩,false,aI (fun L=>⟨trivial,trivial,trivial,trivial⟩) fun h' nx hh=>aB L.aLz fun hd=>?_⟩;simp only[Ke,Kj,Kh,Ki,Kc,Kd,Kf,Kg,Ka];have C1:=fun h=>qx r h;rw[if_neg hc] at C1;have g1:decide ((0:Int)≤-1)=false:=ZM;refine aue g1 ?_;refine bU h' (leo hd) ⟨?_,rfl⟩;have:r.extract 0 (gV r)=r:=by rw[show gV r=r.size by omega,vB]
 rw[this];rfl
theorem Fl(r:ByteArray)(hl:r.size≤1000000)(h:Hp):∃a b,aL Tryz.prog 254 [.str r, .str ⟨#[10]⟩] h (.tup [.str (r.extract 0 (gV r)), .str a, .bool b]):=by
 obtain⟨a,b,hc⟩:=El r hl Hp.none;refine⟨a,b,aI (fun L=>⟨trivial,trivial,trivial,trivial⟩) fun h' nx hh=>aB L.aTp fun hd=>?_⟩;simp only[Ke,Kj,Kh,Ki,Kc,Kd,Kf,Kg,Ka];have C1:=fun h=>hc.mono (bA h);refine au ?_;exact bU h' (leo hd) ⟨rfl,rfl⟩
end Go.Proofs.YtlhedpgobaellaaGreatDoor
namespace Go.Proofs.YtlhedpgobaellaaGreatDoor
open Go.Shelf
def du:Go.Shelf.Ren:=⟨fun|172=>242|244=>258|245=>259|247=>271|279=>272|280=>273|281=>274|282=>275|287=>283|316=>284|171=>269|205=>285|321=>291|322=>292|243=>282|246=>290|283=>294|284=>295|285=>296|286=>297|129=>154|317=>298|318=>299|319=>300|320=>301|337=>302|338=>303|n=>n,fun|9=>9|3=>3|75=>38|76=>193|4=>4|5=>5|167=>368|37=>369|0=>0|85=>370|2=>2|168=>372|53=>263|175=>375|46=>84|210=>379|127=>385|145=>388|143=>386|21=>21|171=>391|173=>393|212=>396|51=>261|20=>20|213=>397|232=>398|233=>399|80=>400|n=>n,fun|15=>4|16=>5|17=>7|18=>8|19=>9|n=>n⟩
theorem dw:Go.Proofs.LaysC.n172 Tryz.prog du:={
 mixed:=Zz
 f129:=Tryz.func154.trans (congrArg some Zz)
 f171:=Tryz.func269.trans (congrArg some Zz)
 f172:=Tryz.func242.trans (congrArg some Zz)
 f205:=Tryz.func285.trans (congrArg some Zz)
 f243:=Tryz.func282.trans (congrArg some Zz)
 f244:=Tryz.func258.trans (congrArg some Zz)
 f245:=Tryz.func259.trans (congrArg some Zz)
 f246:=Tryz.func290.trans (congrArg some Zz)
 f247:=Tryz.func271.trans (congrArg some Zz)
 f279:=Tryz.func272.trans (congrArg some Zz)
 f280:=Tryz.func273.trans (congrArg some Zz)
 f281:=Tryz.func274.trans (congrArg some Zz)
 f282:=Tryz.func275.trans (congrArg some Zz)
 f283:=Tryz.func294.trans (congrArg some Zz)
 f284:=Tryz.func295.trans (congrArg some Zz)
 f285:=Tryz.func296.trans (congrArg some Zz)
 f286:=Tryz.func297.trans (congrArg some Zz)
 f287:=Tryz.func283.trans (congrArg some Zz)
 f316:=Tryz.func284.trans (congrArg some Zz)
 f317:=Tryz.func298.trans (congrArg some Zz)
 f318:=Tryz.func299.trans (congrArg some Zz)
 f319:=Tryz.func300.trans (congrArg some Zz)
 f320:=Tryz.func301.trans (congrArg some Zz)
 f321:=Tryz.func291.trans (congrArg some Zz)
 f322:=Tryz.func292.trans (congrArg some Zz)
 f337:=Tryz.func302.trans (congrArg some Zz)
 f338:=Tryz.func303.trans (congrArg some Zz)
 t0:=Tryz.underlying0
 a0:=Tryz.isAgg0
 z0:=Tryz.sizeOf0
 v0:=Tryz.zeroValue0
 t2:=Tryz.underlying2
 a2:=Tryz.isAgg2
 z2:=Tryz.sizeOf2
 v2:=Tryz.zeroValue2
 t3:=Tryz.underlying3
 a3:=Tryz.isAgg3
 z3:=Tryz.sizeOf3
 v3:=Tryz.zeroValue3
 t4:=Tryz.underlying4
 a4:=Tryz.isAgg4
 z4:=Tryz.sizeOf4
 v4:=Tryz.zeroValue4
 t5:=Tryz.underlying5
 a5:=Tryz.isAgg5
 z5:=Tryz.sizeOf5
 v5:=Tryz.zeroValue5
 t9:=Tryz.underlying9
 a9:=Tryz.isAgg9
 z9:=Tryz.sizeOf9
 v9:=Tryz.zeroValue9
 t20:=Tryz.underlying20
 a20:=Tryz.isAgg20
 z20:=Tryz.sizeOf20
 v20:=Tryz.zeroValue20
 t21:=Tryz.underlying21
 a21:=Tryz.isAgg21
 z21:=Tryz.sizeOf21
 v21:=Tryz.zeroValue21
 t37:=Tryz.underlying369
 a37:=Tryz.isAgg369
 z37:=Tryz.sizeOf369
 v37:=Tryz.zeroValue369
 t46:=Tryz.underlying84
 a46:=Tryz.isAgg84
 z46:=Tryz.sizeOf84
 v46:=Tryz.zeroValue84
 t51:=Tryz.underlying261
 a51:=Tryz.isAgg261
 z51:=Tryz.sizeOf261
 v51:=Tryz.zeroValue261
 t53:=Tryz.underlying263
 a53:=Tryz.isAgg263
 z53:=Tryz.sizeOf263
 v53:=Tryz.zeroValue263
 t75:=Tryz.underlying38
 a75:=Tryz.isAgg38
 z75:=Tryz.sizeOf38
 v75:=Tryz.zeroValue38
 t76:=Tryz.underlying193
 a76:=Tryz.isAgg193
 z76:=Tryz.sizeOf193
 v76:=Tryz.zeroValue193
 t85:=Tryz.underlying370
 a85:=Tryz.isAgg370
 z85:=Tryz.sizeOf370
 v85:=Tryz.zeroValue370
 t127:=Tryz.underlying385
 a127:=Tryz.isAgg385
 z127:=Tryz.sizeOf385
 v127:=Tryz.zeroValue385
 t143:=Tryz.underlying386
 a143:=Tryz.isAgg386
 z143:=Tryz.sizeOf386
 v143:=Tryz.zeroValue386
 t145:=Tryz.underlying388
 a145:=Tryz.isAgg388
 z145:=Tryz.sizeOf388
 v145:=Tryz.zeroValue388
 t167:=Tryz.underlying368
 a167:=Tryz.isAgg368
 z167:=Tryz.sizeOf368
 v167:=Tryz.zeroValue368
 t168:=Tryz.underlying372
 a168:=Tryz.isAgg372
 z168:=Tryz.sizeOf372
 v168:=Tryz.zeroValue372
 t171:=Tryz.underlying391
 a171:=Tryz.isAgg391
 z171:=Tryz.sizeOf391
 v171:=Tryz.zeroValue391
 t173:=Tryz.underlying393
 a173:=Tryz.isAgg393
 z173:=Tryz.sizeOf393
 v173:=Tryz.zeroValue393
 t175:=Tryz.underlying375
 a175:=Tryz.isAgg375
 z175:=Tryz.sizeOf375
 v175:=Tryz.zeroValue375
 t210:=Tryz.underlying379
 a210:=Tryz.isAgg379
 z210:=Tryz.sizeOf379
 v210:=Tryz.zeroValue379
 t212:=Tryz.underlying396
 a212:=Tryz.isAgg396
 z212:=Tryz.sizeOf396
 v212:=Tryz.zeroValue396
 t213:=Tryz.underlying397
 a213:=Tryz.isAgg397
 z213:=Tryz.sizeOf397
 t232:=Tryz.underlying398
 a232:=Tryz.isAgg398
 z232:=Tryz.sizeOf398
 v232:=Tryz.zeroValue398
 t233:=Tryz.underlying399
 a233:=Tryz.isAgg399
 z233:=Tryz.sizeOf399
 v233:=Tryz.zeroValue399
 g15:=Zz
 g16:=Zz
 g17:=Zz
 g18:=Zz
 g19:=Zz
 t80:=Tryz.underlying400
 a80:=Tryz.isAgg400
 z80:=Tryz.sizeOf400
 v80:=Tryz.zeroValue400
 i0:=Zz
 i2:=Zz
 i3:=Zz
 i4:=Zz
 i5:=Zz
 i9:=Zz
 i20:=Zz
 i21:=Zz
 i37:=Zz
 i46:=Zz
 i51:=Zz
 i53:=Zz
 i75:=Zz
 i76:=Zz
 i80:=Zz
 i85:=Zz
 i127:=Zz
 i143:=Zz
 i145:=Zz
 i167:=Zz
 i168:=Zz
 i171:=Zz
 i173:=Zz
 i175:=Zz
 i210:=Zz
 i212:=Zz
 i232:=Zz
 i233:=Zz
 m15:=Zz
 m16:=Zz
 m17:=Zz
 m18:=Zz
 m19:=Zz
 c0:=Zz
 c2:=Zz
 c3:=Zz
 c4:=Zz
 c5:=Zz
 c9:=Zz
 c20:=Zz
 c21:=Zz
 c37:=Zz
 c46:=Zz
 c51:=Zz
 c53:=Zz
 c75:=Zz
 c76:=Zz
 c80:=Zz
 c85:=Zz
 c127:=Zz
 c143:=Zz
 c145:=Zz
 c167:=Zz
 c168:=Zz
 c171:=Zz
 c173:=Zz
 c175:=Zz
 c210:=Zz
 c212:=Zz
 c213:=Zz
 c232:=Zz
 c233:=by kernel_rfl}
def qs:Go.Shelf.Ren:=⟨fun|171=>269|243=>282|246=>290|283=>294|284=>295|285=>296|286=>297|129=>154|317=>298|318=>299|319=>300|320=>301|337=>302|338=>303|n=>n,fun|3=>3|9=>9|2=>2|4=>4|171=>391|0=>0|53=>263|37=>369|5=>5|173=>393|212=>396|51=>261|20=>20|213=>397|46=>84|232=>398|233=>399|n=>n,fun|17=>7|18=>8|19=>9|n=>n⟩
theorem itoa:Go.Proofs.LaysM.n171 Tryz.prog qs:={
 mixed:=Zz
 f129:=Tryz.func154.trans (congrArg some Zz)
 f171:=Tryz.func269.trans (congrArg some Zz)
 f243:=Tryz.func282.trans (congrArg some Zz)
 f246:=Tryz.func290.trans (congrArg some Zz)
 f283:=Tryz.func294.trans (congrArg some Zz)
 f284:=Tryz.func295.trans (congrArg some Zz)
 f285:=Tryz.func296.trans (congrArg some Zz)
 f286:=Tryz.func297.trans (congrArg some Zz)
 f317:=Tryz.func298.trans (congrArg some Zz)
 f318:=Tryz.func299.trans (congrArg some Zz)
 f319:=Tryz.func300.trans (congrArg some Zz)
 f320:=Tryz.func301.trans (congrArg some Zz)
 f337:=Tryz.func302.trans (congrArg some Zz)
 f338:=Tryz.func303.trans (congrArg some Zz)
 t0:=Tryz.underlying0
 a0:=Tryz.isAgg0
 z0:=Tryz.sizeOf0
 v0:=Tryz.zeroValue0
 t2:=Tryz.underlying2
 a2:=Tryz.isAgg2
 z2:=Tryz.sizeOf2
 v2:=Tryz.zeroValue2
 t3:=Tryz.underlying3
 a3:=Tryz.isAgg3
 z3:=Tryz.sizeOf3
 v3:=Tryz.zeroValue3
 t4:=Tryz.underlying4
 a4:=Tryz.isAgg4
 z4:=Tryz.sizeOf4
 v4:=Tryz.zeroValue4
 t5:=Tryz.underlying5
 a5:=Tryz.isAgg5
 z5:=Tryz.sizeOf5
 v5:=Tryz.zeroValue5
 t9:=Tryz.underlying9
 a9:=Tryz.isAgg9
 z9:=Tryz.sizeOf9
 v9:=Tryz.zeroValue9
 t20:=Tryz.underlying20
 a20:=Tryz.isAgg20
 z20:=Tryz.sizeOf20
 v20:=Tryz.zeroValue20
 t37:=Tryz.underlying369
 a37:=Tryz.isAgg369
 z37:=Tryz.sizeOf369
 v37:=Tryz.zeroValue369
 t46:=Tryz.underlying84
 a46:=Tryz.isAgg84
 z46:=Tryz.sizeOf84
 v46:=Tryz.zeroValue84
 t51:=Tryz.underlying261
 a51:=Tryz.isAgg261
 z51:=Tryz.sizeOf261
 v51:=Tryz.zeroValue261
 t53:=Tryz.underlying263
 a53:=Tryz.isAgg263
 z53:=Tryz.sizeOf263
 v53:=Tryz.zeroValue263
 t171:=Tryz.underlying391
 a171:=Tryz.isAgg391
 z171:=Tryz.sizeOf391
 v171:=Tryz.zeroValue391
 t173:=Tryz.underlying393
 a173:=Tryz.isAgg393
 z173:=Tryz.sizeOf393
 v173:=Tryz.zeroValue393
 t212:=Tryz.underlying396
 a212:=Tryz.isAgg396
 z212:=Tryz.sizeOf396
 v212:=Tryz.zeroValue396
 t213:=Tryz.underlying397
 a213:=Tryz.isAgg397
 z213:=Tryz.sizeOf397
 t232:=Tryz.underlying398
 a232:=Tryz.isAgg398
 z232:=Tryz.sizeOf398
 v232:=Tryz.zeroValue398
 t233:=Tryz.underlying399
 a233:=Tryz.isAgg399
 z233:=Tryz.sizeOf399
 v233:=Tryz.zeroValue399
 g17:=Zz
 g18:=Zz
 g19:=Zz
 i0:=Zz
 i2:=Zz
 i3:=Zz
 i4:=Zz
 i5:=Zz
 i9:=Zz
 i20:=Zz
 i37:=Zz
 i46:=Zz
 i51:=Zz
 i53:=Zz
 i171:=Zz
 i173:=Zz
 i212:=Zz
 i232:=Zz
 i233:=Zz
 m17:=Zz
 m18:=Zz
 m19:=by kernel_rfl}
end Go.Proofs.YtlhedpgobaellaaGreatDoor
namespace Go.Proofs.YtlhedpgobaellaaGreatDoor
open Go.RowKit Go.Sort Go.Shelf
attribute [local irreducible] Kt
set_option maxRecDepth 100000 in
theorem dh(s:ByteArray)(w:World)(hlim:s.size≤4000):
 Calls Tryz.prog 284 #[.string s] w fun e w'=>e= .returned (.string s)∧dU w w':=by
 have mixed:Tryz.prog.follows .mixedOrders=true:=Zz;by_cases h0:s.size=0
 ·obtain rfl:s=⟨#[]⟩:=ByteArray.ext (Kp h0)
  go_enter Tryz.func284,Tryz.ntmps284
  go_wp2
  go_ret
  exact⟨rfl,dU.refl _⟩
 obtain⟨i,hi,hz,hs1,hb1⟩:=info_parts dw.i5;have hs2:(Tryz.prog.info? 5).map (·.size)=some 1:=by
  show(Tryz.prog.info? (du.t 5)).map (·.size)=some 1;rw[hi];simp[hs1]
 have hce:Tryz.prog.cellsOf 5=1:=Zz;generalize hM:madeCells (Value.int .u8 0).cells (((s.size:Nat):Int).toNat*i.size)=M;have hmk:∀W:World,(Instr.makeSlice 369 (.int .i64 (s.size:Int)) (.int .i64 (s.size:Int))).run Tryz.prog W= .ok (.slice (some ⟨W.heap.size,0,none⟩) s.size s.size) (W.alloc (.cells M 5)):=fun W=>by
  have h:=run_make (P:=Tryz.prog) W 369 5 i (.int .u8 0) Tryz.underlying369 hi hz .i64 .i64 (s.size:Int) (s.size:Int) or or (by rw[hb1];omega) or;rw[hM] at h;simpa using h
 have hMl:M.size=s.size:=by rw[←hM,size_madeCells,hs1];simp
 have hcp:=Lib.run_copy_row_string (P:=Tryz.prog) (w.alloc (.cells M 5)) 369 9 3 5 w.heap.size 0 s.size s.size s M 5 Tryz.underlying369 hs2 (heap_alloc_new w _) (Kk _) or;generalize hY:(M.toList.take 0++Lib.byteCells s.data.toList++M.toList.drop (0+s.size)).toArray=Y at hcp;have hYl:Y.toList=Lib.byteCells s.data.toList:=by
  rw[←hY,List.toList_toArray,Qx,Kg,List.drop_of_length_le (by rw[KL];omega),Qp]
 have hYs:Y.size=s.size:=by rw[←KL,hYl,Lib.byteCells_length,←Lib.size_eq]
 have hgY:((w.alloc (.cells M 5)).setRow w.heap.size Y).heap[w.heap.size]?=some (.cells Y 5 (0,0)):=setRow_heap _ _ M _ 5 (0,0) (heap_alloc_new w _)
 have hus:=Lib.run_unsafeString_row (P:=Tryz.prog) ((w.alloc (.cells M 5)).setRow w.heap.size Y) 385 3 9 5 Tryz.underlying385 hce w.heap.size Y.size (by unfold KY;rw[hgY]) s.data.toList (fun e=>h0 (by rw[Lib.size_eq,e];rfl)) (by rw[←Lib.size_eq];omega) (by rw[←Lib.size_eq];omega)
  (fun j x hx=>Lib.cells_of_row hgY Y.size j _ (by rw[KW (by rw[KL];exact Kk _),hYl];simp[Lib.byteCells,hx]))
 rw[←Lib.size_eq] at hus;clear hM hY
 go_enter Tryz.func284,Tryz.ntmps284
 go_wp2
 go_ret
 refine⟨rfl,Lib.below_freeze (((Below.refl _ w).alloc (Kk _) (.cells M 5)).trans ?_) (p:=⟨w.heap.size,0,none⟩) (Kk _) _,by unfold Qv;split<;>exact Kk _⟩;exact⟨rfl,rfl,rfl,Zm,fun k hk=>setRow_other _ _ _ _ or⟩
theorem bg{w w':World}(h:dU w w'){g:Nat}{v:Value}(hv:w.cell? ⟨g,0,none⟩=some v):w'.cell? ⟨g,0,none⟩=some v:=
 (h.1.cell (Lib.lt_of_cell hv)).trans hv
set_option maxRecDepth 100000 in
theorem zD(fn s:ByteArray)(w:World)(hlim:s.size≤4000)(ev:Value)(hv:w.cell? ⟨4,0,none⟩=some ev)(hev:ev= .nilIface∨∃te pe,ev= .iface te pe):
 Calls Tryz.prog 272 #[.string fn, .string s] w fun e w'=>∃a,e= .returned (.pointer (some a))∧dU w w':=by
 have mixed:Tryz.prog.follows .mixedOrders=true:=Zz;have e1:∀args w,(callFunc 284 args).run Tryz.prog w= .ok (.enter 284 args) w:=enters_of Tryz.func284 Zz rfl;rcases hev with rfl|⟨te,pe,rfl⟩;all_goals (
  have hvd:w.drew.cell? ⟨4,0,none⟩=some _:=hv
  go_enter Tryz.func272,Tryz.ntmps272
  go_wp2
  go_region_with_o (
   go_at_fn 284
   refine(dh s _ hlim).mono ?_;rintro e w2 ⟨rfl,hb⟩;have hv2:w2.cell? ⟨4,0,none⟩=some _:=bg hb hvd)
  all_goals (
   go_wp2
   go_ret
   exact⟨_,rfl,(Below.drew (Below.refl _ w)).trans hb.1 |>.alloc hb.1.size _,Qf (Ql _) hb.2⟩))
set_option maxRecDepth 100000 in
theorem fe(fn s:ByteArray)(w:World)(hlim:s.size≤4000)(ev:Value)(hv:w.cell? ⟨5,0,none⟩=some ev)(hev:ev= .nilIface∨∃te pe,ev= .iface te pe):
 Calls Tryz.prog 273 #[.string fn, .string s] w fun e w'=>∃a,e= .returned (.pointer (some a))∧dU w w':=by
 have mixed:Tryz.prog.follows .mixedOrders=true:=Zz;have e1:∀args w,(callFunc 284 args).run Tryz.prog w= .ok (.enter 284 args) w:=enters_of Tryz.func284 Zz rfl;rcases hev with rfl|⟨te,pe,rfl⟩;all_goals (
  have hvd:w.drew.cell? ⟨5,0,none⟩=some _:=hv
  go_enter Tryz.func273,Tryz.ntmps273
  go_wp2
  go_region_with_o (
   go_at_fn 284
   refine(dh s _ hlim).mono ?_;rintro e w2 ⟨rfl,hb⟩;have hv2:w2.cell? ⟨5,0,none⟩=some _:=bg hb hvd)
  all_goals (
   go_wp2
   go_ret
   exact⟨_,rfl,(Below.drew (Below.refl _ w)).trans hb.1 |>.alloc hb.1.size _,Qf (Ql _) hb.2⟩))
set_option maxRecDepth 100000 in
theorem oa(fn s:ByteArray)(b c:Int)(w:World)(hlim:s.size≤4000)(ev:Value)(hv:w.cell? ⟨4,0,none⟩=some ev)(hev:ev= .nilIface∨∃te pe,ev= .iface te pe):
 Calls Tryz.prog 259 #[.string fn, .string s, .int .i64 b, .int .i64 c, .iface 368 (.int .i64 2)] w fun e w'=>∃a,e= .returned (.iface 372 (.pointer (some a)))∧dU w w':=by
 have mixed:Tryz.prog.follows .mixedOrders=true:=Zz;have e1:∀args w,(callFunc 272 args).run Tryz.prog w= .ok (.enter 272 args) w:=enters_of Tryz.func272 Zz rfl;have heq:∀W,(binOp .eql 38 (.iface 368 (.int .i64 2)) (.iface 368 (.int .i64 2))).run Tryz.prog W= .ok (.bool true) W:=fun W=>Lib.run_eql_iface_int (P:=Tryz.prog) W 2 2 dw.t75 dw.c167 dw.t167
 go_enter Tryz.func259,Tryz.ntmps259
 go_wp2_with (go_at_fn 272;refine(zD fn s _ hlim ev ?_ hev).mono ?_)
 ·exact hv
 rintro e w2 ⟨a,rfl,hb⟩
 go_wp2
 go_ret
 exact⟨a,rfl,hb⟩
set_option maxRecDepth 100000 in
theorem oc(fn s:ByteArray)(b c:Int)(w:World)(hlim:s.size≤4000)(ev:Value)(hv:w.cell? ⟨5,0,none⟩=some ev)(hev:ev= .nilIface∨∃te pe,ev= .iface te pe):
 Calls Tryz.prog 259 #[.string fn, .string s, .int .i64 b, .int .i64 c, .iface 368 (.int .i64 1)] w fun e w'=>∃a,e= .returned (.iface 372 (.pointer (some a)))∧dU w w':=by
 have mixed:Tryz.prog.follows .mixedOrders=true:=Zz;have e1:∀args w,(callFunc 273 args).run Tryz.prog w= .ok (.enter 273 args) w:=enters_of Tryz.func273 Zz rfl;have heq:∀W,(binOp .eql 38 (.iface 368 (.int .i64 1)) (.iface 368 (.int .i64 1))).run Tryz.prog W= .ok (.bool true) W:=fun W=>Lib.run_eql_iface_int (P:=Tryz.prog) W 1 1 dw.t75 dw.c167 dw.t167;have heq2:∀W,(binOp .eql 38 (.iface 368 (.int .i64 1)) (.iface 368 (.int .i64 2))).run Tryz.prog W= .ok (.bool false) W:=fun W=>Lib.run_eql_iface_int (P:=Tryz.prog) W 1 2 dw.t75 dw.c167 dw.t167
 go_enter Tryz.func259,Tryz.ntmps259
 go_wp2_with (go_at_fn 273;refine(fe fn s _ hlim ev ?_ hev).mono ?_)
 ·exact hv
 rintro e w2 ⟨a,rfl,hb⟩
 go_wp2
 go_ret
 exact⟨a,rfl,hb⟩
theorem wg(w:World)(e:TypeId)(t:ByteArray):dU w (Lib.bytesWorld w e t):=
 ⟨Lib.bytesWorld_below _ _ _,by unfold Lib.bytesWorld Qv;split<;>exact Ql _⟩
def sa:Lib.NumEnd Int→V
 | .ok _=> .nilIface
 | .range=> .iface 368 (.int .i64 1)
 |_=> .iface 368 (.int .i64 2)
def zb(sat:Int):Lib.NumEnd Int→Int
 | .ok n=>n
 | .range=>sat
 |_=>0
theorem w6(s:ByteArray)(hs:s.size≤4000)(h:Hp):aL Tryz.prog 258 [.str s] h (.tup [.int .i64 (zb (Lib.atoiSat s.data.toList) (Lib.atoiAll s.data.toList)),sa (Lib.atoiAll s.data.toList)]):=by
 refine nI ?_ Zz (fun K cargs _ hv=>?_) h
 ·exact fun L=>⟨trivial,by unfold sa;split<;>trivial,trivial⟩
 obtain⟨x,rfl,v1⟩:=xr hv;cases v1;have c:=Any.internal_strconv_Atoi_all (P:=Tryz.prog) (ρ:=du) {dw with} s or K.w;refine Calls.mono (show Calls Tryz.prog 258 #[.string s] K.w _ from c) ?_;rintro e w' ⟨rfl,hw⟩;refine⟨_,rfl,fun K=>?_,?_⟩
 ·have two:∀(a b:V) (x y:Value),VR K a x→VR K b y→VR K (.tup [a,b]) (.tuple #[x,y]):=fun a b x y h1 h2=> .tup [a,b] #[x,y] rfl fun i hi=>by
   have:i=0∨i=1:=by simp at hi;omega
   rcases this with rfl|rfl
   ·exact h1
   exact h2
  cases Lib.atoiAll s.data.toList with
  |ok n=>exact two _ _ _ _ (.int _ _) .nilIface
  |range=>exact two _ _ _ _ (.int _ _) (.iface _ _ _ (.int _ _))
  |_=>exact two _ _ _ _ (.int _ _) (.iface _ _ _ (.int _ _))
 rcases hw with rfl|⟨t,rfl⟩
 ·exact dU.refl _
 exact wg _ _ _
theorem tr(fn s:ByteArray)(hs:s.size≤4000)(c:Int)(hc:c=1∨c=2)(h:Hp):aL Tryz.prog 259 [.str fn, .str s, .int .i64 0, .int .i64 0, .iface 368 (.int .i64 c)] h (.iface 372 .top):=by
 refine nI ?_ Zz (fun K cargs hf hv=>?_) h
 ·exact fun L=>trivial
 have hca:cargs=#[.string fn, .string s, .int .i64 0, .int .i64 0, .iface 368 (.int .i64 c)]:=by
  obtain⟨hz,hv⟩:=hv;have hz:cargs.size=5:=by simpa using hz.symm
  obtain⟨l⟩:=cargs;match l,hz with
  | [x0,x1,x2,x3,x4],_=>
   have v0:VR K (.str fn) x0:=hv 0 Zm;have v1:VR K (.str s) x1:=hv 1 Zm;have v2:VR K (.int .i64 0) x2:=hv 2 Zm;have v3:VR K (.int .i64 0) x3:=hv 3 Zm;have v4:VR K (.iface 368 (.int .i64 c)) x4:=hv 4 Zm;cases v0;cases v1;cases v2;cases v3;cases v4 with
   |iface _ _ _ v5=>cases v5;rfl
 subst hca;rcases hc with rfl|rfl
 ·obtain⟨_,ev,h2,h3⟩:=hf.gi 5 ZM;refine(oc fn s 0 0 K.w hs ev h2 h3).mono ?_;rintro e w' ⟨a,rfl,hb⟩;exact⟨_,rfl,fun K=> .iface _ _ _ (.top _),hb⟩
 obtain⟨_,ev,h2,h3⟩:=hf.gi 4 ZM;refine(oa fn s 0 0 K.w hs ev h2 h3).mono ?_;rintro e w' ⟨a,rfl,hb⟩;exact⟨_,rfl,fun K=> .iface _ _ _ (.top _),hb⟩
theorem EU{K:Ker}(hf:gZ K):Lib.TabIs Tryz.prog K.w "internal/strconv.uint64pow10" .u64 Lib.pow10Tab:=by
 obtain⟨h1,⟨T,h2⟩,h3⟩:=hf.gt 7 ((KU 20).map fun i=>Value.int .u64 ((10 ^ i:Nat):Int)) (by unfold GT;repeat (first|exact List.mem_cons_self .. |refine List.mem_cons_of_mem _ ?_));unfold Lib.TabIs World.var?;rw[show Tryz.prog.globalNamed "internal/strconv.uint64pow10" =some 7 by kernel_rfl,Option.bind_some]
 unfold KY at h2;split at h2
 ·rename_i c e fr hh;injection h2 with h2;injection h2 with h2 h4;simp only[hh];congr 1;apply Qh
  ·rw[h4];simp[Lib.pow10Tab]
  intro i hi1 hi2;have:=h3 i (by rw[←h4];exact hi1);simp only[Qb,hh] at this;have hi3:i<20:=by rw[h4] at hi1;simpa using hi1
  simp only[Qe,Ks,if_false,Ky hi1,Kb,KO,List.getElem?_range hi3,Qq,KR,Option.some.injEq] at this;rw[this];simp[Lib.pow10Tab]
 cases h2
theorem AJ(n:Int)(h0:-9223372036854775808≤n)(h1:n≤9223372036854775807)(h:Hp):aL Tryz.prog 269 [.int .i64 n] h (.str ⟨(Lib.itoa n).toArray⟩):=by
 refine nI ?_ Zz (fun K cargs hf hv=>?_) h
 ·exact fun L=>trivial
 obtain⟨x,rfl,v1⟩:=xr hv;cases v1;have c:=Any.strconv_Itoa (P:=Tryz.prog) (ρ:=qs) itoa n h0 h1 K.w (EU hf);refine Calls.mono (show Calls Tryz.prog 269 #[.int .i64 n] K.w _ from c) ?_;rintro e w' ⟨rfl,k,os,rfl⟩;exact⟨_,rfl,fun K=> .str _,⟨Lib.below_grow _ _ (Kk _) k os,Nat.le_add_right _ _⟩⟩
end Go.Proofs.YtlhedpgobaellaaGreatDoor
namespace Go.Proofs.YtlhedpgobaellaaGreatDoor
open Go.RowKit Go.Sort
attribute [local irreducible] Kt
theorem ub(c:Nat)(h:Hp):aL Tryz.prog 266 [.int .u8 c] h (.bool (dM c)):=by
 refine aI (fun L=>trivial) fun h' nx hh=>aB L.aTk fun hd=>?_;refine ZK ?_;unfold dM;cases h1:decide ((97:Int)≤c)<;>cases h2:decide ((c:Int)≤122)<;>
  (refine aue (e2 h1 h2) ?_
   refine aC h' (leo hd) ⟨?_,rfl⟩;simp only[decide_eq_true_eq,decide_eq_false_iff_not] at h1 h2;refine vb ?_;simp;try omega)
theorem bt(c:Nat)(h:Hp):aL Tryz.prog 267 [.int .u8 c] h (.bool (gP c)):=by
 refine aI (fun L=>trivial) fun h' nx hh=>aB L.aTj fun hd=>?_;refine ZK ?_;unfold gP;cases h1:decide ((65:Int)≤c)<;>cases h2:decide ((c:Int)≤90)<;>
  (refine aue (e2 h1 h2) ?_
   refine aC h' (leo hd) ⟨?_,rfl⟩;simp only[decide_eq_true_eq,decide_eq_false_iff_not] at h1 h2;refine vb ?_;simp;try omega)
theorem ri(c:Nat)(h:Hp):aL Tryz.prog 268 [.int .u8 c] h (.bool (wa c)):=by
 refine aI (fun L=>trivial) fun h' nx hh=>aB L.aTi fun hd=>?_;refine ZK ?_;unfold wa;cases h1:decide ((48:Int)≤c)<;>cases h2:decide ((c:Int)≤57)<;>
  (refine aue (e2 h1 h2) ?_
   refine aC h' (leo hd) ⟨?_,rfl⟩;simp only[decide_eq_true_eq,decide_eq_false_iff_not] at h1 h2;refine vb ?_;simp;try omega)
theorem run_pure(s:ByteArray)(hl:s.size≤4000)(h:Hp):aL Tryz.prog 255 [.str s] h (.int .i64 (nX s)):=by
 refine aI (fun L=>trivial) fun h' nx hh=>aB L.aTo fun hd=>?_;refine ZK ?_;refine au ?_;refine aP (fun i:Nat=>aD 35 0 [(0, .str s),(3, .int .i64 i)]) (fun i hp nx1=>i≤s.size∧hp=h'∧∀j,j<i→kN (byt s j)=true) (fun i=>s.size-i) 0 ⟨Ko _,rfl,fun j hj=>absurd hj or⟩ (by simp only[WkL,aD,jH,jI,jJ,go_sem,reduceIte,jA,jB,jC,jD,reduceCtorEq,jE,jF]) ?_;rintro i hp nx1 ⟨hi,rfl,aC3⟩;generalize hQ:bB _ _ _ _ _=Q0;refine Zk ?_;have aAh:∀(b:Bool),i=s.size∨kN (byt s i)=false→nX s=i:=fun _ k=>sV (Ko _) hi (fun j _ hj=>aC3 j hj) k;rcases Ku i s.size with hlt|hge
 ·have hc:decide ((i:Int)<(s.size:Int))=true:=dct;have hb:(s.data.toList.getD i 0).toNat=byt s i:=rfl;obtain⟨c,hcq⟩:∃c,byt s i=c:=⟨_,rfl⟩;rw[hcq] at aAh;have C1:=fun h=>ub c h;have C2:=fun h=>bt c h;have C3:=fun h=>ri c h;have hw:IntKind.i64.wrap ((i:Int)+1)=((i+1:Nat):Int):=wrp;have h95:((c:Int)==95)=decide (c=95):=by by_cases e:c=95<;>simp[e]<;>omega
  have hin:kN c=true→∀j,j<i+1→kN (byt s j)=true:=fun k j hj=>by
   by_cases e:j=i
   ·subst e;rw[hcq];exact k
   exact aC3 j or
  cases k1:dM c<;>cases k2:gP c<;>cases k3:wa c<;>cases k4:decide (c=95);all_goals rw[k1] at C1
  all_goals rw[k2] at C2
  all_goals rw[k3] at C3
  all_goals refine aue (e6 hc hb hcq hw (h95.trans k4) hlt) ?_
  all_goals
   first
    |(rw[←hQ]
      refine aG (i+1) or ⟨or,rfl,hin (by simp[kN,k1,k2,k3,k4])⟩ (by simp only[WkL,aD,jH,jI,jJ,go_sem,reduceIte,jA,jB,jC,jD,reduceCtorEq,jE,jF]))
    |(rw[←hQ]
      refine aue hlt ?_;exact aC hp (leo hd) ⟨by rw[aAh true (.inr (by simp[kN,k1,k2,k3,k4]))]<;>rfl,rfl⟩)
 have hc:decide ((i:Int)<(s.size:Int))=false:=dcf;refine aue hc ?_;rw[←hQ];refine au ?_;exact aC hp (leo hd) ⟨by rw[aAh true (.inl or)]<;>rfl,rfl⟩
theorem Cp{s:ByteArray}{i:Nat}(h:i≤s.size):gV (s.extract i s.size)=kP (fun c=>decide (c≠10)) s i-i:=by
 obtain⟨a,b,c,d⟩:=nE (fun c=>decide (c≠10)) s i h;have hsz:=eZ s i s.size;refine sV (Ko _) or (fun k _ hk=>?_) ?_
 ·rw[ze or (Kk _)];exact c _ or or
 rcases d with d|d
 ·left;omega
 by_cases e:kP (fun c=>decide (c≠10)) s i=s.size
 ·left;omega
 right;rw[ze or (Kk _),show i+(kP (fun c=>decide (c≠10)) s i-i)=kP (fun c=>decide (c≠10)) s i by omega];exact d
theorem g9(s:ByteArray)(hl:s.size≤4000)(i0:Nat)(hi0:i0≤s.size)(h:Hp):aL Tryz.prog 240 [.str s, .int .i64 i0] h (.int .i64 (cG s i0)):=by
 refine aI (fun L=>trivial) fun h' nx hh=>aB L.aT5 fun hd=>?_;refine ZK ?_;refine au ?_;refine aP (fun i:Nat=>aD 39 0 [(0, .str s),(1, .int .i64 i)]) (fun i hp nx1=>i≤s.size∧hp=h'∧cG s i0=cG s i) (fun i=>s.size-i) i0 ⟨hi0,rfl,rfl⟩ (by simp only[WkL,aD,jH,jI,jJ,go_sem,reduceIte,jA,jB,jC,jD,reduceCtorEq,jE,jF]) ?_;rintro i hp nx1 ⟨hi,rfl,hsk⟩;generalize hQ:bB _ _ _ _ _=Q0;refine Zk ?_;rcases Ku i s.size with hlt|hge
 ·have hc:decide ((i:Int)<(s.size:Int))=true:=dct;have hb:(s.data.toList.getD i 0).toNat=byt s i:=rfl;have aOt:byt s i<256:=by unfold byt;exact UInt8.toNat_lt _
  have hbl:=Be (byt s i) aOt;have C1:=fun h=>bq ⟨#[9,10,13,32]⟩ (byt s i) h;cases k1:qB (byt s i) with
  |true=>
   rw[k1] at hbl;have hw:IntKind.i64.wrap ((i:Int)+1)=((i+1:Nat):Int):=wrp;refine aue (e5 hc hb hw hbl hlt) ?_;rw[←hQ];exact aG (i+1) or ⟨or,rfl,hsk.trans (o8 hlt k1)⟩ (by simp only[WkL,aD,jH,jI,jJ,go_sem,reduceIte,jA,jB,jC,jD,reduceCtorEq,jE,jF])
  |false=>
   rw[k1] at hbl;by_cases k2:byt s i=37
   ·have h37:((byt s i:Int)==37)=true:=bqt;have hlen:=yH hlt k2;have aWJ:=Cp (Nat.le_of_lt hlt);obtain⟨a,b,aO8⟩:=Fl (s.extract i s.size) (by rw[eZ];omega) Hp.none;have C2:=fun h=>aO8.mono (bA h);rw[aWJ] at C2;have hsz:((s.extract i s.size).extract 0 (kP (fun c=>decide (c≠10)) s i-i)).size=kP (fun c=>decide (c≠10)) s i-i:=by rw[eZ,eZ];omega
    have hw:IntKind.i64.wrap ((i:Int)+((kP (fun c=>decide (c≠10)) s i-i:Nat):Int))=((kP (fun c=>decide (c≠10)) s i:Nat):Int):=wrp;refine aue (e8 hc hb h37 hw hbl hlt hsz (jG i)) ?_;rw[←hQ];exact aG (kP (fun c=>decide (c≠10)) s i) or ⟨or,rfl,hsk.trans (uc hlt k1 k2)⟩ (by simp only[WkL,aD,jH,jI,jJ,go_sem,reduceIte,jA,jB,jC,jD,reduceCtorEq,jE,jF])
   have h37:((byt s i:Int)==37)=false:=bqf;refine aue (e5 hc hb h37 hbl hlt) ?_;rw[←hQ];refine au ?_;exact aC hp (leo hd) ⟨by rw[hsk,zG hlt k1 k2]<;>rfl,rfl⟩
 have hc:decide ((i:Int)<(s.size:Int))=false:=dcf;refine aue hc ?_;rw[←hQ];refine au ?_;exact aC hp (leo hd) ⟨by rw[hsk,qG hge]<;>rfl,rfl⟩
end Go.Proofs.YtlhedpgobaellaaGreatDoor
namespace Go.Proofs.YtlhedpgobaellaaGreatDoor
open Go.RowKit
theorem bw{K:Ker}{h:Hp}(hr:Rel K h){n a:Nat}{k:Sh}{es:List V}{off len:Nat}{cv:Value}(hn:h n=some (.arr k es))(ha:¬K.live a)(hb0:off+len≤es.length)(hv:VR K (.rs n k off len) cv):
 ∃K',K'.w=K.w∧K.le K'∧(∀m,K'.live m→K.live m∨m=a)∧VR K' (.sl k .free ((es.drop off).take len)) cv∧Rel K' (h.del n):=by
 have hb:=hr.blk n _ hn;cases hb with
 |arr _ _ c T hh hcs himm hfit hcv=>
  cases hv with
  |rs _ _ _ _ cap hl hcap hm=>
   obtain⟨T',m,hm1,hm2⟩:=hm;have hcm:m=c.size:=by simp[KY,hh] at hm1;exact hm1.2.symm
   subst hcm;have hblk:K.mu n<K.w.heap.size:=by
    rcases Ku (K.mu n) K.w.heap.size with hlt|hge
    ·exact hlt
    rw[KX hge] at hh;exact absurd hh Zm
   have hle:K.le (K.aAG a (K.mu n) (es.length*k.size)):=K.aAR ha (by rw[himm];exact Ko _);have hmu:(K.aAG a (K.mu n) (es.length*k.size)).mu a=K.mu n:=by simp[Ker.aAG]
   have hrel:Rel (K.aAG a (K.mu n) (es.length*k.size)) ((h.del n).set a .tip):=hr.aAG hn ha (by rw[himm];exact Ko _) (.tip c T (by rw[hmu];exact hh) (by simp[Ker.aAG]) (by simp only[Ker.aAG,if_true];exact hcs));have hlen:((es.drop off).take len).length=len:=by simp;omega
   have hsz:(off+len)*k.size≤es.length*k.size:=Nat.mul_le_mul_right _ hb0;rw[QF] at hsz;have hget:∀i,i<len→((es.drop off).take len).getD i Ka=es.getD (off+i) Ka:=fun i hi=>by
    rw[Kb,Kb,List.getElem?_take_of_lt hi,List.getElem?_drop]
   refine⟨K.aAG a (K.mu n) (es.length*k.size),rfl,hle,fun m hm=>hm.symm,?_,hrel.weaken fun m b e=>?_⟩
   ·have:=VR.sl (K:=K.aAG a (K.mu n) (es.length*k.size)) k .free ((es.drop off).take len) (K.mu n) (off*k.size) cap (fun j=>c.getD (off*k.size+j) QE) hblk (fun e he=>hfit e (List.mem_of_mem_drop (Qc he)))
     (fun j hj=>by
       rw[hlen] at hj;show K.w.cell? _=_;simp only[Qb,hh];rw[KM,Ky or];rfl)
     (fun j hj=> .inr (by rw[hlen] at hj;simp only[Ker.aAG,if_true];omega))
     (fun i hi j hj=>by
       rw[hlen] at hi;rw[hget i hi];have:=(hcv (off+i) or j hj).mono hle;rwa [QF,Nat.add_assoc] at this) (by rw[hlen];exact hcap) Zm Zm
     (fun m hm=>by cases hm)
    rw[hlen] at this;exact this
   unfold Hp.del at e;unfold Hp.set Hp.del;by_cases e1:m=n
   ·rw[if_pos e1] at e;cases e
   rw[if_neg e1] at e;have hma:m≠a:=fun e2=>ha (e2▸hr.lt m b e);rw[if_neg hma,if_neg e1];exact e
def FU(k:Sh)(m:Nat)(l:List V):V:=if l.isEmpty=true then .sl k .nil [] else .rs m k 0 l.length
structure Gg(h:Hp)(O:Nat)(k:Sh)(ν:Nat→Nat)(ls:List (List V))(j:Nat)(es:List V):Prop where
 blk:h O=some (.arr .leaf es)
 len:es.length=ls.length
 old:∀i (hi:i<ls.length) (hi':i<es.length),i<j→es[i]=lst k ls[i]
 new:∀i (hi:i<ls.length) (hi':i<es.length),j≤i→es[i]=FU k (ν i) ls[i]
 mem:∀i (hi:i<ls.length),j≤i→ls[i]≠ []→h (ν i)=some (.arr k ls[i])∧ν i≠O
 apart:∀i i' (hi:i<ls.length) (hi':i'<ls.length),j≤i→i<i'→ls[i]≠ []→ls[i']≠ []→ν i≠ν i'
def V.aAs:V→V
 | .tup vs=> .tup (vs.map V.loose)
 |v=>v.loose
theorem VR.aAs{K:Ker}{v:V}{cv:Value}(r:VR K v cv):VR K v.aAs cv:=by
 cases v with
 |tup vs=>
  cases r with
  |tup _ ccs hl hv=>
   refine .tup _ ccs (by simpa using hl) fun i hi=>?_;have hi':i<vs.length:=by simpa using hi
   have:=hv i hi';simp only[Kb,KO,KQ hi',Qq,KR] at this⊢;exact this.loose
 |_=>exact r.loose
theorem aR.aUi{P:Program}{f:FuncId}{args:List V}{h:Hp}{nx:Nat}{R R':V→Hp→Nat→Prop}(c:aR P f args h nx R)(hc:∀v h' nx',nx≤nx'→aV h' nx'→R v h' nx'→∃h2,h2.le h'∧R' v.aAs h2 nx'):aR P f args h nx R':=by
 refine⟨c.1,fun K cargs hl hr hv=>(c.2 K cargs hl hr hv).mono ?_⟩;rintro e w' ⟨K',v,cv,h',nx',rfl,he,hle,hvr,hrel,hlv,hnx,hR⟩;obtain⟨h2,q1,q2⟩:=hc v h' nx' hnx (fun m b hm=>(hlv m (hrel.lt m b hm)).1) hR;exact⟨K',v.aAs,cv,h2,nx',rfl,he,hle,hvr.aAs,hrel.weaken q1,hlv,hnx,q2⟩
theorem lL{P:Program}{f:FuncId}{args:List V}{h:Hp}{v:V}(hv:∀L,v.names L)(hc:∀h' nx,h.has h'→aR P f args h' nx fun v' h'' _=>v'.aAs=v∧h'.le h''):aL P f args h v:=
 aI hv fun h' nx hh=>(hc h' nx hh).aUi fun v' h'' nx' _ _ hq=>⟨h',hq.2,hq.1,rfl⟩
end Go.Proofs.YtlhedpgobaellaaGreatDoor
namespace Go.Proofs.YtlhedpgobaellaaGreatDoor
open Go.RowKit Go.Sort
attribute [local irreducible] Kt
theorem qy(own:Own)(l:List ByteArray)(hl:l.length≤1000000000)(x:ByteArray)(h:Hp):aL Tryz.prog 125 [.sl .leaf own (l.map V.str), .str x] h (.int .i64 (bG (fun y=>decide (x=y)) l)):=by
 refine aI (fun L=>trivial) fun h' nx hh=>aB L.aRT fun hd=>?_;simp only[Ke,Kj,Kh,Ki,Kc,Kd,Kf,Kg,Ka];refine aue trivial ?_;refine aP (fun i:Nat=>aD 19 0 [(0, .sl .leaf own (l.map V.str)),(1, .str x),(7, .int .i64 l.length),(8, .int .i64 i)]) (fun i hp nx1=>i≤l.length∧hp=h'∧∀y∈l.take i,decide (x=y)=false) (fun i=>l.length-i) 0 ⟨Ko _,rfl,Zm⟩ (by simp only[WkL,aD,Qr,Qt,Qm,go_sem,reduceIte,Kh,Ki,KV,KG,reduceCtorEq,KH,KK]) ?_;rintro i hp nx1 ⟨hi,rfl,hno⟩;generalize hQ:bB _ _ _ _ _=Q0;simp only[aD,go_sem,reduceIte,Kh,Ki,KV,KG,reduceCtorEq,KH,KK];rcases Ku i l.length with hlt|hge
 ·have hc:decide ((i:Int)<(l.length:Int))=true:=dct;have hg:=aO V.str l i hlt;have hw:IntKind.i64.wrap ((i:Int)+1)=((i+1:Nat):Int):=wrp;have hbe:=dS x l[i];cases k:decide (x=l[i]) with
  |true=>
   rw[k] at hbe;refine aue (e5 hc hg hbe hlt (KD i)) ?_;rw[←hQ];refine au ?_;have:l.findIdx? (fun y=>decide (x=y))=some i:=by
    rw[List.findIdx?_eq_some_iff_getElem];refine⟨hlt,k,fun j hj=>?_⟩;have:=hno l[j] (KP.2 ⟨j,or,rfl⟩);simp[this]
   exact aC hp (leo hd) ⟨by simp only[bG,this];rfl,rfl⟩
  |false=>
   rw[k] at hbe;refine aue (e6 hc hg hbe hlt (KD i) hw) ?_;rw[←hQ];refine aG (i+1) or ⟨or,rfl,fun y hy=>?_⟩ (by simp only[WkL,aD,Qr,Qt,Qm,go_sem,reduceIte,Kh,Ki,KV,KG,reduceCtorEq,KH,KK]);rw[KE hlt,Kq,KA] at hy;rcases hy with hy|rfl
   ·exact hno y hy
   exact k
 have hc:decide ((i:Int)<(l.length:Int))=false:=dcf;refine aue hc ?_;rw[←hQ];refine au ?_;have hi':i=l.length:=or;rw[hi',KS] at hno;have:l.findIdx? (fun y=>decide (x=y))=none:=by
  rw[List.findIdx?_eq_none_iff];exact fun y hy=>hno y hy
 exact aC hp (leo hd) ⟨by simp only[bG,this];rfl,rfl⟩
theorem pX(own:Own)(l:List ByteArray)(hl:l.length≤1000000000)(x:ByteArray)(h:Hp):aL Tryz.prog 76 [.sl .leaf own (l.map V.str), .str x] h (.bool (l.any fun y=>decide (x=y))):=by
 refine aI (fun L=>trivial) fun h' nx hh=>aB L.aVM fun hd=>?_;simp only[Ke,Kj,Kh,Ki,Kc,Kd,Kf,Kg,Ka];have C1:=fun h=>qy own l hl x h;refine au ?_;exact aC h' (leo hd) ⟨by rw[←mK];rfl,rfl⟩
theorem Cs(w:ByteArray):(qo.any fun y=>decide (w=y))=vn w:=by
 rw[KJ,qp,List.any_eq_true];exact⟨fun⟨y,h1,h2⟩=>by rw[of_decide_eq_true h2];exact h1,fun h=>⟨w,h,decide_eq_true rfl⟩⟩
theorem Bg(s:ByteArray)(hs:s.size≤4000):∃n e,aL Tryz.prog 242 [.str s] Hp.none (.tup [.int .i64 n,e])∧-9223372036854775808≤n∧n≤9223372036854775807∧(e= .nilIface∨∃T,e= .iface T .top):=by
 have C1:=fun h=>w6 s hs h;have C2:=fun c hc h=>tr ⟨#[65,116,111,105]⟩ s hs c hc h;cases k:Lib.atoiAll s.data.toList with
 |ok v=>
  obtain⟨b1,b2⟩:=Lib.atoiAll_bounds k;rw[k] at C1;simp only[zb,sa] at C1;refine⟨v, .nilIface,aI (fun L=>⟨trivial,trivial,trivial⟩) fun h' nx hh=>aB L.aD3 fun hd=>?_,or,or, .inl rfl⟩;simp only[Ke,Kj,Kh,Ki,Kc,Kd,Kf,Kg,Ka];refine au ?_;exact aN h' (leo hd) ⟨rfl,rfl⟩
 |range=>
  rw[k] at C1;simp only[zb,sa] at C1;have aUv:-9223372036854775808≤Lib.atoiSat s.data.toList∧Lib.atoiSat s.data.toList≤9223372036854775807:=by unfold Lib.atoiSat;split<;>omega
  refine⟨Lib.atoiSat s.data.toList, .iface 372 .top,aI (fun L=>⟨trivial,trivial,trivial⟩) fun h' nx hh=>aB L.aD3 fun hd=>?_,aUv.1,aUv.2, .inr ⟨_,rfl⟩⟩;simp only[Ke,Kj,Kh,Ki,Kc,Kd,Kf,Kg,Ka];have C2:=C2 1 (.inl rfl);refine au ?_;exact aN h' (leo hd) ⟨rfl,rfl⟩
 |_=>
  rw[k] at C1;simp only[zb,sa] at C1;refine⟨0, .iface 372 .top,aI (fun L=>⟨trivial,trivial,trivial⟩) fun h' nx hh=>aB L.aD3 fun hd=>?_,or,or, .inr ⟨_,rfl⟩⟩;simp only[Ke,Kj,Kh,Ki,Kc,Kd,Kf,Kg,Ka];have C2:=C2 2 (.inr rfl);refine au ?_;exact aN h' (leo hd) ⟨rfl,rfl⟩
noncomputable def iH(w:ByteArray):Int:=@ite _ (aL Tryz.prog 256 [.str w] Hp.none (.int .i64 4)) (Classical.propDecidable _) 4 0
theorem yf(w:ByteArray):iH w=0∨iH w=4:=by
 unfold iH;split
 ·exact .inr rfl
 exact .inl rfl
theorem zl(w:ByteArray)(h1:1≤w.size)(h2:w.size≤4000)(h:Hp):aL Tryz.prog 256 [.str w] h (.int .i64 (iA iH w)):=by
 have aV4:(vn w=false→iJ w=false→¬(gP (byt w 0)=true∧w.size≤32)→∀k:Int,(k=4∨k=0)→aL Tryz.prog 256 [.str w] Hp.none (.int .i64 k)→aL Tryz.prog 256 [.str w] h (.int .i64 (iA iH w))):=by
  intro g1 g2 g3 k hk hp;have:iA iH w=iH w:=by unfold iA;rw[if_neg (by simp[g1]),if_neg (by simp[g2]),if_neg g3]
  rw[this];unfold iH;split
  ·rename_i q;exact q.mono (bA h)
  rename_i q;rcases hk with rfl|rfl
  ·exact absurd hp q
  exact hp.mono (bA h)
 have C1:=fun h=>pX .free qo ZM w h;rw[Cs] at C1;have C2:=fun h=>iy w h;cases k1:vn w with
 |true=>
  rw[k1] at C1;refine aI (fun L=>trivial) fun h' nx hh=>aB L.aCK fun hd=>?_;simp only[Ke,Kj,Kh,Ki,Kc,Kd,Kf,Kg,Ka];refine au ?_;exact aC h' (leo hd) ⟨by unfold iA;rw[if_pos k1]<;>rfl,rfl⟩
 |false=>
  rw[k1] at C1;cases k2:iJ w with
  |true=>
   rw[k2] at C2;refine aI (fun L=>trivial) fun h' nx hh=>aB L.aCK fun hd=>?_;simp only[Ke,Kj,Kh,Ki,Kc,Kd,Kf,Kg,Ka];refine au ?_;exact aC h' (leo hd) ⟨by unfold iA;rw[if_neg (by simp[k1]),if_pos k2]<;>rfl,rfl⟩
  |false=>
   rw[k2] at C2;have hb:(w.data.toList.getD 0 0).toNat=byt w 0:=rfl;have C3:=fun h=>bt (byt w 0) h;by_cases k3:gP (byt w 0)=true∧w.size≤32
   ·rw[k3.1] at C3;have g1:decide ((w.size:Int)≤32)=true:=dct;have g2:0<w.size:=h1;refine aI (fun L=>trivial) fun h' nx hh=>aB L.aCK fun hd=>?_;simp only[Ke,Kj,Kh,Ki,Kc,Kd,Kf,Kg,Ka];refine aue (e3 hb g1 g2) ?_;exact aC h' (leo hd) ⟨by unfold iA;rw[if_neg (by simp[k1]),if_neg (by simp[k2]),if_pos k3]<;>rfl,rfl⟩
   obtain⟨n,e,hA,hn1,hn2,he⟩:=Bg w h2;have C4:=fun h=>hA.mono (bA h);have g2:0<w.size:=h1;have aDm:∀k:Int,k=4∨k=0→(∀h,aL Tryz.prog 256 [.str w] h (.int .i64 k))→aL Tryz.prog 256 [.str w] h (.int .i64 (iA iH w)):=fun k hk hp=>aV4 k1 k2 k3 k hk (hp Hp.none);have hgr:∃g,gP (byt w 0)=g∧(g=true→decide ((w.size:Int)≤32)=false):=⟨_,rfl,fun g=>dcf (by intro q;exact k3 ⟨g,or⟩)⟩;obtain⟨g,g3,g4⟩:=hgr;rw[g3] at C3;rcases he with rfl|⟨T,rfl⟩
   ·by_cases k5:n≤2147483647
    ·have g5:decide (n≤2147483647)=true:=dct;have C5:=AJ n hn1 hn2;have hbe:=dS ⟨(Lib.itoa n).toArray⟩ w;cases k6:decide ((⟨(Lib.itoa n).toArray⟩:ByteArray)=w) with
     |true=>
      rw[k6] at hbe;refine aDm 4 (.inl rfl) fun h=>aI (fun L=>trivial) fun h' nx hh=>aB L.aCK fun hd=>?_;simp only[Ke,Kj,Kh,Ki,Kc,Kd,Kf,Kg,Ka];have C5:=C5 h';cases g with
      |false=>
       refine aue (e4 hb g5 g2 hbe) ?_;exact aC h' (leo hd) ⟨rfl,rfl⟩
      |true=>
       have g4:=g4 rfl;refine aue (e5 hb g5 g2 hbe g4) ?_;exact aC h' (leo hd) ⟨rfl,rfl⟩
     |false=>
      rw[k6] at hbe;refine aDm 0 (.inr rfl) fun h=>aI (fun L=>trivial) fun h' nx hh=>aB L.aCK fun hd=>?_;simp only[Ke,Kj,Kh,Ki,Kc,Kd,Kf,Kg,Ka];have C5:=C5 h';cases g with
      |false=>
       refine aue (e4 hb g5 g2 hbe) ?_;exact aC h' (leo hd) ⟨rfl,rfl⟩
      |true=>
       have g4:=g4 rfl;refine aue (e5 hb g5 g2 hbe g4) ?_;exact aC h' (leo hd) ⟨rfl,rfl⟩
    have g5:decide (n≤2147483647)=false:=dcf;refine aDm 0 (.inr rfl) fun h=>aI (fun L=>trivial) fun h' nx hh=>aB L.aCK fun hd=>?_;simp only[Ke,Kj,Kh,Ki,Kc,Kd,Kf,Kg,Ka];cases g with
    |false=>
     refine aue (e3 hb g5 g2) ?_;exact aC h' (leo hd) ⟨rfl,rfl⟩
    |true=>
     have g4:=g4 rfl;refine aue (e4 hb g5 g2 g4) ?_;exact aC h' (leo hd) ⟨rfl,rfl⟩
   refine aDm 0 (.inr rfl) fun h=>aI (fun L=>trivial) fun h' nx hh=>aB L.aCK fun hd=>?_;simp only[Ke,Kj,Kh,Ki,Kc,Kd,Kf,Kg,Ka];cases g with
   |false=>
    refine aue (e2 hb g2) ?_;exact aC h' (leo hd) ⟨rfl,rfl⟩
   |true=>
    have g4:=g4 rfl;refine aue (e3 hb g2 g4) ?_;exact aC h' (leo hd) ⟨rfl,rfl⟩
end Go.Proofs.YtlhedpgobaellaaGreatDoor
namespace Go.Proofs.YtlhedpgobaellaaGreatDoor
open Go.RowKit Go.Sort
attribute [local irreducible] Kt
theorem DE(r t:ByteArray):sD r t=(decide (t.size≤r.size)&&decide (r.extract 0 t.size=t)):=by
 have e:(r.extract 0 t.size).data.toList=r.data.toList.take t.size:=by
  rw[ByteArray.data_extract,Array.toList_extract];simp[List.extract]
 have hl:t.data.toList.length=t.size:=Zm;rw[KJ,sD,List.isPrefixOf_iff_prefix,Qk,decide_eq_true_eq,decide_eq_true_eq,List.prefix_iff_eq_take,hl];constructor
 ·intro h;refine⟨?_,ByteArray.ext (Array.toList_inj.1 (by rw[e,←h]))⟩;have:=congrArg List.length h;rw[List.length_take,hl] at this;have h2:r.data.toList.length=r.size:=Zm;omega
 rintro⟨_,h⟩;rw[←e,h]
theorem lu(r t:ByteArray)(hr:r.size≤1000000)(ht:t.size≤1000000)(h:Hp):aL Tryz.prog 270 [.str r, .str t] h (.bool (sD r t)):=by
 refine aI (fun L=>trivial) fun h' nx hh=>aB L.aTg fun hd=>?_;refine ZK ?_;rw[DE];by_cases hc:t.size≤r.size
 ·have g1:decide ((t.size:Int)≤(r.size:Int))=true:=dct;have g2:decide (t.size≤r.size)=true:=dct;have hbe:=dS (r.extract 0 t.size) t;refine aue (e4 g1 hbe hc (jG t.size)) ?_;exact aC h' (leo hd) ⟨by first|rfl|(rw[g2];rfl),rfl⟩
 have g1:decide ((t.size:Int)≤(r.size:Int))=false:=dcf;have g2:decide (t.size≤r.size)=false:=dcf;refine aue g1 ?_;exact aC h' (leo hd) ⟨by first|rfl|(rw[g2];rfl),rfl⟩
theorem pm(r t:ByteArray)(hr:r.size≤1000000)(ht:t.size≤1000000)(h:Hp):aL Tryz.prog 257 [.str r, .str t] h (.bool (sD r t)):=by
 refine aI (fun L=>trivial) fun h' nx hh=>aB L.aTn fun hd=>?_;refine ZK ?_;have C1:=fun h=>lu r t hr ht h;refine au ?_;exact aC h' (leo hd) ⟨rfl,rfl⟩
def Tk.v(t:Tk):V:= .agg [.int .i64 t.k, .str t.t, .int .i64 t.a]
theorem Tk.aAD(t:Tk):t.v.fits (.agg 3)=true:=rfl
theorem Tk.aAN(L:Nat→Prop)(t:Tk):t.v.names L:=by simp[Tk.v,Km,bQ]
theorem ue{r:ByteArray}{i:Nat}(hi:i<eP.length)(hp:sD r eP[i]=true)(hno:∀t∈eP.take i,sD r t=false):tD r=(5,eP[i]):=by
 unfold tD;have:eP.find? (sD r)=some eP[i]:=by
  rw[List.find?_eq_some_iff_getElem];refine⟨hp,i,hi,rfl,fun j hj=>?_⟩;have:=hno eP[j] (KP.2 ⟨j,or,rfl⟩);simp[this]
 rw[this]
theorem uf{r:ByteArray}(hno:∀t∈eP,sD r t=false):tD r=(0,⟨#[]⟩):=by
 unfold tD;have:eP.find? (sD r)=none:=by
  rw[List.find?_eq_none];intro t ht;simp[hno t ht]
 rw[this]
theorem Ap(r:ByteArray)(h1:1≤r.size)(h2:r.size≤4000)(h:Hp):aL Tryz.prog 241 [.str r] h (Tk.v ⟨(fP iH r).1,(fP iH r).2,0⟩):=by
 refine aI (fun L=>Tk.aAN L _) fun h' nx hh=>aB L.aT4 fun hd=>?_;refine ZK ?_;have C1:=fun h=>run_pure r h2 h;have hrl:=kq r;have hb:(r.data.toList.getD 0 0).toNat=byt r 0:=rfl;have h0:0<r.size:=h1;by_cases hc:0<nX r∧byt r 0≠95
 ·have g1:decide ((0:Int)<(nX r:Int))=true:=dct or;have g2:((byt r 0:Int) != 95)=true:=bnt or;have g3:nX r≤r.size:=hrl;have D1:=fun h=>zl (r.extract 0 (nX r)) (by rw[eZ];omega) (by rw[eZ];omega) h;refine aue (e6 hb g1 g2 g3 h0 (jG (nX r))) ?_;refine pD (by simp only[go_sem,reduceIte,jA,jB,jC,jD,reduceCtorEq,jE,jF]) h' (leo hd) ⟨?_,rfl⟩;refine Zn ?_;unfold fP;rw[if_pos hc];rfl
 obtain⟨SG,hSG⟩:∃SG,SG=eP.map V.str:=⟨_,rfl⟩;have aON: [V.str ⟨#[58,45]⟩, .str ⟨#[33,61]⟩, .str ⟨#[60,61]⟩, .str ⟨#[62,61]⟩, .str ⟨#[40]⟩, .str ⟨#[41]⟩, .str ⟨#[44]⟩, .str ⟨#[46]⟩, .str ⟨#[61]⟩, .str ⟨#[60]⟩, .str ⟨#[62]⟩, .str ⟨#[43]⟩, .str ⟨#[45]⟩, .str ⟨#[42]⟩]=SG:=by rw[hSG];rfl
 have hSl:SG.length=14:=by rw[hSG];rfl
 have hSf:SG.all V.aAE=true:=by rw[hSG];rfl
 have hnx:fP iH r=tD r:=by unfold fP;rw[if_neg hc]
 rw[hnx];have key:∀(i:Nat) (hi:i<14),SG.getD i (.tup [])= .str eP[i]:=fun i hi=>by
  rw[hSG,Kb,KO,KQ (by exact hi)];rfl
 have hsz:∀t∈eP,t.size≤1000000:=by decide+kernel
 have aBh:decide ((0:Int)<(nX r:Int))=false∨(decide ((0:Int)<(nX r:Int))=true∧((byt r 0:Int) != 95)=false):=by
  by_cases q:0<nX r
  ·exact .inr ⟨dct or,bnf (by have:¬byt r 0≠95:=fun k=>hc ⟨q,k⟩;omega)⟩
  exact .inl (dcf or)
 rcases aBh with g1|⟨g1,g2⟩
 all_goals
  first
   |refine aue (e6 hb g1 g2 h0 aON hSl) ?_
   |refine aue (e5 hb g1 h0 aON hSl) ?_
  refine aP (fun i:Nat=>aD 34 0 [(0, .str r),(2, .ptr nx (.agg 3) 0 0),(23, .agg SG),(24, .int .i64 i)]) (fun i hp nx1=>i≤14∧hp=h'.set nx (.arr (.agg 3) [.agg [.int .i64 0, .str ⟨#[]⟩, .int .i64 0]])∧nx<nx1∧∀t∈eP.take i,sD r t=false) (fun i=>14-i) 0 ⟨or,rfl,Zw,Zm⟩ (by simp only[WkL,aD,jH,jI,jJ,go_sem,reduceIte,jA,jB,jC,jD,reduceCtorEq,jE,jF]) ?_;rintro i hp nx1 ⟨hi,rfl,aCA,hno⟩;generalize hQ:bB _ _ _ _ _=Q0;refine Zk ?_;rcases Ku i 14 with hlt|hge
  ·have hc:decide ((i:Int)<14)=true:=dct;have hg:=key i hlt;have hw:IntKind.i64.wrap ((i:Int)+1)=((i+1:Nat):Int):=wrp;have C1:=fun h=>pm r eP[i] or (hsz _ (KT _)) h;have aUx:(i:Int)<14:=or;cases k:sD r eP[i] with
   |true=>
    rw[k] at C1;refine aue (e6 hc hg hSl hlt aUx (jG i)) ?_;rw[←hQ];refine au ?_;refine pD (by simp only[go_sem,reduceIte,jA,jB,jC,jD,reduceCtorEq,jE,jF]) h' (leo hd) ⟨?_,rfl⟩;refine Zn ?_;rw[ue hlt k hno];rfl
   |false=>
    rw[k] at C1;refine aue (e7 hc hg hSl hlt aUx (jG i) hw) ?_;rw[←hQ];refine aG (i+1) or ⟨or,rfl,or,fun t ht=>?_⟩ (by simp only[WkL,aD,jH,jI,jJ,go_sem,reduceIte,jA,jB,jC,jD,reduceCtorEq,jE,jF]);rw[KE hlt,Kq,KA] at ht;rcases ht with ht|rfl
    ·exact hno t ht
    exact k
  have hc:decide ((i:Int)<14)=false:=dcf;refine aue hc ?_;rw[←hQ];refine au ?_;refine pD (by simp only[go_sem,reduceIte,jA,jB,jC,jD,reduceCtorEq,jE,jF]) h' (leo hd) ⟨?_,rfl⟩;refine Zn ?_;rw[uf (fun t ht=>hno t (by rw[KW (by show 14≤i;omega)];exact ht))];rfl
end Go.Proofs.YtlhedpgobaellaaGreatDoor
namespace Go.Proofs.YtlhedpgobaellaaGreatDoor
open Go.RowKit
theorem eN.set{K:Ker}{sl:List V}{a:Act}(r:eN K sl a){t:Nat}{v:V}(hv:VR K v (a.tmps.getD t QE)):eN K (sl.set t v) a:=by
 refine⟨by rw[Qu];exact r.1,fun u=>?_⟩;by_cases e:u=t
 ·subst e;by_cases hl:u<sl.length
  ·rw[Kb,List.getElem?_set_self hl];exact hv
  have:=r.2 u;rw[List.set_eq_of_length_le or];exact this
 have:=r.2 u;rw[Kb] at this⊢;rw[Kx (fun h=>e h.symm)];exact this
theorem oY{sl:List V}{h:Hp}{nx t n off len:Nat}{k:Sh}{es:List V}(ht:sl.getD t Ka= .rs n k off len)(hn:h n=some (.arr k es))(hb:off+len≤es.length):
 sR ⟨sl,h,nx⟩ ⟨sl.set t (.sl k .free ((es.drop off).take len)),h.del n,nx+1⟩:=by
 intro K0 K nx0 a r;have hv:=r.aAC.2 t;rw[ht] at hv;have hfr:¬K.live nx:=fun hh=>QB _ (r.live nx hh).1;obtain⟨K',q1,q2,q3,q4,q5⟩:=bw r.rel hn hfr hb hv;refine⟨K',q1,r.le.trans q2,(r.aAC.mono q2).set q4,q5,fun m hm=>?_,Qi r.nx,by rw[q1];exact r.defers⟩;rcases q3 m hm with hm|rfl
 ·have:=r.live m hm;exact⟨Qj this.1,this.2⟩
 exact⟨Qo _, .inr r.nx⟩
theorem v7{K:Ker}{h:Hp}(hr:Rel K h){n a i o:Nat}{k:Sh}{es:List V}{cv:Value}(hn:h n=some (.arr k es))(ha:¬K.live a)(hv:VR K (.ptr n k i o) cv):
 ∃K',K'.w=K.w∧K.le K'∧(∀m,K'.live m→K.live m∨m=a)∧VR K' (.ept k es i o) cv∧Rel K' (h.del n):=by
 have hb:=hr.blk n _ hn;cases hb with
 |arr _ _ c T hh hcs himm hfit hcv=>
  cases hv with
  |ptr _ _ _ _ hl=>
   have hblk:K.mu n<K.w.heap.size:=by
    rcases Ku (K.mu n) K.w.heap.size with hlt|hge
    ·exact hlt
    rw[KX hge] at hh;exact absurd hh Zm
   have hle:K.le (K.aAG a (K.mu n) (es.length*k.size)):=K.aAR ha (by rw[himm];exact Ko _);have hmu:(K.aAG a (K.mu n) (es.length*k.size)).mu a=K.mu n:=by simp[Ker.aAG]
   have hrel:Rel (K.aAG a (K.mu n) (es.length*k.size)) ((h.del n).set a .tip):=hr.aAG hn ha (by rw[himm];exact Ko _) (.tip c T (by rw[hmu];exact hh) (by simp[Ker.aAG]) (by simp only[Ker.aAG,if_true];exact hcs));refine⟨K.aAG a (K.mu n) (es.length*k.size),rfl,hle,fun m hm=>hm.symm,?_,hrel.weaken fun m b e=>?_⟩
   ·have:=VR.ept (K:=K.aAG a (K.mu n) (es.length*k.size)) k es i o (K.mu n) 0 (fun j=>c.getD j QE) hblk hfit
     (fun j hj=>by
       show K.w.cell? _=_;simp only[Qb,hh,Qg];rw[KM,Ky or];rfl)
     (fun j hj=> .inr (by simp only[Ker.aAG,if_true];omega))
     (fun i hi j hj=>(hcv i hi j hj).mono hle)
    rwa [Qg] at this
   unfold Hp.del at e;unfold Hp.set Hp.del;by_cases e1:m=n
   ·rw[if_pos e1] at e;cases e
   rw[if_neg e1] at e;have hma:m≠a:=fun e2=>ha (e2▸hr.lt m b e);rw[if_neg hma,if_neg e1];exact e
theorem lE{sl:List V}{h:Hp}{nx t n i o:Nat}{k:Sh}{es:List V}(ht:sl.getD t Ka= .ptr n k i o)(hn:h n=some (.arr k es)):
 sR ⟨sl,h,nx⟩ ⟨sl.set t (.ept k es i o),h.del n,nx+1⟩:=by
 intro K0 K nx0 a r;have hv:=r.aAC.2 t;rw[ht] at hv;have hfr:¬K.live nx:=fun hh=>QB _ (r.live nx hh).1;obtain⟨K',q1,q2,q3,q4,q5⟩:=v7 r.rel hn hfr hv;refine⟨K',q1,r.le.trans q2,(r.aAC.mono q2).set q4,q5,fun m hm=>?_,Qi r.nx,by rw[q1];exact r.defers⟩;rcases q3 m hm with hm|rfl
 ·have:=r.live m hm;exact⟨Qj this.1,this.2⟩
 exact⟨Qo _, .inr r.nx⟩
theorem gsl(l:List V)(i j:Nat)(v d:V):(l.set i v).getD j d=if i=j∧j<l.length then v else l.getD j d:=by
 rw[Kb,Kb,List.getElem?_set];split
 ·rename_i e;subst e;split
  ·rename_i h;rw[if_pos ⟨rfl,h⟩];rfl
  rename_i h;rw[if_neg (fun k=>h k.2),List.getElem?_eq_none or]
 rename_i e;rw[if_neg (fun k=>e k.1)]
structure RG(F:List (Nat×Nat×V))(fix:List (Nat×V))(n:Nat)(D:Nat→Bool)(sl:List V):Prop where
 len:sl.length=n
 fx:∀p∈fix,sl.getD p.1 Ka=p.2
 dn:∀f∈F,D f.1=true→sl.getD f.2.1 Ka=f.2.2
theorem RG.slot{F:List (Nat×Nat×V)}{fix:List (Nat×V)}{n:Nat}{D:Nat→Bool}{sl:List V}(r:RG F fix n D sl)(i t:Nat)(v:V)(ht:t<n)(hF:∀f∈F,(f.1=i∨f.2.1=t)→f=(i,t,v))(hx:∀p∈fix,p.1≠t):
 RG F fix n (fun j=>if j=i then true else D j) (sl.set t v):=by
 obtain⟨len,fx,dn⟩:=r;refine⟨by rw[Qu];exact len,fun p hp=>?_,fun f hf hd=>?_⟩
 ·rw[gsl,if_neg (fun e=>hx p hp e.1.symm)];exact fx p hp
 rw[gsl];by_cases e:t=f.2.1
 ·have:=hF f hf (.inr e.symm);subst this;rw[if_pos ⟨rfl,by rw[len];exact ht⟩]
 rw[if_neg (fun k=>e k.1)];by_cases e2:f.1=i
 ·have:=hF f hf (.inl e2);subst this;exact absurd rfl e
 rw[if_neg e2] at hd;exact dn f hf hd
theorem RG.none{F:List (Nat×Nat×V)}{fix:List (Nat×V)}{n:Nat}{D:Nat→Bool}{sl:List V}(r:RG F fix n D sl)(i:Nat)(hF:∀f∈F,f.1≠i):RG F fix n (fun j=>if j=i then true else D j) sl:=
 ⟨r.len,r.fx,fun f hf hd=>r.dn f hf (by rwa [if_neg (hF f hf)] at hd)⟩
end Go.Proofs.YtlhedpgobaellaaGreatDoor
