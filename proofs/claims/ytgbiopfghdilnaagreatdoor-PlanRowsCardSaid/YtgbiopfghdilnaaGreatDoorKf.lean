/-
Texts of this proof,one behind the other. No conditions.
-/
import Derived.Test.YtgbiopfghdilnaaGreatDoorChecked
import Derived.Test.YtgbiopfghdilnaaGreatDoorKdb
import Derived.Shelf.GgClosure.GivesRunes
import Derived.Shelf.GgClosure.StringsIndexFuncTop
import Derived.Below
import Derived.Shelf.RegionOpenPlain
import Derived.Deep.RegionLaw
import Derived.Lib.Walk
import Derived.Sort.WalkB12
import Derived.Test.YtgbiopfghdilnaaGreatDoorKLow
import Derived.Lib.Bytealg
import Derived.Shelf.SlSortCmp.Whole1
import Derived.Shelf.Strconv.AtoiAll
import Derived.Shelf.Strconv.Itoa3
import Derived.Lib.BufferWrite
import Derived.Lib.UnsafeStr
import Derived.Lib.AppendIntMem
open Go.Proofs.YtgbiopfghdilnaaGreatDoor.V renaming undef→Ka,names→Km
open List renaming getD_eq_getElem?_getD→Kb,replicate_succ→Kc,replicate_zero→Kd,length_cons→Ke,cons_append→Kf,nil_append→Kg,length_nil→Kj,mem_append→Kq,take_append_of_le_length→Kv,replicate→Kw,getElem?_set_ne→Kx,mem_filter→Kz,mem_singleton→KA,filter_append→KB,getElem?_replicate→KC,take_succ_eq_append_getElem→KE,filter_cons→KF,contains_eq_mem→KI,getElem?_eq_some_iff→KO,getElem?_map→KP,mem_take_iff_getElem→KQ,getElem?_eq_getElem→KR,take_length→KU,getElem_mem→KV,range→KW,take_of_length_le→KY,mem_of_mem_take→Qe,append_nil→Qr,length_set→Qw,take_zero→Qz
open Nat renaming reduceAdd→Kh,reduceSub→Ki,le_refl→Kk,zero_le→Ko,lt_or_ge→Ku,reduceLeDiff→KG,reduceEqDiff→KH,reduceLT→KX,le_trans→Qh,zero_add→Qi,le_succ_of_le→Qk,lt_succ_of_lt→Ql,le_succ→Qo,lt_succ_self→Qq,lt_irrefl→QD,add_mul→QH
open Array renaming eq_empty_of_size_eq_zero→Kp,getElem?_eq_getElem→Ky,length_toList→KM,getD_eq_getD_getElem?→KN,getElem?_eq_none→KZ,ext→Qj,getD→Qy
open Bool renaming false_eq_true→Ks,eq_iff_iff→KJ,not_false→Qb,and_false→Qc,true_and→Qf,and_eq_true→Qm,false_and→QA,and_self→QB,or_false→QC,or_true→QF
open Go.IntKind renaming wrap→Kt
open Int renaming toNat_natCast→KD,reduceToNat→KK,natCast_zero→Qp,natCast_add→Qu,natCast_one→Qv
open Option renaming getD_some→KS,isSome_none→Qg,map_some→Qt
open Go.World renaming shape?→Qa,cell?→Qd,freeze→Qx
open Go.Instr renaming next→QE
open Go renaming undef→QG
open Nat renaming reduceAdd→jA,reduceSub→jB,reduceLT→jC,reduceLeDiff→jD,reduceEqDiff→jE
open Int renaming reduceToNat→jF,toNat_natCast→jG,natCast_add→jH,natCast_one→jI,natCast_zero→jJ
set_option linter.all false
set_option maxHeartbeats 8000000
namespace Go.Proofs.YtgbiopfghdilnaaGreatDoor
open Go.RowKit Go.Shelf Go.Lib Go.Sort
def eR(w w':World):Prop:=Below w.heap.size w w'∧w.drawn≤w'.drawn
theorem eR.refl(w:World):eR w w:=⟨Below.refl _ w,Kk _⟩
theorem eR.trans{a b c:World}(h:eR a b)(k:eR b c):eR a c:=⟨h.1.trans (k.1.mono h.1.size),Qh h.2 k.2⟩
set_option maxRecDepth 1000000 in
theorem g9(g:Nat)(lb:Array Value)(eg:∀args w,(callFunc g args).run Tryz.prog w= .ok (.enter g args) w)(p:Nat→Bool)(s:ByteArray)(w:World)
 (hp:∀(W:World) (x:Nat),x≤1114111→eR w W→Calls Tryz.prog g (#[.int .i32 x]++lb) W fun e w'=>e= .returned (.bool (p x))∧eR W w'):
 Calls Tryz.prog 197 #[.string s, .func (.func g) #[] lb, .bool true] w fun e w'=>e= .returned (.int .i64 (Lib.idxFunc p true s))∧eR w w':=by
 have mixed:Tryz.prog.follows .mixedOrders=true:=Zz
 go_enter Tryz.func197,Tryz.ntmps197
 go_wp2
 go_loopg [] s.size (fun gf wx=>∃pos:Nat,wx.heap[w.heap.size]?=some (.stringIter s pos)∧eR w wx∧Lib.idxFuncFrom p true s gf pos=Lib.idxFunc p true s∧s.size≤pos+gf)
 case atStart=>exact⟨0,World.iter_heap w s 0,⟨(Below.refl _ w).alloc (Kk _) _,Kk _⟩,rfl,or⟩
 case round=>
  obtain⟨pos,hit,hbw,hleft,hfu⟩:=hrel;by_cases hps:pos<s.size
  ·obtain⟨g',rfl⟩:∃g',gk=g'+1:=⟨gk-1,or⟩;have hnx:∀ty,(QE (.pointer (some ⟨w.heap.size,0,none⟩)) true ty).run Tryz.prog wr=_:=fun ty=>Lib.run_next_any_at wr w.heap.size s pos ty hit hps;have hwd:=Lib.width_pos s pos;obtain⟨R,hR⟩:∃R,(Utf8.decode s pos).1=R:=⟨_,rfl⟩;obtain⟨K,hK⟩:∃K,(Utf8.decode s pos).2=K:=⟨_,rfl⟩;simp only[Lib.idxFuncFrom,hps,if_true,hR,hK] at hleft;rw[hR,hK] at hnx;rw[hK] at hwd;have hit2:=Lib.iterAt_heap wr w.heap.size s pos (pos+K) hit;have hbw2:eR w (wr.iterAt w.heap.size s (pos+K)):=⟨Lib.below_iterAt hbw.1 (k:=w.heap.size) (Kk _) s (pos+K),hbw.2⟩;obtain⟨W,hWd⟩:∃W,wr.iterAt w.heap.size s (pos+K)=W:=⟨_,rfl⟩;rw[hWd] at hnx hit2 hbw2;have hltW:w.heap.size<W.heap.size:=(Array.getElem?_eq_some_iff.1 hit2).1;have cS:Calls Tryz.prog g (#[.int .i32 (R:Int)]++lb) W _:=hp W R (by rw[←hR];exact Lib.rune_le s pos) hbw2;clear hp;cases hsp:p R<;>rw[hsp] at cS<;>simp only[hsp,if_true,Ks,if_false] at hleft
   ·go_wp2_with (go_at_fn g;refine cS.mono ?_;rintro e W' ⟨rfl,hbc⟩)
    go_roundg g'
    case measure=>omega
    case rel=>exact⟨pos+K,(hbc.1.block _ hltW).trans hit2,hbw2.trans hbc,hleft,or⟩
   go_wp2_with (go_at_fn g;refine cS.mono ?_;rintro e W' ⟨rfl,hbc⟩)
   go_ret
   exact⟨by rw[←hleft]<;>rfl,hbw2.trans hbc⟩
  have hnx:∀ty,(QE (.pointer (some ⟨w.heap.size,0,none⟩)) true ty).run Tryz.prog wr=_:=fun ty=>Lib.run_next_end_at wr w.heap.size s pos ty hit hps;rw[Lib.idxFuncFrom_end p true s gk pos hps] at hleft
  go_wp2
  go_ret
  exact⟨by rw[←hleft]<;>rfl,hbw⟩
theorem wX(g:Nat)(lb:Array Value)(eg:∀args w,(callFunc g args).run Tryz.prog w= .ok (.enter g args) w)(p:Nat→Bool)(s:ByteArray)(w:World)
 (hp:∀(W:World) (x:Nat),x≤1114111→eR w W→Calls Tryz.prog g (#[.int .i32 x]++lb) W fun e w'=>e= .returned (.bool (p x))∧eR W w'):
 Calls Tryz.prog 149 #[.string s, .func (.func g) #[] lb] w fun e w'=>e= .returned (.bool (decide (0≤Lib.idxFunc p true s)))∧eR w w':=by
 have mixed:Tryz.prog.follows .mixedOrders=true:=Zz;have cI:=g9 g lb eg p s w hp;have e1:∀args w,(callFunc 197 args).run Tryz.prog w= .ok (.enter 197 args) w:=enters_of Tryz.func197 Zz rfl;have cJ:Calls Tryz.prog 182 #[.string s, .func (.func g) #[] lb] w fun e w'=>e= .returned (.int .i64 (Lib.idxFunc p true s))∧eR w w':=by
  go_enter Tryz.func182,Tryz.ntmps182
  go_wp2_with (go_at_fn 197;refine cI.mono ?_;rintro e w' ⟨rfl,hb⟩)
  go_ret
  exact⟨rfl,hb⟩
 have e2:∀args w,(callFunc 182 args).run Tryz.prog w= .ok (.enter 182 args) w:=enters_of Tryz.func182 Zz rfl;clear cI e1;obtain⟨I,hI⟩:∃I,Lib.idxFunc p true s=I:=⟨_,rfl⟩;rw[hI] at cJ⊢
 go_enter Tryz.func149,Tryz.ntmps149
 go_wp2_with (go_at_fn 182;refine cJ.mono ?_;rintro e w' ⟨rfl,hb⟩)
 go_ret
 exact⟨rfl,hb⟩
theorem rB{K:Ker}{W:World}(hb:eR K.w W):K.le {K with w:=W} where
 live _ hn:=hn
 mu _ _:=rfl
 tp _ _:=rfl
 fro:=rfl
 imm _ _:=Kk _
 cell b o hb' _:=kD (hb.1.block b hb')
 shape b hb':=kZ (hb.1.block b hb')
 below:=⟨hb.1.os,hb.1.tape,hb.1.output,hb.2,hb.1.size,fun b hb' _=>hb.1.block b hb'⟩
theorem Rel.later{K:Ker}{h:Hp}(hr:Rel K h){W:World}(hb:eR K.w W):Rel {K with w:=W} h:=
 ⟨hr.lt,hr.base,fun n b e=>(hr.blk n b e).mono (rB hb) (hr.lt n b e) (hb.1.block _ (hr.blk n b e).lt_size) rfl,hr.inj,hr.size.keep (rB hb)⟩
theorem yQ(p:Nat→Bool)(g:Nat)(caps:List V)(hp:∀x:Nat,x≤1114111→aK Tryz.prog g ([.int .i32 x]++caps) Hp.none (.bool (p x)))(s:ByteArray)(h:Hp):aK Tryz.prog 149 [.str s, .fn (.func g) [] caps] h (.bool (decide (0≤Lib.idxFunc p true s))):=by
 refine aH (fun L=>trivial) fun h' nx hh=>⟨Zz,fun K cargs hlv hr hv=>?_⟩;obtain⟨hsz,hv⟩:=hv;have hsz:cargs.size=2:=by simpa using hsz.symm
 obtain⟨c1,c2,rfl⟩:∃c1 c2,cargs=#[c1,c2]:=⟨cargs[0],cargs[1],by
  apply Qj
  ·simp[hsz]
  intro i h1 h2;have:i=0∨i=1:=by simp at h2;omega
  rcases this with rfl|rfl<;>rfl⟩
 have v1:VR K (.str s) c1:=hv 0 Zm;have v2:VR K (.fn (.func g) [] caps) c2:=hv 1 Zm;cases v1;cases v2 with
 |fn _ _ _ cfirst ccap q1 q2 w1 w2=>
  have hcf:cfirst=#[]:=by
   have:cfirst.size=0:=by simpa using q1.symm
   exact Kp this
  subst hcf;have hen:=(hp 0 or Hp.none 0 (aL _)).1;refine(wX g ccap (fun args w=>lR hen args w) p s K.w fun W x hx hb=>?_).mono ?_
  ·have hle:=rB hb
   have c:=(hp x hx Hp.none nx (aL _)).2 {K with w:=W,fro:=fun b=>b<W.heap.size} (#[.int .i32 x]++ccap) hlv ⟨(fun n b e=>by cases e),(fun n b e=>by cases e),(fun n b e=>by cases e),(fun n n' b b' e=>by cases e),((hr.size.keep hle).all)⟩
    ((show VRs _ [.int .i32 x] #[.int .i32 x] from⟨rfl,fun i hi=>by
      have:i=0:=by simpa using hi
      subst this;exact .int _ _⟩).append ⟨q2,fun i hi=>VR.refro (K:={K with w:=W}) (fun b hb'=>Nat.lt_of_lt_of_le (hr.size.lt b hb') hb.1.size) ((w2 i hi).mono hle)⟩)
   refine c.mono ?_;rintro e' w' ⟨K',v,cv,h',nx',rfl,rfl,a1,a2,a3,a4,a5,rfl,rfl,rfl⟩;cases a2;obtain⟨k1,k2,k3,k4,k5,k6⟩:=a1.below;exact⟨rfl,⟨k1,k2,k3,k5,fun b hb=>k6 b hb (.inl hb)⟩,k4⟩
  rintro e w' ⟨rfl,hb⟩;exact⟨{K with w:=w'},_,_,h',nx,rfl,rfl,rB hb, .bool _,hr.later hb,fun m hm=>⟨hlv m hm, .inl hm⟩,Kk _,rfl,rfl⟩
end Go.Proofs.YtgbiopfghdilnaaGreatDoor
namespace Go.Proofs.YtgbiopfghdilnaaGreatDoor
open Go.RowKit
theorem Aj:aE Tryz.prog 107=some (LB.aD0 154):=Zz
theorem FU:aE Tryz.prog 154=some LB.aCd:=Zz
theorem CF:aE Tryz.prog 105=some LB.aRJ:=Zz
end Go.Proofs.YtgbiopfghdilnaaGreatDoor
namespace Go.Proofs.YtgbiopfghdilnaaGreatDoor
open Go.RowKit
attribute [local go_sem] qP jV aA.ok aA.next LOp.ok LOp.next bB.ok bB.out aN.ev bO xu oE mS xW V.fits V.aAE V.cells V.cell Ka cH aX bU Sh.size Hp.set Hp.del pV lP yO iH aA.dok aA.aC0 LOp.dok LOp.aER ww w8 oT dD cm Hp.aBY veq gY hZ List.take_succ_cons Qz List.take_nil List.drop_succ_cons List.drop_zero List.drop_nil List.set_cons_succ List.set_cons_zero List.getD_cons_succ List.getD_cons_zero Ke Kj List.map_cons List.map_nil List.all_cons List.all_nil List.mem_cons List.not_mem_nil Kc Kd Kf Kg Qr List.isEmpty_cons List.isEmpty_nil fH gG rO KS Option.isSome_some Qg Nat.add_eq Qi Nat.add_zero true_and and_true and_self true_implies implies_true false_implies forall_const forall_eq forall_eq_or_imp ne_eq not_false_eq_true not_true_eq_false Bool.not_true Qb decide_true decide_false Bool.and_true Qf Qc QA true_or or_true false_or or_false eq_self Ks GJ DZ iZ aD dB eG iA wW sM wV lC nA dS KD Int.toNat_zero KU
structure Tm where
 e:Int
 r:Int
 deriving DecidableEq,Inhabited
def Tm.v(t:Tm):V:= .agg [.int .i64 t.e, .int .i64 t.r]
def Tm.le(a b:Tm):Bool:=decide (a.e≤b.e)&&decide (a.r≤b.r)
def Tm.ok(t:Tm):Bool:=decide (0≤t.e)&&decide (t.e≤1048576)&&(decide (0≤t.r)&&decide (t.r≤1048576))
end Go.Proofs.YtgbiopfghdilnaaGreatDoor
namespace Go.Proofs.YtgbiopfghdilnaaGreatDoor
inductive nV{α:Type}(E:α→α→Prop):α→α→Prop where
 |one {a b:α}:E a b→nV E a b
 |cons {a b c:α}:E a b→nV E b c→nV E a c
namespace nV
variable{α:Type}{E F:α→α→Prop}
theorem trans{a b c:α}(h:nV E a b)(k:nV E b c):nV E a c:=by
 induction h with
 |one e=>exact .cons e k
 |cons e _ ih=>exact .cons e (ih k)
theorem snoc{a b c:α}(h:nV E a b)(e:E b c):nV E a c:=h.trans (.one e)
theorem mono(hs:∀a b,E a b→F a b){a b:α}(h:nV E a b):nV F a b:=by
 induction h with
 |one e=>exact .one (hs _ _ e)
 |cons e _ ih=>exact .cons (hs _ _ e) ih
theorem last{a b:α}(h:nV E a b):∃c,E c b∧(c=a∨nV E a c):=by
 induction h with
 |one e=>exact⟨_,e, .inl rfl⟩
 |cons e k ih=>
  obtain⟨c,hc,hh⟩:=ih;rcases hh with rfl|hh
  ·exact⟨_,hc, .inr (.one e)⟩
  exact⟨c,hc, .inr (.cons e hh)⟩
theorem closed{S:α→Prop}(hS:∀a b,S a→E a b→S b){a b:α}(h:nV E a b)(ha:S a):S b:=by
 induction h with
 |one e=>exact hS _ _ ha e
 |cons e _ ih=>exact ih (hS _ _ ha e)
end nV
structure Gm(n:Nat)(E:List (Nat×Nat))(i:Nat)(dC:List Int)(row:List Nat):Prop where
 len:dC.length=n
 nd:row.Nodup
 lt:∀x∈row,x<n
 cnt:∀j,j<n→dC.getD j 0=((E.filter fun e=>decide (e.2=j)&& !((row.take i).contains e.1)).length:Int)
 iff:∀j,j<n→(j∈row↔dC.getD j 0=0)
 back:∀m (h:m<row.length),∀y,(y,row[m])∈E→y∈row.take m
structure KIn(n:Nat)(E D R:List (Nat×Nat))(i k:Nat)(dC:List Int)(row:List Nat):Prop where
 eq:E=D++R
 hk:row[i]?=some k
 len:dC.length=n
 nd:row.Nodup
 lt:∀x∈row,x<n
 cnt:∀j,j<n→dC.getD j 0+((D.filter fun e=>decide (e.2=j)&&decide (e.1=k)).length:Int)=((E.filter fun e=>decide (e.2=j)&& !((row.take i).contains e.1)).length:Int)
 iff:∀j,j<n→(j∈row↔dC.getD j 0=0)
 back:∀m (h:m<row.length),∀y,(y,row[m])∈E→y∈row.take m
theorem Gm.start{n:Nat}{E:List (Nat×Nat)}{i k:Nat}{dC:List Int}{row:List Nat}(K:Gm n E i dC row)(hk:row[i]?=some k):KIn n E [] E i k dC row:=
 ⟨rfl,hk,K.len,K.nd,K.lt,fun j hj=>by simpa using K.cnt j hj,K.iff,K.back⟩
theorem Ab{row:List Nat}{i k:Nat}(hn:row.Nodup)(hk:row[i]?=some k):k∉row.take i:=by
 intro h;obtain⟨m,hm,e⟩:=List.getElem_of_mem h;obtain⟨hi,e2⟩:=KO.1 hk;have hm':m<i∧m<row.length:=by simp at hm;omega
 rw[List.getElem_take] at e;have hp:=List.pairwise_iff_getElem.1 hn m i hm'.2 hi hm'.1;exact hp (e.trans e2.symm)
theorem ET(l:List Int)(i j:Nat)(v:Int)(h:i<l.length):(l.set i v).getD j 0=if j=i then v else l.getD j 0:=by
 rw[Kb,Kb];by_cases e:j=i
 ·subst e;simp[h]
 rw[Kx or];simp[e]
theorem KIn.one{n:Nat}{E D R:List (Nat×Nat)}{i k x:Nat}{dC:List Int}{row:List Nat}(K:KIn n E D ((k,x)::R) i k dC row)(hx:x<n):
 1≤dC.getD x 0∧KIn n E (D++[(k,x)]) R i k (dC.set x (dC.getD x 0-1)) (if dC.getD x 0-1=0 then row++[x] else row):=by
 obtain⟨hi,hik⟩:=KO.1 K.hk;have hnk:=Ab K.nd K.hk;have hcx:=K.cnt x hx
 --ways to x from k are among those that count
 have sub:∀l:List (Nat×Nat),((l.filter fun e=>decide (e.2=x)&&decide (e.1=k)).length:Int)≤((l.filter fun e=>decide (e.2=x)&& !((row.take i).contains e.1)).length:Int):=by
  intro l;induction l with
  |nil=>simp
  |cons e l ih=>
   simp only[KF,KI,Kq,KA] at ih⊢;by_cases h1:e.2=x
   ·by_cases h2:e.1=k
    ·simp only[h1,h2,hnk,KI,decide_true,decide_false,Qb,QB,if_true,Ke];omega
    simp only[h1,h2,decide_true,decide_false,Qc,Ks,if_false,Qf];split<;>(try simp only[Ke])<;>omega
   simp only[h1,decide_false,QA,Ks,if_false];exact ih
 have s1:=sub E;have s2:((E.filter fun e=>decide (e.2=x)&&decide (e.1=k)).length:Int)=((D.filter fun e=>decide (e.2=x)&&decide (e.1=k)).length:Int)+1+((R.filter fun e=>decide (e.2=x)&&decide (e.1=k)).length:Int):=by
  rw[K.eq,KB,KF];simp;omega
 have hge:1≤dC.getD x 0:=or;refine⟨hge,?_⟩;have hxr:x∉row:=fun h=>by have:=(K.iff x hx).1 h;omega
 have aAR:∀j,(dC.set x (dC.getD x 0-1)).getD j 0=if j=x then dC.getD x 0-1 else dC.getD j 0:=fun j=>ET _ _ _ _ (by rw[K.len];exact hx)
 have aH1:∀aRX:List Nat,aRX.take i=row.take i→∀j,j<n→(dC.set x (dC.getD x 0-1)).getD j 0+(((D++[(k,x)]).filter fun e=>decide (e.2=j)&&decide (e.1=k)).length:Int)=((E.filter fun e=>decide (e.2=j)&& !((aRX.take i).contains e.1)).length:Int):=by
  intro aRX hr j hj;rw[hr,aAR,←K.cnt j hj,KB];by_cases e:j=x
  ·subst e;simp;omega
  have e':¬x=j:=fun h=>e h.symm;simp[e,e']
 split
 ·rename_i h0;have htk:(row++[x]).take i=row.take i:=by rw[Kv or]
  refine⟨by rw[K.eq];simp,by rw[List.getElem?_append_left hi];exact K.hk,by simp[K.len],?_,?_,aH1 _ htk,?_,?_⟩
  ·exact List.nodup_append.2 ⟨K.nd,Zm,fun a ha b hb=>by
    rintro rfl;simp at hb;subst hb;exact hxr ha⟩
  ·intro y hy;rcases Kq.1 hy with h|h
   ·exact K.lt y h
   simp at h;omega
  ·intro j hj;rw[aAR,Kq,KA];by_cases e:j=x
   ·simp only[e,or_true,if_true,true_iff];exact h0
   simp only[e,or_false,if_false];exact K.iff j hj
  intro m hm y hy;by_cases hml:m<row.length
  ·rw[List.getElem_append_left hml] at hy;rw[Kv or];exact K.back m hml y hy
  have hme:m=row.length:=by simp at hm;omega
  subst hme;have hyx:(y,x)∈E:=by simpa using hy
  rw[Kv or,KU]
  --all ways to x that count come from k
  refine Classical.byContradiction fun hny=>?_;have hyk:y≠k:=fun e=>hny (by rw[e,←hik];exact KV hi);have hyt:y∉row.take i:=fun h=>hny (Qe h);have strict:∀l:List (Nat×Nat),(y,x)∈l→((l.filter fun e=>decide (e.2=x)&&decide (e.1=k)).length:Int)+1≤((l.filter fun e=>decide (e.2=x)&& !((row.take i).contains e.1)).length:Int):=by
   intro l hl;obtain⟨a,b,hab⟩:=List.append_of_mem hl;subst hab;have bAd:∀l:List (Nat×Nat),((l.filter fun e=>decide (e.2=x)&&decide (e.1=k)).length:Int)≤((l.filter fun e=>decide (e.2=x)&& !((row.take i).contains e.1)).length:Int):=sub;have ha:=bAd a;have hb:=bAd b;rw[KB,KB,KF,KF];simp only[hyk,hyt,KI,decide_true,decide_false,Qb,QB,Qc,Ks,if_false,if_true,List.length_append,Ke] at ha hb⊢;omega
  have:=strict E hyx;omega
 rename_i h0;refine⟨by rw[K.eq];simp,K.hk,by simp[K.len],K.nd,K.lt,aH1 _ rfl,?_,K.back⟩;intro j hj;rw[aAR];by_cases e:j=x
 ·simp only[e,if_true,hxr,false_iff];exact h0
 simp only[e,if_false];exact K.iff j hj
theorem Gm.first{n:Nat}{E:List (Nat×Nat)}{dC:List Int}(hl:dC.length=n)(hc:∀j,j<n→dC.getD j 0=((E.filter fun e=>decide (e.2=j)).length:Int)):
 Gm n E 0 dC ((KW n).filter fun j=>decide (dC.getD j 0=0)):=by
 refine⟨hl,List.nodup_range.filter _,fun x hx=>by simpa using(Kz.1 hx).1,fun j hj=>by simpa using hc j hj,fun j hj=>by simp[hj],?_⟩;intro m hm y hy;exfalso;have aAp:((KW n).filter fun j=>decide (dC.getD j 0=0))[m]∈(KW n).filter fun j=>decide (dC.getD j 0=0):=KV hm;generalize ((KW n).filter fun j=>decide (dC.getD j 0=0))[m]=z at aAp hy;obtain⟨h1,h2⟩:=Kz.1 aAp;have h1':z<n:=by simpa using h1
 have h2':dC.getD z 0=0:=by simpa using h2
 rw[hc z h1'] at h2';have hne:(E.filter fun e=>decide (e.2=z))≠ []:=List.ne_nil_of_mem (Kz.2 ⟨hy,Zm⟩);have:=List.length_pos_iff.2 hne;omega
def Via(E:Nat→Nat→Prop):Nat→Nat→Nat→Prop
 |0,i,j=>E i j
 |k+1,i,j=>Via E k i j∨(Via E k i k∧Via E k k j)
theorem Via.up{E:Nat→Nat→Prop}:∀{k:Nat} {i j:Nat},E i j→Via E k i j
 |0,_,_,h=>h
 |_+1,_,_,h=> .inl (Via.up h)
theorem Via.sound{E:Nat→Nat→Prop}:∀(k:Nat) {i j:Nat},Via E k i j→nV E i j
 |0,_,_,h=> .one h
 |k+1,_,_,h=>by
  rcases h with h|⟨h1,h2⟩
  ·exact Via.sound k h
  exact(Via.sound k h1).trans (Via.sound k h2)
theorem Via.join{E:Nat→Nat→Prop}:∀(k:Nat) {i l j:Nat},l<k→Via E k i l→Via E k l j→Via E k i j
 |0,_,_,_,hl,_,_=>or
 |k+1,i,l,j,hl,h1,h2=>by
  by_cases e:l=k
  ·subst e;have a:Via E l i l:=by rcases h1 with h|⟨h,_⟩<;>exact h
   have b:Via E l l j:=by rcases h2 with h|⟨_,h⟩<;>exact h
   exact .inr ⟨a,b⟩
  have hl':l<k:=or;rcases h1 with h1|⟨h1,h1'⟩<;>rcases h2 with h2|⟨h2,h2'⟩
  ·exact .inl (Via.join k hl' h1 h2)
  ·exact .inr ⟨Via.join k hl' h1 h2,h2'⟩
  ·exact .inr ⟨h1,Via.join k hl' h1' h2⟩
  exact .inr ⟨h1,h2'⟩
theorem Via.iff{E:Nat→Nat→Prop}{n:Nat}(hE:∀i j,E i j→i<n∧j<n)(i j:Nat):Via E n i j↔nV E i j:=by
 constructor
 ·exact Via.sound n
 intro h;induction h with
 |one e=>exact Via.up e
 |cons e _ ih=>exact Via.join n (hE _ _ e).2 (Via.up e) ih
structure Bfs(n:Nat)(E:Nat→Nat→Prop)(a b:Nat)(seen:List Bool)(todo:List Nat):Prop where
 len:seen.length=n
 lt:∀x∈todo,x<n
 aRG:∀x,(x∈todo∨seen.getD x false=true)→x=a∨nV E a x
 start:a∈todo∨(a≠b∧∀y,E a y→seen.getD y false=true)
 on:∀x,seen.getD x false=true→x∈todo∨(x≠b∧∀y,E x y→seen.getD y false=true)
structure Fv(n:Nat)(E:Nat→Nat→Prop)(a b k:Nat)(D:Nat→Prop)(seen:List Bool)(todo:List Nat):Prop where
 len:seen.length=n
 lt:∀x∈todo,x<n
 kf:k=a∨nV E a k
 kb:k≠b
 got:∀y,D y→seen.getD y false=true
 aRG:∀x,(x∈todo∨seen.getD x false=true)→x=a∨nV E a x
 start:a=k∨a∈todo∨(a≠b∧∀y,E a y→seen.getD y false=true)
 on:∀x,seen.getD x false=true→x=k∨x∈todo∨(x≠b∧∀y,E x y→seen.getD y false=true)
theorem Dd(l:List Bool)(i j:Nat)(v:Bool)(h:i<l.length):(l.set i v).getD j false=if j=i then v else l.getD j false:=by
 rw[Kb,Kb];by_cases e:j=i
 ·subst e;simp[h]
 rw[Kx or];simp[e]
theorem Bfs.first{n:Nat}{E:Nat→Nat→Prop}{a b:Nat}(ha:a<n):Bfs n E a b (Kw n false) [a]:=by
 have hf:∀x,(Kw n false).getD x false=false:=fun x=>by
  rw[Kb,KC];split<;>rfl
 refine⟨Zm,by simpa using ha,fun x hx=>?_, .inl Zm,fun x hx=>by rw[hf x] at hx;cases hx⟩;rcases hx with hx|hx
 ·exact .inl (by simpa using hx)
 rw[hf x] at hx;cases hx
theorem Fv.one{n:Nat}{E:Nat→Nat→Prop}{a b k x:Nat}{D:Nat→Prop}{seen:List Bool}{todo:List Nat}(B:Fv n E a b k D seen todo)(hx:x<n)(he:E k x):Fv n E a b k (fun y=>D y∨y=x) (seen.set x true) (todo++[x]):=by
 have aAR:∀j,(seen.set x true).getD j false=if j=x then true else seen.getD j false:=fun j=>Dd _ _ _ _ (by rw[B.len];exact hx)
 have up:∀y,seen.getD y false=true→(seen.set x true).getD y false=true:=fun y hy=>by rw[aAR];split<;>simp_all
 have hfx:x=a∨nV E a x:=by
  rcases B.kf with h|h
  ·rw[←h];exact .inr (.one he)
  exact .inr (h.snoc he)
 refine⟨by simp[B.len],?_,B.kf,B.kb,?_,?_,?_,?_⟩
 ·intro y hy;rcases Kq.1 hy with h|h
  ·exact B.lt y h
  simp at h;omega
 ·rintro y (hy|rfl)
  ·exact up y (B.got y hy)
  rw[aAR,if_pos rfl]
 ·intro y hy;by_cases e:y=x
  ·rw[e];exact hfx
  rw[aAR,if_neg e] at hy;refine B.aRG y (hy.imp (fun h=>?_) id);rcases Kq.1 h with h|h
  ·exact h
  exact absurd (by simpa using h) e
 ·rcases B.start with h|h|⟨h1,h2⟩
  ·exact .inl h
  ·exact .inr (.inl (by simp[h]))
  exact .inr (.inr ⟨h1,fun y hy=>up y (h2 y hy)⟩)
 intro y hy;by_cases e:y=x
 ·exact .inr (.inl (by simp[e]))
 rw[aAR,if_neg e] at hy;rcases B.on y hy with h|h|⟨h1,h2⟩
 ·exact .inl h
 ·exact .inr (.inl (by simp[h]))
 exact .inr (.inr ⟨h1,fun z hz=>up z (h2 z hz)⟩)
structure Pa where
 n:Bool
 a:Int
 deriving DecidableEq,Inhabited
def Pa.ok(p:Pa):Bool:=decide (0≤p.a)&&decide (p.a≤1048576)
def Pa.le(p q:Pa):Bool:=(p.n|| !q.n)&&decide (p.a≤q.a)
def Pa.thn(p q:Pa):Option Pa:=
 if (!p.ok|| !q.ok)=true then none
 else if q.n=true then some q
 else if Pa.ok ⟨p.n,p.a+q.a⟩=false then none else some ⟨p.n,p.a+q.a⟩
theorem Pa.le_refl(p:Pa):p.le p=true:=by cases p with|mk n a=>cases n<;>simp[Pa.le]
theorem Pa.le_trans{p q r:Pa}(h:p.le q=true)(k:q.le r=true):p.le r=true:=by
 obtain⟨a,x⟩:=p;obtain⟨b,y⟩:=q;obtain⟨c,z⟩:=r;cases a<;>cases b<;>cases c<;>simp[Pa.le] at*<;>omega
theorem Pa.aHa{p q r:Pa}(h:p.thn q=some r):r.ok=true∧q.ok=true∧p.ok=true:=by
 unfold Pa.thn at h;split at h
 ·cases h
 rename_i h0;simp only[Bool.or_eq_true,Bool.not_eq_true',not_or,Bool.not_eq_false] at h0;split at h
 ·injection h with h;subst h;exact⟨h0.2,h0.2,h0.1⟩
 split at h
 ·cases h
 rename_i h1;injection h with h;subst h;exact⟨by simpa using h1,h0.2,h0.1⟩
structure We where
 f:Nat
 t:Nat
 p:Pa
 deriving DecidableEq,Inhabited
def Walk(ws:List We):Nat→List We→Nat→Prop
 |a,[],k=>a=k
 |a,w::l,k=>w∈ws∧w.f=a∧Walk ws w.t l k
def run:Pa→List We→Option Pa
 |p,[]=>some p
 |p,w::l=>(p.thn w.p).bind fun q=>run q l
def Pa.aAY:Pa:=⟨false,0⟩
def Val(ws:List We)(a k:Nat)(p:Pa):Prop:=∃l,Walk ws a l k∧run Pa.aAY l=some p
theorem Walk.append{ws:List We}:∀{l m:List We} {a b c:Nat},Walk ws a l b→Walk ws b m c→Walk ws a (l++m) c
 | [],_,_,_,_,h,k=>by have h:_=_:=h;subst h;exact k
 |w::l,_,_,_,_,⟨h1,h2,h3⟩,k=>⟨h1,h2,Walk.append h3 k⟩
theorem dz:∀(l m:List We) (p:Pa),run p (l++m)=(run p l).bind fun q=>run q m
 | [],m,p=>rfl
 |w::l,m,p=>by
  show((p.thn w.p).bind fun q=>run q (l++m))=((p.thn w.p).bind fun q=>run q l).bind fun q=>run q m;cases p.thn w.p with
  |none=>rfl
  |some q=>exact dz l m q
theorem DR:∀(l:List We) {p q:Pa},p.ok=true→run p l=some q→q.ok=true
 | [],p,q,hp,h=>by have h:some p=some q:=h;injection h with h;subst h;exact hp
 |w::l,p,q,hp,h=>by
  have h:((p.thn w.p).bind fun q=>run q l)=some q:=h;cases e:p.thn w.p with
  |none=>rw[e] at h;cases h
  |some r=>rw[e] at h;exact DR l (Pa.aHa e).1 h
theorem Walk.split{ws:List We}:∀{l m:List We} {a c:Nat},Walk ws a (l++m) c→∃b,Walk ws a l b∧Walk ws b m c
 | [],_,a,_,h=>⟨a,rfl,h⟩
 |w::l,_,_,_,⟨h1,h2,h3⟩=>by
  obtain⟨b,h4,h5⟩:=Walk.split h3;exact⟨b,⟨h1,h2,h4⟩,h5⟩
def Can(l:List Pa):Prop:=l.Pairwise fun p q=>p.n=false∧q.n=true∧p.a<q.a
def yN(l:List Pa)(p:Pa):Prop:=∃q∈l,q.le p=true
def qf(l:List Pa)(p:Pa):List Pa:=if p.n=true then (l.filter fun x=> !(p.le x))++[p] else p::(l.filter fun x=> !(p.le x))
theorem qK(l:List Pa)(p x:Pa):x∈qf l p↔x=p∨(x∈l∧p.le x=false):=by
 unfold qf;split
 ·simp[or_comm]
 simp
theorem ud{l:List Pa}{p x:Pa}:yN (qf l p) x↔yN l x∨p.le x=true:=by
 constructor
 ·rintro⟨q,hq,hle⟩;rcases(qK l p q).1 hq with e|⟨h1,_⟩
  ·subst e;exact .inr hle
  exact .inl ⟨q,h1,hle⟩
 rintro(⟨q,hq,hle⟩|h)
 ·cases e:p.le q with
  |true=>exact⟨p,(qK l p p).2 (.inl rfl),Pa.le_trans e hle⟩
  |false=>exact⟨q,(qK l p q).2 (.inr ⟨hq,e⟩),hle⟩
 exact⟨p,(qK l p p).2 (.inl rfl),h⟩
theorem Can.put{l:List Pa}(h:Can l){p:Pa}(hd:¬yN l p):Can (qf l p):=by
 unfold qf Can;have hf:Can (l.filter fun x=> !(p.le x)):=List.Pairwise.sublist List.filter_sublist h;have hno:∀x∈l,x.le p=false:=fun x hx=>by
  cases e:x.le p with
  |false=>rfl
  |true=>exact absurd ⟨x,hx,e⟩ hd
 split
 ·rename_i hn;refine List.pairwise_append.2 ⟨hf,Zm,fun x hx q hq=>?_⟩;simp at hq;subst hq;obtain⟨hx1,hx2⟩:=Kz.1 hx;have h1:=hno x hx1;have h2:q.le x=false:=by simpa using hx2
  obtain⟨a,b⟩:=x;obtain⟨c,d⟩:=q;simp at hn;subst hn;cases a<;>simp[Pa.le] at*<;>omega
 rename_i hn;refine List.pairwise_cons.2 ⟨fun x hx=>?_,hf⟩;obtain⟨hx1,hx2⟩:=Kz.1 hx;have h1:=hno x hx1;have h2:p.le x=false:=by simpa using hx2
 obtain⟨a,b⟩:=x;obtain⟨c,d⟩:=p;simp at hn;subst hn;cases a<;>simp[Pa.le] at*<;>omega
def Hb(l:List Pa):Nat:=l.foldr (fun p m=>min p.a.toNat m) 1048577
def co(l:List Pa):Nat:=Hb l+Hb (l.filter fun p=>p.n)
theorem Val.ok{ws:List We}{a k:Nat}{p:Pa}(h:Val ws a k p):p.ok=true:=by
 obtain⟨l,_,hr⟩:=h;exact DR l (by rfl) hr
theorem Val.step{ws:List We}{a:Nat}{p r:Pa}{w:We}(h:Val ws a w.f p)(hw:w∈ws)(e:p.thn w.p=some r):Val ws a w.t r:=by
 obtain⟨l,h1,h2⟩:=h;refine⟨l++[w],h1.append ⟨hw,rfl,rfl⟩,?_⟩;rw[dz,h2];show((p.thn w.p).bind fun q=>run q [])=some r;rw[e];rfl
theorem Val.aAY(ws:List We)(a:Nat):Val ws a a Pa.aAY:=⟨[],rfl,rfl⟩
def Fu(ws:List We)(out:List (List Pa))(k:Nat):Prop:=∀p∈out.getD k [],∀w∈ws,w.f=k→∀r,p.thn w.p=some r→yN (out.getD w.t []) r
structure Hu(ws:List We)(n a:Nat)(out:List (List Pa))(todo:List Nat):Prop where
 len:out.length=n
 can:∀k,Can (out.getD k [])
 val:∀k,∀p∈out.getD k [],Val ws a k p
 start:yN (out.getD a []) Pa.aAY
 lt:∀x∈todo,x<n
 clo:∀k,k<n→k∉todo→Fu ws out k
structure A2(ws:List We)(n a k:Nat)(paths:List Pa)(D:We→Pa→Prop)(out:List (List Pa))(todo:List Nat):Prop where
 len:out.length=n
 can:∀k,Can (out.getD k [])
 val:∀k,∀p∈out.getD k [],Val ws a k p
 start:yN (out.getD a []) Pa.aAY
 lt:∀x∈todo,x<n
 clo:∀j,j<n→j∉todo→j≠k→Fu ws out j
 pv:∀p∈paths,Val ws a k p
 me:k∈todo∨(out.getD k []=paths∧∀w∈ws,∀p∈paths,D w p→w.f=k→∀r,p.thn w.p=some r→yN (out.getD w.t []) r)
theorem yI{α:Type}(l:List α)(i j:Nat)(v d:α)(h:i<l.length):(l.set i v).getD j d=if j=i then v else l.getD j d:=by
 rw[Kb,Kb];by_cases e:j=i
 ·subst e;simp[h]
 rw[Kx or];simp[e]
theorem A2.put{ws:List We}{n a k:Nat}{paths:List Pa}{D:We→Pa→Prop}{out:List (List Pa)}{todo:List Nat}(W:A2 ws n a k paths D out todo){w:We}{p r:Pa}(hw:w∈ws)(hf:w.f=k)(ht:w.t<n)(hp:p∈paths)(e:p.thn w.p=some r)(hd:¬yN (out.getD w.t []) r):
 A2 ws n a k paths (fun v q=>D v q∨(v=w∧q=p)) (out.set w.t (qf (out.getD w.t []) r)) (todo++[w.t]):=by
 have aAR:∀j,(out.set w.t (qf (out.getD w.t []) r)).getD j []=if j=w.t then qf (out.getD w.t []) r else out.getD j []:=fun j=>yI _ _ _ _ _ (by rw[W.len];exact ht)
 have up:∀j x,yN (out.getD j []) x→yN ((out.set w.t (qf (out.getD w.t []) r)).getD j []) x:=fun j x h=>by
  rw[aAR];split
  ·rename_i ej;rw[ej] at h;exact ud.2 (.inl h)
  exact h
 refine⟨by simp[W.len],fun j=>?_,fun j q hq=>?_,up _ _ W.start,?_,?_,W.pv,?_⟩
 ·rw[aAR];split
  ·exact(W.can _).put hd
  exact W.can j
 ·rw[aAR] at hq;split at hq
  ·rename_i ej;subst ej;rcases(qK _ _ _).1 hq with eq|⟨h1,_⟩
   ·subst eq;exact Val.step (by rw[hf];exact W.pv p hp) hw e
   exact W.val _ q h1
  exact W.val j q hq
 ·intro x hx;rcases Kq.1 hx with h|h
  ·exact W.lt x h
  simp at h;omega
 ·intro j hj hn hk q hq v hv hvf r' hr';have hjt:j≠w.t:=fun ej=>hn (by simp[ej]);rw[aAR,if_neg hjt] at hq;exact up _ _ (W.clo j hj (fun h=>hn (by simp[h])) hk q hq v hv hvf r' hr')
 rcases W.me with h|⟨h1,h2⟩
 ·exact .inl (by simp[h])
 by_cases ek:k=w.t
 ·exact .inl (by simp[ek])
 refine .inr ⟨by rw[aAR,if_neg ek];exact h1,?_⟩;rintro v hv q hq (hD|⟨ev,eq⟩) hvf r' hr'
 ·exact up _ _ (h2 v hv q hq hD hvf r' hr')
 subst ev eq;rw[e] at hr';injection hr' with hr';subst hr';rw[aAR,if_pos rfl];exact ud.2 (.inr (Pa.le_refl _))
structure Hy(ws:List We)(a k:Nat)(l:List Pa):Prop where
 can:Can l
 val:∀p∈l,Val ws a k p
 dom:∀p,Val ws a k p→yN l p
structure Fs(ws:List We)(n a r:Nat)(at':List (List Pa)):Prop where
 len:at'.length=n
 can:∀k,k<n→Can (at'.getD k [])
 val:∀k,k<n→∀p∈at'.getD k [],Val ws a k p
 dom:∀k,k<n→∀l p,l.length≤r→Walk ws a l k→run Pa.aAY l=some p→yN (at'.getD k []) p
structure HH(l m:List Pa):Prop where
 can:Can m
 sub:∀p∈m,p∈l
 dom:∀p∈l,yN m p
theorem Fs.first{ws:List We}{n a:Nat}(ha:a<n):Fs ws n a 0 ((Kw n []).set a [Pa.aAY]):=by
 have aAR:∀j,((Kw n ([]:List Pa)).set a [Pa.aAY]).getD j []=if j=a then [Pa.aAY] else []:=fun j=>by
  rw[yI _ _ _ _ _ (by simpa using ha)];split
  ·rfl
  rw[Kb,KC];split<;>rfl
 refine⟨Zm,fun k _=>?_,fun k _ p hp=>?_,fun k _ l p hl hw hr=>?_⟩
 ·rw[aAR];split<;>simp[Can]
 ·rw[aAR] at hp;split at hp
  ·rename_i e;simp at hp;subst e hp;exact Val.aAY ws k
  cases hp
 have e:l=[]:=List.length_eq_zero_iff.1 or;subst e;have hw:a=k:=hw;have hr:some Pa.aAY=some p:=hr;injection hr with hr;subst hw hr;rw[aAR,if_pos rfl];exact⟨Pa.aAY,Zm,Pa.le_refl _⟩
theorem Hu.first{ws:List We}{n a:Nat}(ha:a<n):Hu ws n a ((Kw n []).set a [Pa.aAY]) [a]:=by
 have aAR:∀j,((Kw n ([]:List Pa)).set a [Pa.aAY]).getD j []=if j=a then [Pa.aAY] else []:=fun j=>by
  rw[yI _ _ _ _ _ (by simpa using ha)];split
  ·rfl
  rw[Kb,KC];split<;>rfl
 refine⟨Zm,fun k=>?_,fun k p hp=>?_,?_,by simpa using ha,fun k hk hn p hp=>?_⟩
 ·rw[aAR];split<;>simp[Can]
 ·rw[aAR] at hp;split at hp
  ·rename_i e;simp at hp;subst e hp;exact Val.aAY ws k
  cases hp
 ·rw[aAR,if_pos rfl];exact⟨Pa.aAY,Zm,Pa.le_refl _⟩
 rw[aAR,if_neg (by simpa using hn)] at hp;cases hp
section
variable{α:Type} [DecidableEq α]{lt:α→α→Bool}
structure Ord(lt:α→α→Bool):Prop where
 irr:∀x,lt x x=false
 trans:∀x y z,lt x y=true→lt y z=true→lt x z=true
 tot:∀x y,lt x y=false→lt y x=false→x=y
def csT(out:List α)(x:α):List α:=if out.getLast?=some x then out else out++[x]
def cs(l:List α):List α:=l.foldl csT []
end
end Go.Proofs.YtgbiopfghdilnaaGreatDoor
namespace Go.Proofs.YtgbiopfghdilnaaGreatDoor
open Go.RowKit
attribute [local irreducible] Kt
def Pa.v(p:Pa):V:= .agg [.bool p.n, .int .i64 p.a]
def eF(n:Int):V:=if n=0 then .nilIface else .iface 100 (.int .i64 n)
theorem AC:eF 0= .nilIface:=rfl
theorem eU(L:Nat→Prop)(n:Int):(eF n).names L:=by unfold eF;split<;>simp[Km]
theorem rR(n:Int):veq (.iface true) (eF n) .nilIface=some (decide (n=0)):=by
 unfold eF;split<;>simp_all [veq]
end Go.Proofs.YtgbiopfghdilnaaGreatDoor
namespace Go.Proofs.YtgbiopfghdilnaaGreatDoor
open Go.RowKit Go.Sort
attribute [local irreducible] Kt
theorem vb{a b:Bool}(h:a=true↔b=true):V.bool a=V.bool b:=by rw[KJ.2 h]
theorem El:aE Tryz.prog 106=some (LB.aD0 153):=Zz
theorem Eg:aE Tryz.prog 153=some LB.aCd:=Zz
theorem nf(s:ByteArray)(h:Hp):aK Tryz.prog 155 [.str s] h (.bool false):=by
 refine aH (fun L=>trivial) fun h' nx hh=>aB L.aZp fun hd=>?_;refine ZK ?_;refine au ?_;refine aC h' (leo hd) ⟨?_,rfl⟩;simp
theorem AQ(a b:UInt8):i7 a b=-1∨i7 a b=0∨i7 a b=1:=by
 unfold i7 sU;split
 ·simp
 split<;>simp
theorem zX:∀x y:List UInt8,eV i7 x y=-1∨eV i7 x y=0∨eV i7 x y=1
 | [],[]=>by simp[eV]
 | [],_::_=>by simp[eV]
 |_::_,[]=>by simp[eV]
 |a::x,b::y=>by
  unfold eV orC;split
  ·exact zX x y
  exact AQ a b
theorem Gf(a b:ByteArray):AR a b=if Op.bytesLess a.toList b.toList=true then-1 else if (!(Op.bytesLess a.toList b.toList||a.toList==b.toList))=true then 1 else 0:=by
 rw[dN,je];have h1:=zX a.toList b.toList;have h2:=c3S.eq a b;unfold AR at h2⊢;by_cases e:a=b
 ·subst e;have:=h2.2 rfl;rw[this];simp
 have h3:eV i7 a.toList b.toList≠0:=fun k=>e (h2.1 k);rcases h1 with h1|h1|h1
 ·rw[h1];simp
 ·exact absurd h1 h3
 rw[h1];simp[e]
theorem Dp(a b:ByteArray)(h:Hp):aK Tryz.prog 108 [.str a, .str b] h (.int .i64 (AR a b)):=by
 refine aH (fun L=>trivial) fun h' nx hh=>aB L.bCi fun hd=>?_;refine ZK ?_;have C1:=fun h=>nf a h;have C2:=fun h=>nf b h;rw[Gf];cases h1:Op.bytesLess a.toList b.toList with
 |true=>
  refine aue h1 ?_;exact aC h' (leo hd) ⟨rfl,rfl⟩
 |false=>
  cases h2:a.toList==b.toList with
  |true=>
   refine aue (e4 h1 h2 QF QC) ?_;exact aC h' (leo hd) ⟨rfl,rfl⟩
  |false=>
   refine aue (e4 h1 h2 QF QC) ?_;exact aC h' (leo hd) ⟨rfl,rfl⟩
theorem Ge(a b:Vl):orI [sU a.k b.k,sU a.n b.n,AR a.s b.s]=rh a b:=by
 simp only[orI,rh,orC];repeat' split
 all_goals first|rfl|omega
theorem BU(a b:Vl)(h:Hp):aK Tryz.prog 65 [a.v,b.v] h (.int .i64 (rh a b)):=by
 refine aH (fun L=>trivial) fun h' nx hh=>aB L.bDf fun hd=>?_;refine ZK ?_;have D1:=fun h=>ja El Eg a.k b.k h;have D2:=fun h=>ja Aj FU a.n b.n h;have D3:=fun h=>Dp a.s b.s h;have D4:=fun h=>Cj CF (.tok (nx+17)) [sU a.k b.k,sU a.n b.n,AR a.s b.s] Zm h;rw[Ge] at D4;refine aue Vl.v.eq_1 ?_;exact aC h' (leo hd) ⟨rfl,rfl⟩
theorem xA(n:Int)(h:Hp):aK Tryz.prog 97 [.int .i64 n] h (.bool (iB n)):=by
 refine aH (fun L=>trivial) fun h' nx hh=>aB L.bA7 fun hd=>?_;refine ZK ?_;unfold iB;by_cases h1:-2147483647≤n
 ·have h2:decide (-2147483647≤n)=true:=dct;refine aue h2 ?_;refine aC h' (leo hd) ⟨?_,rfl⟩;simp[h1]
 have h2:decide (-2147483647≤n)=false:=dcf;refine aue h2 ?_;refine aC h' (leo hd) ⟨?_,rfl⟩;simp[h1]
theorem vh(c:Nat)(h:Hp):aK Tryz.prog 148 [.int .u8 c] h (.bool (eC c)):=by
 refine aH (fun L=>trivial) fun h' nx hh=>aB L.aPF fun hd=>?_;refine ZK ?_;unfold eC;by_cases h1:(97:Int)≤c
 ·have h2:decide ((97:Int)≤c)=true:=dct;refine aue h2 ?_;refine aC h' (leo hd) ⟨?_,rfl⟩;have:97≤c:=or;simp[this];omega
 have h2:decide ((97:Int)≤c)=false:=dcf;refine aue h2 ?_;refine aC h' (leo hd) ⟨?_,rfl⟩;simp;omega
theorem Af(c:Nat)(h:Hp):aK Tryz.prog 147 [.int .i32 c] h (.bool (lQ c)):=by
 refine aH (fun L=>trivial) fun h' nx hh=>aB L.aPQ fun hd=>?_;refine ZK ?_;unfold lQ lK;cases h1:decide ((97:Int)≤c)<;>cases h2:decide ((c:Int)≤122)<;>cases h3:decide ((48:Int)≤c)<;>cases h4:decide ((c:Int)≤57)<;>
  (refine aue (e4 h1 h2 h3 h4) ?_
   refine aC h' (leo hd) ⟨?_,rfl⟩;simp only[decide_eq_true_eq,decide_eq_false_iff_not] at h1 h2 h3 h4;refine vb ?_;simp;try omega)
theorem nh(s:ByteArray)(h:Hp):aK Tryz.prog 98 [.str s] h (.bool (gV s)):=by
 refine aH (fun L=>trivial) fun h' nx hh=>aB L.bA6 fun hd=>?_;refine ZK ?_;have C1:=fun h=>vh (byt s 0) h;have C2:=fun h=>yQ lQ 147 [] (fun x _=>Af x Hp.none) s h;have hb:(s.data.toList.getD 0 0).toNat=byt s 0:=rfl;have aAr:(s.toList==(⟨#[]⟩:ByteArray).toList)=decide (s.size=0):=by
  rw[dN];congr 1;rw[eq_iff_iff];exact⟨fun e=>by rw[e];rfl,fun e=>by cases s with|mk d=>simp only[ByteArray.size] at e;rw[Kp e]⟩
 rw[s7] at C2;by_cases h0:s.size=0
 ·have g0:decide (s.size=0)=true:=dct;have:gV s=false:=by unfold gV;exact decide_eq_false or
  refine aue (e2 aAr g0) ?_;exact aC h' (leo hd) ⟨by rw[this]<;>rfl,rfl⟩
 have g0:decide (s.size=0)=false:=dcf;by_cases h1:32<s.size
 ·have g1:decide ((s.size:Int)≤32)=false:=dcf;have:gV s=false:=by unfold gV;exact decide_eq_false or
  refine aue (e3 aAr g0 g1) ?_;exact aC h' (leo hd) ⟨by rw[this]<;>rfl,rfl⟩
 have g1:decide ((s.size:Int)≤32)=true:=dct;have aAu:0<s.size:=or;cases h2:eC (byt s 0) with
 |false=>
  rw[h2] at C1;have:gV s=false:=by unfold gV;exact decide_eq_false (by simp[h2])
  refine aue (e5 aAr g0 g1 hb aAu) ?_;exact aC h' (leo hd) ⟨by rw[this]<;>rfl,rfl⟩
 |true=>
  rw[h2] at C1;have:gV s=decide (∀i,i<s.size→lK (byt s i)=true):=by
   unfold gV;congr 1;rw[eq_iff_iff];exact⟨fun k=>k.2.2.2,fun k=>⟨or,or,h2,k⟩⟩
  refine aue (e5 aAr g0 g1 hb aAu) ?_;refine aC h' (leo hd) ⟨?_,rfl⟩;rw[this];simp
theorem lD(x:Vl)(h:Hp):aK Tryz.prog 54 [x.v] h (.bool (dL x)):=by
 refine aH (fun L=>trivial) fun h' nx hh=>aB L.bA9 fun hd=>?_;refine ZK ?_;have C1:=fun h=>xA x.n h;have C2:=fun h=>nh x.s h;have aAr:(x.s.toList==(⟨#[]⟩:ByteArray).toList)=decide (x.s.size=0):=by
  rw[dN];congr 1;rw[eq_iff_iff];exact⟨fun e=>by rw[e];rfl,fun e=>by cases hs:x.s with|mk d=>rw[hs] at e;simp only[ByteArray.size] at e;rw[Kp e]⟩
 unfold dL;by_cases k1:x.k=1
 ·have g1:(x.k==1)=true:=bqt;by_cases k2:x.s.size=0
  ·have g2:decide (x.s.size=0)=true:=dct;refine aue (e4 Vl.v.eq_1 g1 aAr g2) ?_;refine aC h' (leo hd) ⟨?_,rfl⟩;simp[k1,k2]
  have g2:decide (x.s.size=0)=false:=dcf;refine aue (e4 Vl.v.eq_1 g1 aAr g2) ?_;refine aC h' (leo hd) ⟨?_,rfl⟩;simp[k1,k2]
 have g1:(x.k==1)=false:=bqf;by_cases k3:x.k=2
 ·have g3:(x.k==2)=true:=bqt;by_cases k2:x.n=0
  ·have g2:(x.n==0)=true:=bqt;refine aue (e4 Vl.v.eq_1 g1 g3 g2) ?_;refine aC h' (leo hd) ⟨?_,rfl⟩;simp[k3,k2]
  have g2:(x.n==0)=false:=bqf;refine aue (e4 Vl.v.eq_1 g1 g3 g2) ?_;refine aC h' (leo hd) ⟨?_,rfl⟩;simp[k3,k2]
 have g3:(x.k==2)=false:=bqf;refine aue (e3 Vl.v.eq_1 g1 g3) ?_;refine aC h' (leo hd) ⟨?_,rfl⟩;simp[k1,k3]
theorem DD(n:Int)(h:Hp):aK Tryz.prog 184 [.int .i64 n] h (.tup [(ofV n).1.v,eF (ofV n).2]):=by
 refine aH (fun L=>⟨Vl.aAK L _,by unfold eF;split<;>simp[Km],trivial⟩) fun h' nx hh=>aB L.aZK fun hd=>?_;refine ZK ?_;have C1:=fun h=>xA n h;unfold ofV;cases hb:iB n with
 |true=>
  rw[hb] at C1;refine au ?_;refine aP (by simp only[go_sem,reduceIte,jA,jB,jC,jD,reduceCtorEq,jE,jF]) h' (leo hd) ⟨?_,rfl⟩;refine Zn ?_;rfl
 |false=>
  rw[hb] at C1;refine au ?_;refine aP (by simp only[go_sem,reduceIte,jA,jB,jC,jD,reduceCtorEq,jE,jF]) h' (leo hd) ⟨?_,rfl⟩;refine Zn ?_;rfl
theorem tT(s:ByteArray)(hl:s.size≤9223372036854775807)(h:Hp):aK Tryz.prog 156 [.str s] h (.bool (gV s)):=by
 refine aH (fun L=>trivial) fun h' nx hh=>aB L.aZo fun hd=>?_;refine ZK ?_;refine au ?_
 refine aO (fun i:Nat=>aD 48 0 [(0, .str s),(3, .int .i64 i)])
  (fun i hp nx1=>i≤s.size∧hp=h'∧(∀j,j<i→lK (byt s j)=true)∧(0<i→eC (byt s 0)=true))
  (fun i=>s.size-i) 0 ⟨Ko _,rfl,fun j hj=>absurd hj or,fun h=>absurd h or⟩ (by simp only[WkL,aD,jH,jI,jJ,go_sem,reduceIte,jA,jB,jC,jD,reduceCtorEq,jE,jF]) ?_
 rintro i hp nx1 ⟨hi,rfl,aDE,aCS⟩;generalize hQ:aV _ _ _ _ _=Q0;refine Zk ?_;rcases Ku i s.size with hlt|hge
 ·have hc:decide ((i:Int)<(s.size:Int))=true:=dct;have hw:IntKind.i64.wrap ((i:Int)+1)=((i+1:Nat):Int):=wrp;have hb:(s.data.toList.getD i 0).toNat=byt s i:=rfl;have hi0:((i:Int)==0)=decide (i=0):=by by_cases e:i=0<;>simp[e]
  obtain⟨c,hcq⟩:∃c,byt s i=c:=⟨_,rfl⟩;have bad:((eC c=false∧(i=0∨lK c=false)))→gV s=false:=fun k=>by
   unfold gV;refine decide_eq_false fun n=>?_;rcases k with⟨k1,rfl|k2⟩
   ·rw[hcq] at n;rw[n.2.2.1] at k1;cases k1
   have:=n.2.2.2 i hlt;rw[hcq,k2] at this;cases this
  have bCS:(eC c=true∨(i≠0∧lK c=true))→(∀j,j<i+1→lK (byt s j)=true)∧(0<i+1→eC (byt s 0)=true):=fun k=>by
   refine⟨fun j hj=>?_,fun _=>?_⟩
   ·rcases Ku j i with h|h
    ·exact aDE j h
    have:j=i:=or;subst this;rw[hcq];rcases k with k|k
    ·simp only[eC,lK,decide_eq_true_eq] at k⊢;exact .inl k
    exact k.2
   rcases Nat.eq_zero_or_pos i with h|h
   ·subst h;rw[hcq];exact k.elim id fun k=>absurd rfl k.1
   exact aCS h
  cases h0:decide (i=0)<;>cases h1:decide ((97:Int)≤c)<;>cases h2:decide ((c:Int)≤122)<;>cases h3:decide ((48:Int)≤c)<;>cases h4:decide ((c:Int)≤57)<;>cases h5:((c:Int) != 95)<;>
   (have g:=e6 h0 h1 h2 h3 h4 h5
    simp only[decide_eq_true_eq,decide_eq_false_iff_not,bne_iff_ne,bne_eq_false_iff_eq,ne_eq] at g;try (exfalso;omega))
  all_goals refine aue (e11 hc hw hb hi0 hcq h0 h1 h2 h3 h4 (e2 h5 hlt)) ?_
  all_goals
   rw[←hQ]
   first
    |refine aF (i+1) or ⟨or,rfl,bCS (by simp only[eC,lK,decide_eq_true_eq];omega)⟩ (by simp only[WkL,aD,jH,jI,jJ,go_sem,reduceIte,jA,jB,jC,jD,reduceCtorEq,jE,jF])
    |(refine au ?_
      exact aC hp (leo hd) ⟨by rw[bad (by simp only[eC,lK,decide_eq_false_iff_not];omega)]<;>rfl,rfl⟩)
 have hc:decide ((i:Int)<(s.size:Int))=false:=dcf;have hi:i=s.size:=or;subst hi;refine aue hc ?_;rw[←hQ];have hn:gV s=(decide ((s.size:Int)≥1)&&decide ((s.size:Int)≤32)):=by
  rw[KJ];simp only[gV,Qm,decide_eq_true_eq];exact⟨fun k=>⟨or,or⟩,fun k=>⟨or,or,aCS or,aDE⟩⟩
 cases h1:decide ((s.size:Int)≥1) with
 |true=>
  have h1':decide (1≤(s.size:Int))=true:=h1;refine aue h1' ?_;refine aC hp (leo hd) ⟨?_,rfl⟩;rw[hn,h1,Qf];rfl
 |false=>
  have h1':decide (1≤(s.size:Int))=false:=h1;refine aue h1' ?_;refine aC hp (leo hd) ⟨?_,rfl⟩;rw[hn,h1];rfl
theorem iY(x:Vl)(hl:x.s.size≤9223372036854775807)(h:Hp):aK Tryz.prog 110 [x.v] h (.bool (dL x)):=by
 refine aH (fun L=>trivial) fun h' nx hh=>aB L.bCg fun hd=>?_;refine ZK ?_;have C1:=fun h=>tT x.s hl h;unfold dL iB;cases k1:(x.k==1) with
 |true=>
  have q1:x.k=1:=by simpa using k1
  cases k2:((x.s.size:Int)==0) with
  |true=>
   have q2:x.s.size=0:=by simpa using k2
   cases k3:decide (-2147483647≤x.n) with
   |true=>
    refine aue (e4 Vl.v.eq_1 k1 k2 k3) ?_;refine aC h' (leo hd) ⟨vb ?_,rfl⟩;simp only[decide_eq_true_eq] at k3;simp[q1,q2,k3]
   |false=>
    refine aue (e4 Vl.v.eq_1 k1 k2 k3) ?_;refine aC h' (leo hd) ⟨vb ?_,rfl⟩;simp only[decide_eq_false_iff_not] at k3;simp[q1,q2];omega
  |false=>
   have q2:x.s.size≠0:=by simpa using k2
   refine aue (e3 Vl.v.eq_1 k1 k2) ?_;refine aC h' (leo hd) ⟨vb ?_,rfl⟩;simp[q1,q2]
 |false=>
  have q1:x.k≠1:=by simpa using k1
  cases k2:(x.k==2) with
  |true=>
   have q2:x.k=2:=by simpa using k2
   cases k3:(x.n==0) with
   |true=>
    have q3:x.n=0:=by simpa using k3
    refine aue (e4 Vl.v.eq_1 k1 k2 k3) ?_;refine aC h' (leo hd) ⟨vb ?_,rfl⟩;simp[q2,q3]
   |false=>
    have q3:x.n≠0:=by simpa using k3
    refine aue (e4 Vl.v.eq_1 k1 k2 k3) ?_;refine aC h' (leo hd) ⟨vb ?_,rfl⟩;simp[q2,q3]
  |false=>
   have q2:x.k≠2:=by simpa using k2
   refine aue (e3 Vl.v.eq_1 k1 k2) ?_;refine aC h' (leo hd) ⟨vb ?_,rfl⟩;simp[q1,q2]
theorem r7(a b:Vl)(h:Hp):aK Tryz.prog 157 [a.v,b.v] h (.bool (BB a b)):=by
 refine aH (fun L=>trivial) fun h' nx hh=>aB L.aZn fun hd=>?_;refine ZK ?_;unfold BB rh orC sU;cases k1:(a.k != b.k) with
 |true=>
  have q1:a.k≠b.k:=by simpa using k1
  refine aue (ee2 Vl.v.eq_1 k1) ?_;refine aC h' (leo hd) ⟨vb ?_,rfl⟩;simp only[decide_eq_true_eq];repeat' split
  all_goals omega
 |false=>
  have q1:a.k=b.k:=by simpa using k1
  cases k2:(a.n != b.n) with
  |true=>
   have q2:a.n≠b.n:=by simpa using k2
   refine aue (e3 Vl.v.eq_1 k1 k2) ?_;refine aC h' (leo hd) ⟨vb ?_,rfl⟩;simp only[decide_eq_true_eq];repeat' split
   all_goals omega
  |false=>
   have q2:a.n=b.n:=by simpa using k2
   refine aue (e3 Vl.v.eq_1 k1 k2) ?_;refine aC h' (leo hd) ⟨vb ?_,rfl⟩;simp only[je,decide_eq_true_eq,q1,q2,Int.lt_irrefl,if_false,if_true];exact Iff.rfl
theorem oF(n:Int)(h:Hp):aK Tryz.prog 16 [eF n] h (.int .i64 n):=by
 refine aH (fun L=>trivial) fun h' nx hh=>aB L.bFT fun hd=>?_;refine ZK ?_;by_cases hn:n=0
 ·subst hn;refine aue AC ?_;exact aC h' (leo hd) ⟨rfl,rfl⟩
 have e:eF n= .iface 100 (.int .i64 n):=by unfold eF;rw[if_neg hn]
 have e2:(n != 0)=true:=by simpa using hn
 refine aue (ee2 e e2) ?_;exact aC h' (leo hd) ⟨rfl,rfl⟩
end Go.Proofs.YtgbiopfghdilnaaGreatDoor
namespace Go.Proofs.YtgbiopfghdilnaaGreatDoor
open Go.RowKit Go.Sort
attribute [local irreducible] Kt
theorem oD{P:Program}{f:FuncId}{args:List V}{v:V}(hn:∀L,v.names L)(hen:oP P f=true)(hc:∀(K:Ker) (cargs:Array Value),iX K→VRs K args cargs→Calls P f cargs K.w fun e w'=>∃cv,e= .returned cv∧(∀K,VR K v cv)∧eR K.w w')(h:Hp):aK P f args h v:=by
 refine aH hn fun h' nx hh=>⟨hen,fun K cargs hlv hr hv=>?_⟩;refine(hc K cargs hr.size hv).mono ?_;rintro e w' ⟨cv,rfl,hv',hb⟩;exact⟨{K with w:=w'},v,cv,h',nx,rfl,rfl,rB hb,hv' _,hr.later hb,fun n hn=>⟨hlv n hn, .inl hn⟩,Kk _,rfl,rfl⟩
theorem aU{t u v:Nat}{R:V→Hp→Nat→Prop}{s:St}(h':Hp)(hle:h'.le s.h)(hR:R (.tup [s.sl.getD t Ka,s.sl.getD u Ka,s.sl.getD v Ka]) h' s.nx):pR [.slot t, .slot u, .slot v] R .ret s:=⟨h',hle,hR⟩
theorem Ba{K:Ker}{a:V}{c:Array Value}(h:VRs K [a] c):∃x,c=#[x]∧VR K a x:=by
 obtain⟨hs,hv⟩:=h;have hs:c.size=1:=by simpa using hs.symm
 refine⟨c[0],?_,?_⟩
 ·apply Qj
  ·simp[hs]
  intro i h1 h2;obtain rfl:i=0:=or;rfl
 have:=hv 0 Zm;simpa [Qy,hs] using this
theorem A9{K:Ker}{a b:V}{c:Array Value}(h:VRs K [a,b] c):∃x y,c=#[x,y]∧VR K a x∧VR K b y:=by
 obtain⟨hs,hv⟩:=h;have hs:c.size=2:=by simpa using hs.symm
 refine⟨c[0],c[1],?_,?_,?_⟩
 ·apply Qj
  ·simp[hs]
  intro i h1 h2;have:i=0∨i=1:=or;rcases this with rfl|rfl<;>rfl
 ·have:=hv 0 Zm;simpa [Qy,hs] using this
 have:=hv 1 Zm;simpa [Qy,hs] using this
set_option maxRecDepth 100000 in
theorem rE(s:ByteArray)(c:Int)(w:World):
 Calls Tryz.prog 207 #[.string s, .int .u8 c] w fun e w'=>e= .returned (.int .i64 (Lib.indexByte s.data.toList c.toNat.toUInt8))∧w'=w:=by
 go_enter Tryz.func207,Tryz.ntmps207
 go_wp2
 rw[run_callFunc_extern Tryz.func221 Zz Zz Zz (e:=Extern.BytealgIndexByte.indexByte) Zz,Lib.run_indexByteString];simp only[Result.andThen];rw[Oper.upon_value]
 go_wp2
 go_ret
 exact⟨rfl,rfl⟩
theorem bf(s:ByteArray)(c:Nat)(h:Hp):aK Tryz.prog 207 [.str s, .int .u8 c] h (.int .i64 (Lib.indexByte s.data.toList c.toUInt8)):=by
 refine oD ?_ Zz (fun K cargs _ hv=>?_) h
 ·exact fun L=>trivial
 obtain⟨x,y,rfl,v1,v2⟩:=A9 hv;cases v1;cases v2;refine(rE s c K.w).mono ?_;rintro e w' ⟨rfl,rfl⟩;exact⟨_,rfl,fun K=> .int _ _,eR.refl _⟩
theorem ia(s:ByteArray)(c:Nat)(h:Hp):aK Tryz.prog 198 [.str s, .int .u8 c] h (.int .i64 (Lib.indexByte s.data.toList c.toUInt8)):=by
 refine aH (fun L=>trivial) fun h' nx hh=>aB L.aZA fun hd=>?_;simp only[Ke,Kj,Kh,Ki,Kc,Kd,Kf,Kg,Ka];have C1:=fun h=>bf s c h;refine au ?_;exact aC h' (leo hd) ⟨rfl,rfl⟩
theorem wd:∀(l:List UInt8) (c:UInt8),(∃i:Nat,i<l.length∧Lib.indexByte l c=i∧l.getD i 0=c∧∀j,j<i→l.getD j 0≠c)∨(Lib.indexByte l c=-1∧∀j,j<l.length→l.getD j 0≠c)
 | [],c=> .inr ⟨rfl,fun j hj=>absurd hj Zm⟩
 |b::l,c=>by
  unfold Lib.indexByte;by_cases hb:b=c
  ·subst hb;exact .inl ⟨0,Zm,Zm,Zm,fun j hj=>absurd hj or⟩
  rw[if_neg (by simpa using hb)];rcases wd l c with⟨i,h1,h2,h3,h4⟩|⟨h2,h4⟩
  ·refine .inl ⟨i+1,by simpa using h1,?_,by simpa using h3,fun j hj=>?_⟩
   ·rw[h2,if_neg (by rw[beq_iff_eq];omega)];omega
   cases j with
   |zero=>simpa using hb
   |succ j=>simpa using h4 j or
  refine .inr ⟨by rw[h2];rfl,fun j hj=>?_⟩;cases j with
  |zero=>simpa using hb
  |succ j=>simpa using h4 j (by simpa using hj)
theorem Dt(c:Nat)(hc:c<256):decide (0≤Lib.indexByte [9,10,13,32] c.toUInt8)=kF c:=by
 revert c;decide+kernel
def iU(r:ByteArray):Nat:=eZ (fun c=>decide (c≠10)) r 0
theorem Ez(r:ByteArray):Lib.indexByte r.data.toList 10=if iU r<r.size then (iU r:Int) else-1:=by
 have hb:∀j,(byt r j=10)↔r.data.toList.getD j 0=10:=fun j=>by
  unfold byt;constructor
  ·intro h;exact UInt8.toNat_inj.1 (by rw[h];rfl)
  intro h;rw[h];rfl
 have hl:r.data.toList.length=r.size:=Zm;rcases wd r.data.toList 10 with⟨i,h1,h2,h3,h4⟩|⟨h2,h4⟩
 ·have:iU r=i:=rT (Ko _) or (fun k _ hk=>decide_eq_true fun e=>h4 k hk ((hb k).1 e)) (.inr (decide_eq_false fun e=>e ((hb i).2 h3)));rw[this,if_pos or,h2]
 have:iU r=r.size:=rT (Ko _) (Kk _) (fun k _ hk=>decide_eq_true fun e=>h4 k or ((hb k).1 e)) (.inl rfl);rw[this,if_neg or,h2]
set_option maxRecDepth 100000 in
theorem Av(s:ByteArray)(c:UInt8)(w:World):
 Calls Tryz.prog 222 #[.string s, .string ⟨#[c]⟩] w fun e w'=>e= .returned (.int .i64 (Lib.indexByte s.data.toList c))∧w'=w:=by
 go_enter Tryz.func222,Tryz.ntmps222
 go_wp2_with (go_at_call 207;refine(rE _ _ _).mono ?_;rintro e w' ⟨rfl,rfl⟩)
 ·have h:([c]==s.toList)=true:=by assumption
  go_ret
  refine⟨?_,rfl⟩;have e:s.data.toList=[c]:=by rw[←Lib.toList_data];exact(beq_iff_eq.1 h).symm
  rw[e];simp[Lib.indexByte]
 go_ret
 exact⟨rfl,rfl⟩
theorem wb(r:ByteArray)(h:Hp):aK Tryz.prog 222 [.str r, .str ⟨#[10]⟩] h (.int .i64 (if iU r<r.size then (iU r:Int) else-1)):=by
 rw[←Ez];refine oD ?_ Zz (fun K cargs _ hv=>?_) h
 ·exact fun L=>trivial
 obtain⟨x,y,rfl,v1,v2⟩:=A9 hv;cases v1;cases v2;refine(Av r 10 K.w).mono ?_;rintro e w' ⟨rfl,rfl⟩;exact⟨_,rfl,fun K=> .int _ _,eR.refl _⟩
theorem Gb(r:ByteArray)(hl:r.size≤1000000)(h:Hp):∃a b,aK Tryz.prog 208 [.str r, .str ⟨#[10]⟩] h (.tup [.str (r.extract 0 (iU r)), .str a, .bool b]):=by
 have hle:iU r≤r.size:=(fB _ r 0 (Ko _)).2.1;by_cases hc:iU r<r.size
 ·refine⟨r.extract (iU r+1) r.size,true,aH (fun L=>⟨trivial,trivial,trivial,trivial⟩) fun h' nx hh=>aB L.aMP fun hd=>?_⟩;simp only[Ke,Kj,Kh,Ki,Kc,Kd,Kf,Kg,Ka];have C1:=fun h=>wb r h;rw[if_pos hc] at C1;have g1:decide ((iU r:Int)≥0)=true:=dct;have g2:decide ((0:Int)≤iU r)=true:=dct;have g3:IntKind.i64.wrap ((iU r:Int)+((1:Nat):Int))=((iU r+1:Nat):Int):=wrp;have g4:(⟨#[10]⟩:ByteArray).size=1:=rfl;have g5:iU r+1≤r.size:=hc;refine aue (e7 g4 g1 g2 g3 hc (KD (iU r+1)) g5) ?_;refine aU h' (leo hd) ⟨?_,rfl⟩;simp only[go_sem,reduceIte,Kh,Ki,KX,KG,reduceCtorEq,KH,KK]
 refine⟨⟨#[]⟩,false,aH (fun L=>⟨trivial,trivial,trivial,trivial⟩) fun h' nx hh=>aB L.aMP fun hd=>?_⟩;simp only[Ke,Kj,Kh,Ki,Kc,Kd,Kf,Kg,Ka];have C1:=fun h=>wb r h;rw[if_neg hc] at C1;have g1:decide ((0:Int)≤-1)=false:=ZM;refine aue g1 ?_;refine aU h' (leo hd) ⟨?_,rfl⟩;have:r.extract 0 (iU r)=r:=by rw[show iU r=r.size by omega,wS]
 rw[this];rfl
theorem GY(r:ByteArray)(hl:r.size≤1000000)(h:Hp):∃a b,aK Tryz.prog 199 [.str r, .str ⟨#[10]⟩] h (.tup [.str (r.extract 0 (iU r)), .str a, .bool b]):=by
 obtain⟨a,b,hc⟩:=Gb r hl Hp.none;refine⟨a,b,aH (fun L=>⟨trivial,trivial,trivial,trivial⟩) fun h' nx hh=>aB L.aY9 fun hd=>?_⟩;simp only[Ke,Kj,Kh,Ki,Kc,Kd,Kf,Kg,Ka];have C1:=fun h=>hc.mono (bD h);refine au ?_;exact aU h' (leo hd) ⟨rfl,rfl⟩
end Go.Proofs.YtgbiopfghdilnaaGreatDoor
namespace Go.Proofs.YtgbiopfghdilnaaGreatDoor
open Go.Shelf
def jj:Go.Shelf.Ren:=⟨fun|172=>188|244=>203|245=>204|247=>214|279=>215|280=>216|281=>217|282=>218|287=>224|316=>225|171=>212|205=>226|321=>234|322=>235|243=>223|246=>233|283=>238|284=>239|285=>240|286=>241|129=>243|317=>242|318=>244|319=>245|320=>246|337=>247|338=>248|n=>n,fun|9=>9|3=>3|75=>34|76=>261|4=>4|5=>5|167=>290|37=>291|0=>0|85=>292|2=>2|168=>294|53=>299|175=>300|46=>302|210=>305|127=>310|145=>313|143=>311|21=>21|171=>318|173=>321|212=>324|51=>315|20=>20|213=>325|232=>328|233=>329|80=>330|n=>n,fun|15=>4|16=>5|17=>7|18=>8|19=>9|n=>n⟩
theorem jk:Go.Proofs.LaysC.n172 Tryz.prog jj:={
 mixed:=Zz
 f129:=Tryz.func243.trans (congrArg some Zz)
 f171:=Tryz.func212.trans (congrArg some Zz)
 f172:=Tryz.func188.trans (congrArg some Zz)
 f205:=Tryz.func226.trans (congrArg some Zz)
 f243:=Tryz.func223.trans (congrArg some Zz)
 f244:=Tryz.func203.trans (congrArg some Zz)
 f245:=Tryz.func204.trans (congrArg some Zz)
 f246:=Tryz.func233.trans (congrArg some Zz)
 f247:=Tryz.func214.trans (congrArg some Zz)
 f279:=Tryz.func215.trans (congrArg some Zz)
 f280:=Tryz.func216.trans (congrArg some Zz)
 f281:=Tryz.func217.trans (congrArg some Zz)
 f282:=Tryz.func218.trans (congrArg some Zz)
 f283:=Tryz.func238.trans (congrArg some Zz)
 f284:=Tryz.func239.trans (congrArg some Zz)
 f285:=Tryz.func240.trans (congrArg some Zz)
 f286:=Tryz.func241.trans (congrArg some Zz)
 f287:=Tryz.func224.trans (congrArg some Zz)
 f316:=Tryz.func225.trans (congrArg some Zz)
 f317:=Tryz.func242.trans (congrArg some Zz)
 f318:=Tryz.func244.trans (congrArg some Zz)
 f319:=Tryz.func245.trans (congrArg some Zz)
 f320:=Tryz.func246.trans (congrArg some Zz)
 f321:=Tryz.func234.trans (congrArg some Zz)
 f322:=Tryz.func235.trans (congrArg some Zz)
 f337:=Tryz.func247.trans (congrArg some Zz)
 f338:=Tryz.func248.trans (congrArg some Zz)
 t0:=Tryz.underlying0
 a0:=Tryz.isAgg0
 z0:=Tryz.sizeOf0
 v0:=Tryz.zeroValue0
 t2:=Tryz.underlying2
 a2:=Tryz.isAgg2
 z2:=Tryz.sizeOf2
 v2:=Tryz.zeroValue2
 t3:=Tryz.underlying3
 a3:=Tryz.isAgg3
 z3:=Tryz.sizeOf3
 v3:=Tryz.zeroValue3
 t4:=Tryz.underlying4
 a4:=Tryz.isAgg4
 z4:=Tryz.sizeOf4
 v4:=Tryz.zeroValue4
 t5:=Tryz.underlying5
 a5:=Tryz.isAgg5
 z5:=Tryz.sizeOf5
 v5:=Tryz.zeroValue5
 t9:=Tryz.underlying9
 a9:=Tryz.isAgg9
 z9:=Tryz.sizeOf9
 v9:=Tryz.zeroValue9
 t20:=Tryz.underlying20
 a20:=Tryz.isAgg20
 z20:=Tryz.sizeOf20
 v20:=Tryz.zeroValue20
 t21:=Tryz.underlying21
 a21:=Tryz.isAgg21
 z21:=Tryz.sizeOf21
 v21:=Tryz.zeroValue21
 t37:=Tryz.underlying291
 a37:=Tryz.isAgg291
 z37:=Tryz.sizeOf291
 v37:=Tryz.zeroValue291
 t46:=Tryz.underlying302
 a46:=Tryz.isAgg302
 z46:=Tryz.sizeOf302
 v46:=Tryz.zeroValue302
 t51:=Tryz.underlying315
 a51:=Tryz.isAgg315
 z51:=Tryz.sizeOf315
 v51:=Tryz.zeroValue315
 t53:=Tryz.underlying299
 a53:=Tryz.isAgg299
 z53:=Tryz.sizeOf299
 v53:=Tryz.zeroValue299
 t75:=Tryz.underlying34
 a75:=Tryz.isAgg34
 z75:=Tryz.sizeOf34
 v75:=Tryz.zeroValue34
 t76:=Tryz.underlying261
 a76:=Tryz.isAgg261
 z76:=Tryz.sizeOf261
 v76:=Tryz.zeroValue261
 t85:=Tryz.underlying292
 a85:=Tryz.isAgg292
 z85:=Tryz.sizeOf292
 v85:=Tryz.zeroValue292
 t127:=Tryz.underlying310
 a127:=Tryz.isAgg310
 z127:=Tryz.sizeOf310
 v127:=Tryz.zeroValue310
 t143:=Tryz.underlying311
 a143:=Tryz.isAgg311
 z143:=Tryz.sizeOf311
 v143:=Tryz.zeroValue311
 t145:=Tryz.underlying313
 a145:=Tryz.isAgg313
 z145:=Tryz.sizeOf313
 v145:=Tryz.zeroValue313
 t167:=Tryz.underlying290
 a167:=Tryz.isAgg290
 z167:=Tryz.sizeOf290
 v167:=Tryz.zeroValue290
 t168:=Tryz.underlying294
 a168:=Tryz.isAgg294
 z168:=Tryz.sizeOf294
 v168:=Tryz.zeroValue294
 t171:=Tryz.underlying318
 a171:=Tryz.isAgg318
 z171:=Tryz.sizeOf318
 v171:=Tryz.zeroValue318
 t173:=Tryz.underlying321
 a173:=Tryz.isAgg321
 z173:=Tryz.sizeOf321
 v173:=Tryz.zeroValue321
 t175:=Tryz.underlying300
 a175:=Tryz.isAgg300
 z175:=Tryz.sizeOf300
 v175:=Tryz.zeroValue300
 t210:=Tryz.underlying305
 a210:=Tryz.isAgg305
 z210:=Tryz.sizeOf305
 v210:=Tryz.zeroValue305
 t212:=Tryz.underlying324
 a212:=Tryz.isAgg324
 z212:=Tryz.sizeOf324
 v212:=Tryz.zeroValue324
 t213:=Tryz.underlying325
 a213:=Tryz.isAgg325
 z213:=Tryz.sizeOf325
 t232:=Tryz.underlying328
 a232:=Tryz.isAgg328
 z232:=Tryz.sizeOf328
 v232:=Tryz.zeroValue328
 t233:=Tryz.underlying329
 a233:=Tryz.isAgg329
 z233:=Tryz.sizeOf329
 v233:=Tryz.zeroValue329
 g15:=Zz
 g16:=Zz
 g17:=Zz
 g18:=Zz
 g19:=Zz
 t80:=Tryz.underlying330
 a80:=Tryz.isAgg330
 z80:=Tryz.sizeOf330
 v80:=Tryz.zeroValue330
 i0:=Zz
 i2:=Zz
 i3:=Zz
 i4:=Zz
 i5:=Zz
 i9:=Zz
 i20:=Zz
 i21:=Zz
 i37:=Zz
 i46:=Zz
 i51:=Zz
 i53:=Zz
 i75:=Zz
 i76:=Zz
 i80:=Zz
 i85:=Zz
 i127:=Zz
 i143:=Zz
 i145:=Zz
 i167:=Zz
 i168:=Zz
 i171:=Zz
 i173:=Zz
 i175:=Zz
 i210:=Zz
 i212:=Zz
 i232:=Zz
 i233:=Zz
 m15:=Zz
 m16:=Zz
 m17:=Zz
 m18:=Zz
 m19:=Zz
 c0:=Zz
 c2:=Zz
 c3:=Zz
 c4:=Zz
 c5:=Zz
 c9:=Zz
 c20:=Zz
 c21:=Zz
 c37:=Zz
 c46:=Zz
 c51:=Zz
 c53:=Zz
 c75:=Zz
 c76:=Zz
 c80:=Zz
 c85:=Zz
 c127:=Zz
 c143:=Zz
 c145:=Zz
 c167:=Zz
 c168:=Zz
 c171:=Zz
 c173:=Zz
 c175:=Zz
 c210:=Zz
 c212:=Zz
 c213:=Zz
 c232:=Zz
 c233:=by kernel_rfl}
def v7:Go.Shelf.Ren:=⟨fun|171=>212|243=>223|246=>233|283=>238|284=>239|285=>240|286=>241|129=>243|317=>242|318=>244|319=>245|320=>246|337=>247|338=>248|n=>n,fun|3=>3|9=>9|2=>2|4=>4|171=>318|0=>0|53=>299|37=>291|5=>5|173=>321|212=>324|51=>315|20=>20|213=>325|46=>302|232=>328|233=>329|n=>n,fun|17=>7|18=>8|19=>9|n=>n⟩
theorem itoa:Go.Proofs.LaysM.n171 Tryz.prog v7:={
 mixed:=Zz
 f129:=Tryz.func243.trans (congrArg some Zz)
 f171:=Tryz.func212.trans (congrArg some Zz)
 f243:=Tryz.func223.trans (congrArg some Zz)
 f246:=Tryz.func233.trans (congrArg some Zz)
 f283:=Tryz.func238.trans (congrArg some Zz)
 f284:=Tryz.func239.trans (congrArg some Zz)
 f285:=Tryz.func240.trans (congrArg some Zz)
 f286:=Tryz.func241.trans (congrArg some Zz)
 f317:=Tryz.func242.trans (congrArg some Zz)
 f318:=Tryz.func244.trans (congrArg some Zz)
 f319:=Tryz.func245.trans (congrArg some Zz)
 f320:=Tryz.func246.trans (congrArg some Zz)
 f337:=Tryz.func247.trans (congrArg some Zz)
 f338:=Tryz.func248.trans (congrArg some Zz)
 t0:=Tryz.underlying0
 a0:=Tryz.isAgg0
 z0:=Tryz.sizeOf0
 v0:=Tryz.zeroValue0
 t2:=Tryz.underlying2
 a2:=Tryz.isAgg2
 z2:=Tryz.sizeOf2
 v2:=Tryz.zeroValue2
 t3:=Tryz.underlying3
 a3:=Tryz.isAgg3
 z3:=Tryz.sizeOf3
 v3:=Tryz.zeroValue3
 t4:=Tryz.underlying4
 a4:=Tryz.isAgg4
 z4:=Tryz.sizeOf4
 v4:=Tryz.zeroValue4
 t5:=Tryz.underlying5
 a5:=Tryz.isAgg5
 z5:=Tryz.sizeOf5
 v5:=Tryz.zeroValue5
 t9:=Tryz.underlying9
 a9:=Tryz.isAgg9
 z9:=Tryz.sizeOf9
 v9:=Tryz.zeroValue9
 t20:=Tryz.underlying20
 a20:=Tryz.isAgg20
 z20:=Tryz.sizeOf20
 v20:=Tryz.zeroValue20
 t37:=Tryz.underlying291
 a37:=Tryz.isAgg291
 z37:=Tryz.sizeOf291
 v37:=Tryz.zeroValue291
 t46:=Tryz.underlying302
 a46:=Tryz.isAgg302
 z46:=Tryz.sizeOf302
 v46:=Tryz.zeroValue302
 t51:=Tryz.underlying315
 a51:=Tryz.isAgg315
 z51:=Tryz.sizeOf315
 v51:=Tryz.zeroValue315
 t53:=Tryz.underlying299
 a53:=Tryz.isAgg299
 z53:=Tryz.sizeOf299
 v53:=Tryz.zeroValue299
 t171:=Tryz.underlying318
 a171:=Tryz.isAgg318
 z171:=Tryz.sizeOf318
 v171:=Tryz.zeroValue318
 t173:=Tryz.underlying321
 a173:=Tryz.isAgg321
 z173:=Tryz.sizeOf321
 v173:=Tryz.zeroValue321
 t212:=Tryz.underlying324
 a212:=Tryz.isAgg324
 z212:=Tryz.sizeOf324
 v212:=Tryz.zeroValue324
 t213:=Tryz.underlying325
 a213:=Tryz.isAgg325
 z213:=Tryz.sizeOf325
 t232:=Tryz.underlying328
 a232:=Tryz.isAgg328
 z232:=Tryz.sizeOf328
 v232:=Tryz.zeroValue328
 t233:=Tryz.underlying329
 a233:=Tryz.isAgg329
 z233:=Tryz.sizeOf329
 v233:=Tryz.zeroValue329
 g17:=Zz
 g18:=Zz
 g19:=Zz
 i0:=Zz
 i2:=Zz
 i3:=Zz
 i4:=Zz
 i5:=Zz
 i9:=Zz
 i20:=Zz
 i37:=Zz
 i46:=Zz
 i51:=Zz
 i53:=Zz
 i171:=Zz
 i173:=Zz
 i212:=Zz
 i232:=Zz
 i233:=Zz
 m17:=Zz
 m18:=Zz
 m19:=by kernel_rfl}
end Go.Proofs.YtgbiopfghdilnaaGreatDoor
namespace Go.Proofs.YtgbiopfghdilnaaGreatDoor
open Go.RowKit Go.Sort Go.Shelf
attribute [local irreducible] Kt
set_option maxRecDepth 100000 in
theorem jb(s:ByteArray)(w:World)(hlim:s.size≤4000):
 Calls Tryz.prog 225 #[.string s] w fun e w'=>e= .returned (.string s)∧eR w w':=by
 have mixed:Tryz.prog.follows .mixedOrders=true:=Zz;by_cases h0:s.size=0
 ·obtain rfl:s=⟨#[]⟩:=ByteArray.ext (Kp h0)
  go_enter Tryz.func225,Tryz.ntmps225
  go_wp2
  go_ret
  exact⟨rfl,eR.refl _⟩
 obtain⟨i,hi,hz,hs1,hb1⟩:=info_parts jk.i5;have hs2:(Tryz.prog.info? 5).map (·.size)=some 1:=by
  show(Tryz.prog.info? (jj.t 5)).map (·.size)=some 1;rw[hi];simp[hs1]
 have hce:Tryz.prog.cellsOf 5=1:=Zz;generalize hM:madeCells (Value.int .u8 0).cells (((s.size:Nat):Int).toNat*i.size)=M;have hmk:∀W:World,(Instr.makeSlice 291 (.int .i64 (s.size:Int)) (.int .i64 (s.size:Int))).run Tryz.prog W= .ok (.slice (some ⟨W.heap.size,0,none⟩) s.size s.size) (W.alloc (.cells M 5)):=fun W=>by
  have h:=run_make (P:=Tryz.prog) W 291 5 i (.int .u8 0) Tryz.underlying291 hi hz .i64 .i64 (s.size:Int) (s.size:Int) or or (by rw[hb1];omega) or;rw[hM] at h;simpa using h
 have hMl:M.size=s.size:=by rw[←hM,size_madeCells,hs1];simp
 have hcp:=Lib.run_copy_row_string (P:=Tryz.prog) (w.alloc (.cells M 5)) 291 9 3 5 w.heap.size 0 s.size s.size s M 5 Tryz.underlying291 hs2 (heap_alloc_new w _) (Kk _) or;generalize hY:(M.toList.take 0++Lib.byteCells s.data.toList++M.toList.drop (0+s.size)).toArray=Y at hcp;have hYl:Y.toList=Lib.byteCells s.data.toList:=by
  rw[←hY,List.toList_toArray,Qz,Kg,List.drop_of_length_le (by rw[KM];omega),Qr]
 have hYs:Y.size=s.size:=by rw[←KM,hYl,Lib.byteCells_length,←Lib.size_eq]
 have hgY:((w.alloc (.cells M 5)).setRow w.heap.size Y).heap[w.heap.size]?=some (.cells Y 5 (0,0)):=setRow_heap _ _ M _ 5 (0,0) (heap_alloc_new w _)
 have hus:=Lib.run_unsafeString_row (P:=Tryz.prog) ((w.alloc (.cells M 5)).setRow w.heap.size Y) 310 3 9 5 Tryz.underlying310 hce w.heap.size Y.size (by unfold Qa;rw[hgY]) s.data.toList (fun e=>h0 (by rw[Lib.size_eq,e];rfl)) (by rw[←Lib.size_eq];omega) (by rw[←Lib.size_eq];omega)
  (fun j x hx=>Lib.cells_of_row hgY Y.size j _ (by rw[KY (by rw[KM];exact Kk _),hYl];simp[Lib.byteCells,hx]))
 rw[←Lib.size_eq] at hus;clear hM hY
 go_enter Tryz.func225,Tryz.ntmps225
 go_wp2
 go_ret
 refine⟨rfl,Lib.below_freeze (((Below.refl _ w).alloc (Kk _) (.cells M 5)).trans ?_) (p:=⟨w.heap.size,0,none⟩) (Kk _) _,by unfold Qx;split<;>exact Kk _⟩;exact⟨rfl,rfl,rfl,Zm,fun k hk=>setRow_other _ _ _ _ or⟩
theorem gy{w w':World}(h:eR w w'){g:Nat}{v:Value}(hv:w.cell? ⟨g,0,none⟩=some v):w'.cell? ⟨g,0,none⟩=some v:=
 (h.1.cell (Lib.lt_of_cell hv)).trans hv
set_option maxRecDepth 100000 in
theorem dj(fn s:ByteArray)(w:World)(hlim:s.size≤4000)(ev:Value)(hv:w.cell? ⟨4,0,none⟩=some ev)(hev:ev= .nilIface∨∃te pe,ev= .iface te pe):
 Calls Tryz.prog 215 #[.string fn, .string s] w fun e w'=>∃a,e= .returned (.pointer (some a))∧eR w w':=by
 have mixed:Tryz.prog.follows .mixedOrders=true:=Zz;have e1:∀args w,(callFunc 225 args).run Tryz.prog w= .ok (.enter 225 args) w:=enters_of Tryz.func225 Zz rfl;rcases hev with rfl|⟨te,pe,rfl⟩;all_goals (
  have hvd:w.drew.cell? ⟨4,0,none⟩=some _:=hv
  go_enter Tryz.func215,Tryz.ntmps215
  go_wp2
  go_region_with_o (
   go_at_fn 225
   refine(jb s _ hlim).mono ?_;rintro e w2 ⟨rfl,hb⟩;have hv2:w2.cell? ⟨4,0,none⟩=some _:=gy hb hvd)
  all_goals (
   go_wp2
   go_ret
   exact⟨_,rfl,(Below.drew (Below.refl _ w)).trans hb.1 |>.alloc hb.1.size _,Qh (Qo _) hb.2⟩))
set_option maxRecDepth 100000 in
theorem jz(fn s:ByteArray)(w:World)(hlim:s.size≤4000)(ev:Value)(hv:w.cell? ⟨5,0,none⟩=some ev)(hev:ev= .nilIface∨∃te pe,ev= .iface te pe):
 Calls Tryz.prog 216 #[.string fn, .string s] w fun e w'=>∃a,e= .returned (.pointer (some a))∧eR w w':=by
 have mixed:Tryz.prog.follows .mixedOrders=true:=Zz;have e1:∀args w,(callFunc 225 args).run Tryz.prog w= .ok (.enter 225 args) w:=enters_of Tryz.func225 Zz rfl;rcases hev with rfl|⟨te,pe,rfl⟩;all_goals (
  have hvd:w.drew.cell? ⟨5,0,none⟩=some _:=hv
  go_enter Tryz.func216,Tryz.ntmps216
  go_wp2
  go_region_with_o (
   go_at_fn 225
   refine(jb s _ hlim).mono ?_;rintro e w2 ⟨rfl,hb⟩;have hv2:w2.cell? ⟨5,0,none⟩=some _:=gy hb hvd)
  all_goals (
   go_wp2
   go_ret
   exact⟨_,rfl,(Below.drew (Below.refl _ w)).trans hb.1 |>.alloc hb.1.size _,Qh (Qo _) hb.2⟩))
set_option maxRecDepth 100000 in
theorem sq(fn s:ByteArray)(b c:Int)(w:World)(hlim:s.size≤4000)(ev:Value)(hv:w.cell? ⟨4,0,none⟩=some ev)(hev:ev= .nilIface∨∃te pe,ev= .iface te pe):
 Calls Tryz.prog 204 #[.string fn, .string s, .int .i64 b, .int .i64 c, .iface 290 (.int .i64 2)] w fun e w'=>∃a,e= .returned (.iface 294 (.pointer (some a)))∧eR w w':=by
 have mixed:Tryz.prog.follows .mixedOrders=true:=Zz;have e1:∀args w,(callFunc 215 args).run Tryz.prog w= .ok (.enter 215 args) w:=enters_of Tryz.func215 Zz rfl;have heq:∀W,(binOp .eql 34 (.iface 290 (.int .i64 2)) (.iface 290 (.int .i64 2))).run Tryz.prog W= .ok (.bool true) W:=fun W=>Lib.run_eql_iface_int (P:=Tryz.prog) W 2 2 jk.t75 jk.c167 jk.t167
 go_enter Tryz.func204,Tryz.ntmps204
 go_wp2_with (go_at_fn 215;refine(dj fn s _ hlim ev ?_ hev).mono ?_)
 ·exact hv
 rintro e w2 ⟨a,rfl,hb⟩
 go_wp2
 go_ret
 exact⟨a,rfl,hb⟩
set_option maxRecDepth 100000 in
theorem sr(fn s:ByteArray)(b c:Int)(w:World)(hlim:s.size≤4000)(ev:Value)(hv:w.cell? ⟨5,0,none⟩=some ev)(hev:ev= .nilIface∨∃te pe,ev= .iface te pe):
 Calls Tryz.prog 204 #[.string fn, .string s, .int .i64 b, .int .i64 c, .iface 290 (.int .i64 1)] w fun e w'=>∃a,e= .returned (.iface 294 (.pointer (some a)))∧eR w w':=by
 have mixed:Tryz.prog.follows .mixedOrders=true:=Zz;have e1:∀args w,(callFunc 216 args).run Tryz.prog w= .ok (.enter 216 args) w:=enters_of Tryz.func216 Zz rfl;have heq:∀W,(binOp .eql 34 (.iface 290 (.int .i64 1)) (.iface 290 (.int .i64 1))).run Tryz.prog W= .ok (.bool true) W:=fun W=>Lib.run_eql_iface_int (P:=Tryz.prog) W 1 1 jk.t75 jk.c167 jk.t167;have heq2:∀W,(binOp .eql 34 (.iface 290 (.int .i64 1)) (.iface 290 (.int .i64 2))).run Tryz.prog W= .ok (.bool false) W:=fun W=>Lib.run_eql_iface_int (P:=Tryz.prog) W 1 2 jk.t75 jk.c167 jk.t167
 go_enter Tryz.func204,Tryz.ntmps204
 go_wp2_with (go_at_fn 216;refine(jz fn s _ hlim ev ?_ hev).mono ?_)
 ·exact hv
 rintro e w2 ⟨a,rfl,hb⟩
 go_wp2
 go_ret
 exact⟨a,rfl,hb⟩
theorem AG(w:World)(e:TypeId)(t:ByteArray):eR w (Lib.bytesWorld w e t):=
 ⟨Lib.bytesWorld_below _ _ _,by unfold Lib.bytesWorld Qx;split<;>exact Qo _⟩
def xc:Lib.NumEnd Int→V
 | .ok _=> .nilIface
 | .range=> .iface 290 (.int .i64 1)
 |_=> .iface 290 (.int .i64 2)
def BH(sat:Int):Lib.NumEnd Int→Int
 | .ok n=>n
 | .range=>sat
 |_=>0
theorem AX(s:ByteArray)(hs:s.size≤4000)(h:Hp):aK Tryz.prog 203 [.str s] h (.tup [.int .i64 (BH (Lib.atoiSat s.data.toList) (Lib.atoiAll s.data.toList)),xc (Lib.atoiAll s.data.toList)]):=by
 refine oD ?_ Zz (fun K cargs _ hv=>?_) h
 ·exact fun L=>⟨trivial,by unfold xc;split<;>trivial,trivial⟩
 obtain⟨x,rfl,v1⟩:=Ba hv;cases v1;have c:=Any.internal_strconv_Atoi_all (P:=Tryz.prog) (ρ:=jj) {jk with} s or K.w;refine Calls.mono (show Calls Tryz.prog 203 #[.string s] K.w _ from c) ?_;rintro e w' ⟨rfl,hw⟩;refine⟨_,rfl,fun K=>?_,?_⟩
 ·have two:∀(a b:V) (x y:Value),VR K a x→VR K b y→VR K (.tup [a,b]) (.tuple #[x,y]):=fun a b x y h1 h2=> .tup [a,b] #[x,y] rfl fun i hi=>by
   have:i=0∨i=1:=by simp at hi;omega
   rcases this with rfl|rfl
   ·exact h1
   exact h2
  cases Lib.atoiAll s.data.toList with
  |ok n=>exact two _ _ _ _ (.int _ _) .nilIface
  |range=>exact two _ _ _ _ (.int _ _) (.iface _ _ _ (.int _ _))
  |_=>exact two _ _ _ _ (.int _ _) (.iface _ _ _ (.int _ _))
 rcases hw with rfl|⟨t,rfl⟩
 ·exact eR.refl _
 exact AG _ _ _
theorem yu(fn s:ByteArray)(hs:s.size≤4000)(c:Int)(hc:c=1∨c=2)(h:Hp):aK Tryz.prog 204 [.str fn, .str s, .int .i64 0, .int .i64 0, .iface 290 (.int .i64 c)] h (.iface 294 .top):=by
 refine oD ?_ Zz (fun K cargs hf hv=>?_) h
 ·exact fun L=>trivial
 have hca:cargs=#[.string fn, .string s, .int .i64 0, .int .i64 0, .iface 290 (.int .i64 c)]:=by
  obtain⟨hz,hv⟩:=hv;have hz:cargs.size=5:=by simpa using hz.symm
  obtain⟨l⟩:=cargs;match l,hz with
  | [x0,x1,x2,x3,x4],_=>
   have v0:VR K (.str fn) x0:=hv 0 Zm;have v1:VR K (.str s) x1:=hv 1 Zm;have v2:VR K (.int .i64 0) x2:=hv 2 Zm;have v3:VR K (.int .i64 0) x3:=hv 3 Zm;have v4:VR K (.iface 290 (.int .i64 c)) x4:=hv 4 Zm;cases v0;cases v1;cases v2;cases v3;cases v4 with
   |iface _ _ _ v5=>cases v5;rfl
 subst hca;rcases hc with rfl|rfl
 ·obtain⟨_,ev,h2,h3⟩:=hf.gi 5 ZM;refine(sr fn s 0 0 K.w hs ev h2 h3).mono ?_;rintro e w' ⟨a,rfl,hb⟩;exact⟨_,rfl,fun K=> .iface _ _ _ (.top _),hb⟩
 obtain⟨_,ev,h2,h3⟩:=hf.gi 4 ZM;refine(sq fn s 0 0 K.w hs ev h2 h3).mono ?_;rintro e w' ⟨a,rfl,hb⟩;exact⟨_,rfl,fun K=> .iface _ _ _ (.top _),hb⟩
theorem GA{K:Ker}(hf:iX K):Lib.TabIs Tryz.prog K.w "internal/strconv.uint64pow10" .u64 Lib.pow10Tab:=by
 obtain⟨h1,⟨T,h2⟩,h3⟩:=hf.gt 7 ((KW 20).map fun i=>Value.int .u64 ((10 ^ i:Nat):Int)) (by unfold GT;repeat (first|exact List.mem_cons_self .. |refine List.mem_cons_of_mem _ ?_));unfold Lib.TabIs World.var?;rw[show Tryz.prog.globalNamed "internal/strconv.uint64pow10" =some 7 by kernel_rfl,Option.bind_some]
 unfold Qa at h2;split at h2
 ·rename_i c e fr hh;injection h2 with h2;injection h2 with h2 h4;simp only[hh];congr 1;apply Qj
  ·rw[h4];simp[Lib.pow10Tab]
  intro i hi1 hi2;have:=h3 i (by rw[←h4];exact hi1);simp only[Qd,hh] at this;have hi3:i<20:=by rw[h4] at hi1;simpa using hi1
  simp only[Qg,Ks,if_false,Ky hi1,Kb,KP,List.getElem?_range hi3,Qt,KS,Option.some.injEq] at this;rw[this];simp[Lib.pow10Tab]
 cases h2
theorem CU(n:Int)(h0:-9223372036854775808≤n)(h1:n≤9223372036854775807)(h:Hp):aK Tryz.prog 212 [.int .i64 n] h (.str ⟨(Lib.itoa n).toArray⟩):=by
 refine oD ?_ Zz (fun K cargs hf hv=>?_) h
 ·exact fun L=>trivial
 obtain⟨x,rfl,v1⟩:=Ba hv;cases v1;have c:=Any.strconv_Itoa (P:=Tryz.prog) (ρ:=v7) itoa n h0 h1 K.w (GA hf);refine Calls.mono (show Calls Tryz.prog 212 #[.int .i64 n] K.w _ from c) ?_;rintro e w' ⟨rfl,k,os,rfl⟩;exact⟨_,rfl,fun K=> .str _,⟨Lib.below_grow _ _ (Kk _) k os,Nat.le_add_right _ _⟩⟩
end Go.Proofs.YtgbiopfghdilnaaGreatDoor
namespace Go.Proofs.YtgbiopfghdilnaaGreatDoor
open Go.RowKit Go.Sort
attribute [local irreducible] Kt
theorem y7(c:Nat)(h:Hp):aK Tryz.prog 209 [.int .u8 c] h (.bool (eC c)):=by
 refine aH (fun L=>trivial) fun h' nx hh=>aB L.aY3 fun hd=>?_;refine ZK ?_;unfold eC;cases h1:decide ((97:Int)≤c)<;>cases h2:decide ((c:Int)≤122)<;>
  (refine aue (e2 h1 h2) ?_
   refine aC h' (leo hd) ⟨?_,rfl⟩;simp only[decide_eq_true_eq,decide_eq_false_iff_not] at h1 h2;refine vb ?_;simp;try omega)
theorem ic(c:Nat)(h:Hp):aK Tryz.prog 210 [.int .u8 c] h (.bool (fT c)):=by
 refine aH (fun L=>trivial) fun h' nx hh=>aB L.aY2 fun hd=>?_;refine ZK ?_;unfold fT;cases h1:decide ((65:Int)≤c)<;>cases h2:decide ((c:Int)≤90)<;>
  (refine aue (e2 h1 h2) ?_
   refine aC h' (leo hd) ⟨?_,rfl⟩;simp only[decide_eq_true_eq,decide_eq_false_iff_not] at h1 h2;refine vb ?_;simp;try omega)
theorem wi(c:Nat)(h:Hp):aK Tryz.prog 211 [.int .u8 c] h (.bool (yJ c)):=by
 refine aH (fun L=>trivial) fun h' nx hh=>aB L.aY1 fun hd=>?_;refine ZK ?_;unfold yJ;cases h1:decide ((48:Int)≤c)<;>cases h2:decide ((c:Int)≤57)<;>
  (refine aue (e2 h1 h2) ?_
   refine aC h' (leo hd) ⟨?_,rfl⟩;simp only[decide_eq_true_eq,decide_eq_false_iff_not] at h1 h2;refine vb ?_;simp;try omega)
theorem run_pure(s:ByteArray)(hl:s.size≤4000)(h:Hp):aK Tryz.prog 200 [.str s] h (.int .i64 (nB s)):=by
 refine aH (fun L=>trivial) fun h' nx hh=>aB L.aY8 fun hd=>?_;refine ZK ?_;refine au ?_;refine aO (fun i:Nat=>aD 35 0 [(0, .str s),(3, .int .i64 i)]) (fun i hp nx1=>i≤s.size∧hp=h'∧∀j,j<i→cK (byt s j)=true) (fun i=>s.size-i) 0 ⟨Ko _,rfl,fun j hj=>absurd hj or⟩ (by simp only[WkL,aD,jH,jI,jJ,go_sem,reduceIte,jA,jB,jC,jD,reduceCtorEq,jE,jF]) ?_;rintro i hp nx1 ⟨hi,rfl,aDE⟩;generalize hQ:aV _ _ _ _ _=Q0;refine Zk ?_;have aAk:∀(b:Bool),i=s.size∨cK (byt s i)=false→nB s=i:=fun _ k=>rT (Ko _) hi (fun j _ hj=>aDE j hj) k;rcases Ku i s.size with hlt|hge
 ·have hc:decide ((i:Int)<(s.size:Int))=true:=dct;have hb:(s.data.toList.getD i 0).toNat=byt s i:=rfl;obtain⟨c,hcq⟩:∃c,byt s i=c:=⟨_,rfl⟩;rw[hcq] at aAk;have C1:=fun h=>y7 c h;have C2:=fun h=>ic c h;have C3:=fun h=>wi c h;have hw:IntKind.i64.wrap ((i:Int)+1)=((i+1:Nat):Int):=wrp;have h95:((c:Int)==95)=decide (c=95):=by by_cases e:c=95<;>simp[e]<;>omega
  have hin:cK c=true→∀j,j<i+1→cK (byt s j)=true:=fun k j hj=>by
   by_cases e:j=i
   ·subst e;rw[hcq];exact k
   exact aDE j or
  cases k1:eC c<;>cases k2:fT c<;>cases k3:yJ c<;>cases k4:decide (c=95);all_goals rw[k1] at C1
  all_goals rw[k2] at C2
  all_goals rw[k3] at C3
  all_goals refine aue (e6 hc hb hcq hw (h95.trans k4) hlt) ?_
  all_goals
   first
    |(rw[←hQ]
      refine aF (i+1) or ⟨or,rfl,hin (by simp[cK,k1,k2,k3,k4])⟩ (by simp only[WkL,aD,jH,jI,jJ,go_sem,reduceIte,jA,jB,jC,jD,reduceCtorEq,jE,jF]))
    |(rw[←hQ]
      refine aue hlt ?_;exact aC hp (leo hd) ⟨by rw[aAk true (.inr (by simp[cK,k1,k2,k3,k4]))]<;>rfl,rfl⟩)
 have hc:decide ((i:Int)<(s.size:Int))=false:=dcf;refine aue hc ?_;rw[←hQ];refine au ?_;exact aC hp (leo hd) ⟨by rw[aAk true (.inl or)]<;>rfl,rfl⟩
theorem EA{s:ByteArray}{i:Nat}(h:i≤s.size):iU (s.extract i s.size)=eZ (fun c=>decide (c≠10)) s i-i:=by
 obtain⟨a,b,c,d⟩:=fB (fun c=>decide (c≠10)) s i h;have hsz:=cV s i s.size;refine rT (Ko _) or (fun k _ hk=>?_) ?_
 ·rw[sO or (Kk _)];exact c _ or or
 rcases d with d|d
 ·left;omega
 by_cases e:eZ (fun c=>decide (c≠10)) s i=s.size
 ·left;omega
 right;rw[sO or (Kk _),show i+(eZ (fun c=>decide (c≠10)) s i-i)=eZ (fun c=>decide (c≠10)) s i by omega];exact d
theorem ma(s:ByteArray)(hl:s.size≤4000)(i0:Nat)(hi0:i0≤s.size)(h:Hp):aK Tryz.prog 186 [.str s, .int .i64 i0] h (.int .i64 (bW s i0)):=by
 refine aH (fun L=>trivial) fun h' nx hh=>aB L.aZI fun hd=>?_;refine ZK ?_;refine au ?_;refine aO (fun i:Nat=>aD 39 0 [(0, .str s),(1, .int .i64 i)]) (fun i hp nx1=>i≤s.size∧hp=h'∧bW s i0=bW s i) (fun i=>s.size-i) i0 ⟨hi0,rfl,rfl⟩ (by simp only[WkL,aD,jH,jI,jJ,go_sem,reduceIte,jA,jB,jC,jD,reduceCtorEq,jE,jF]) ?_;rintro i hp nx1 ⟨hi,rfl,hsk⟩;generalize hQ:aV _ _ _ _ _=Q0;refine Zk ?_;rcases Ku i s.size with hlt|hge
 ·have hc:decide ((i:Int)<(s.size:Int))=true:=dct;have hb:(s.data.toList.getD i 0).toNat=byt s i:=rfl;have aCh:byt s i<256:=by unfold byt;exact UInt8.toNat_lt _
  have hbl:=Dt (byt s i) aCh;have C1:=fun h=>ia ⟨#[9,10,13,32]⟩ (byt s i) h;cases k1:kF (byt s i) with
  |true=>
   rw[k1] at hbl;have hw:IntKind.i64.wrap ((i:Int)+1)=((i+1:Nat):Int):=wrp;refine aue (e5 hc hb hw hbl hlt) ?_;rw[←hQ];exact aF (i+1) or ⟨or,rfl,hsk.trans (zE hlt k1)⟩ (by simp only[WkL,aD,jH,jI,jJ,go_sem,reduceIte,jA,jB,jC,jD,reduceCtorEq,jE,jF])
  |false=>
   rw[k1] at hbl;by_cases k2:byt s i=37
   ·have h37:((byt s i:Int)==37)=true:=bqt;have hlen:=sI hlt k2;have bB5:=EA (Nat.le_of_lt hlt);obtain⟨a,b,aR2⟩:=GY (s.extract i s.size) (by rw[cV];omega) Hp.none;have C2:=fun h=>aR2.mono (bD h);rw[bB5] at C2;have hsz:((s.extract i s.size).extract 0 (eZ (fun c=>decide (c≠10)) s i-i)).size=eZ (fun c=>decide (c≠10)) s i-i:=by rw[cV,cV];omega
    have hw:IntKind.i64.wrap ((i:Int)+((eZ (fun c=>decide (c≠10)) s i-i:Nat):Int))=((eZ (fun c=>decide (c≠10)) s i:Nat):Int):=wrp;refine aue (e8 hc hb h37 hw hbl hlt hsz (jG i)) ?_;rw[←hQ];exact aF (eZ (fun c=>decide (c≠10)) s i) or ⟨or,rfl,hsk.trans (dl hlt k1 k2)⟩ (by simp only[WkL,aD,jH,jI,jJ,go_sem,reduceIte,jA,jB,jC,jD,reduceCtorEq,jE,jF])
   have h37:((byt s i:Int)==37)=false:=bqf;refine aue (e5 hc hb h37 hbl hlt) ?_;rw[←hQ];refine au ?_;exact aC hp (leo hd) ⟨by rw[hsk,tP hlt k1 k2]<;>rfl,rfl⟩
 have hc:decide ((i:Int)<(s.size:Int))=false:=dcf;refine aue hc ?_;rw[←hQ];refine au ?_;exact aC hp (leo hd) ⟨by rw[hsk,mF hge]<;>rfl,rfl⟩
end Go.Proofs.YtgbiopfghdilnaaGreatDoor
namespace Go.Proofs.YtgbiopfghdilnaaGreatDoor
open Go.RowKit
theorem Ay{K:Ker}{h:Hp}(hr:Rel K h){n a:Nat}{k:Sh}{es:List V}{off len:Nat}{cv:Value}(hn:h n=some (.arr k es))(ha:¬K.live a)(hb0:off+len≤es.length)(hv:VR K (.rs n k off len) cv):
 ∃K',K'.w=K.w∧K.le K'∧(∀m,K'.live m→K.live m∨m=a)∧VR K' (.sl k .free ((es.drop off).take len)) cv∧Rel K' (h.del n):=by
 have hb:=hr.blk n _ hn;cases hb with
 |arr _ _ c T hh hcs aA1 aAL hcv=>
  cases hv with
  |rs _ _ _ _ cap hl hcap hm=>
   obtain⟨T',m,hm1,hm2⟩:=hm;have hcm:m=c.size:=by simp[Qa,hh] at hm1;exact hm1.2.symm
   subst hcm;have hblk:K.mu n<K.w.heap.size:=by
    rcases Ku (K.mu n) K.w.heap.size with hlt|hge
    ·exact hlt
    rw[KZ hge] at hh;exact absurd hh Zm
   have hle:K.le (K.aAG a (K.mu n) (es.length*k.size)):=K.aAW ha (by rw[aA1];exact Ko _);have hmu:(K.aAG a (K.mu n) (es.length*k.size)).mu a=K.mu n:=by simp[Ker.aAG]
   have hrel:Rel (K.aAG a (K.mu n) (es.length*k.size)) ((h.del n).set a .tip):=hr.aAG hn ha (by rw[aA1];exact Ko _) (.tip c T (by rw[hmu];exact hh) (by simp[Ker.aAG]) (by simp only[Ker.aAG,if_true];exact hcs));have hlen:((es.drop off).take len).length=len:=by simp;omega
   have hsz:(off+len)*k.size≤es.length*k.size:=Nat.mul_le_mul_right _ hb0;rw[QH] at hsz;have aBV:∀i,i<len→((es.drop off).take len).getD i Ka=es.getD (off+i) Ka:=fun i hi=>by
    rw[Kb,Kb,List.getElem?_take_of_lt hi,List.getElem?_drop]
   refine⟨K.aAG a (K.mu n) (es.length*k.size),rfl,hle,fun m hm=>hm.symm,?_,hrel.weaken fun m b e=>?_⟩
   ·have:=VR.sl (K:=K.aAG a (K.mu n) (es.length*k.size)) k .free ((es.drop off).take len) (K.mu n) (off*k.size) cap (fun j=>c.getD (off*k.size+j) QG) hblk (fun e he=>aAL e (List.mem_of_mem_drop (Qe he)))
     (fun j hj=>by
       rw[hlen] at hj;show K.w.cell? _=_;simp only[Qd,hh];rw[KN,Ky or];rfl)
     (fun j hj=> .inr (by rw[hlen] at hj;simp only[Ker.aAG,if_true];omega))
     (fun i hi j hj=>by
       rw[hlen] at hi;rw[aBV i hi];have:=(hcv (off+i) or j hj).mono hle;rwa [QH,Nat.add_assoc] at this) (by rw[hlen];exact hcap) Zm Zm
     (fun m hm=>by cases hm)
    rw[hlen] at this;exact this
   unfold Hp.del at e;unfold Hp.set Hp.del;by_cases e1:m=n
   ·rw[if_pos e1] at e;cases e
   rw[if_neg e1] at e;have hma:m≠a:=fun e2=>ha (e2▸hr.lt m b e);rw[if_neg hma,if_neg e1];exact e
def Hl(k:Sh)(m:Nat)(l:List V):V:=if l.isEmpty=true then .sl k .nil [] else .rs m k 0 l.length
structure HG(h:Hp)(O:Nat)(k:Sh)(ν:Nat→Nat)(ls:List (List V))(j:Nat)(es:List V):Prop where
 blk:h O=some (.arr .leaf es)
 len:es.length=ls.length
 old:∀i (hi:i<ls.length) (hi':i<es.length),i<j→es[i]=lst k ls[i]
 new:∀i (hi:i<ls.length) (hi':i<es.length),j≤i→es[i]=Hl k (ν i) ls[i]
 mem:∀i (hi:i<ls.length),j≤i→ls[i]≠ []→h (ν i)=some (.arr k ls[i])∧ν i≠O
 apart:∀i i' (hi:i<ls.length) (hi':i'<ls.length),j≤i→i<i'→ls[i]≠ []→ls[i']≠ []→ν i≠ν i'
def V.aAv:V→V
 | .tup vs=> .tup (vs.map V.loose)
 |v=>v.loose
theorem VR.aAv{K:Ker}{v:V}{cv:Value}(r:VR K v cv):VR K v.aAv cv:=by
 cases v with
 |tup vs=>
  cases r with
  |tup _ ccs hl hv=>
   refine .tup _ ccs (by simpa using hl) fun i hi=>?_;have hi':i<vs.length:=by simpa using hi
   have:=hv i hi';simp only[Kb,KP,KR hi',Qt,KS] at this⊢;exact this.loose
 |_=>exact r.loose
theorem aY.aRI{P:Program}{f:FuncId}{args:List V}{h:Hp}{nx:Nat}{R R':V→Hp→Nat→Prop}(c:aY P f args h nx R)(hc:∀v h' nx',nx≤nx'→aS h' nx'→R v h' nx'→∃h2,h2.le h'∧R' v.aAv h2 nx'):aY P f args h nx R':=by
 refine⟨c.1,fun K cargs hl hr hv=>(c.2 K cargs hl hr hv).mono ?_⟩;rintro e w' ⟨K',v,cv,h',nx',rfl,he,hle,hvr,hrel,hlv,hnx,hR⟩;obtain⟨h2,q1,q2⟩:=hc v h' nx' hnx (fun m b hm=>(hlv m (hrel.lt m b hm)).1) hR;exact⟨K',v.aAv,cv,h2,nx',rfl,he,hle,hvr.aAv,hrel.weaken q1,hlv,hnx,q2⟩
theorem bK{P:Program}{f:FuncId}{args:List V}{h:Hp}{v:V}(hv:∀L,v.names L)(hc:∀h' nx,h.has h'→aY P f args h' nx fun v' h'' _=>v'.aAv=v∧h'.le h''):aK P f args h v:=
 aH hv fun h' nx hh=>(hc h' nx hh).aRI fun v' h'' nx' _ _ hq=>⟨h',hq.2,hq.1,rfl⟩
end Go.Proofs.YtgbiopfghdilnaaGreatDoor
namespace Go.Proofs.YtgbiopfghdilnaaGreatDoor
open Go.RowKit Go.Sort
attribute [local irreducible] Kt
theorem wc(own:Own)(l:List ByteArray)(hl:l.length≤1000000000)(x:ByteArray)(h:Hp):aK Tryz.prog 82 [.sl .leaf own (l.map V.str), .str x] h (.int .i64 (bH (fun y=>decide (x=y)) l)):=by
 refine aH (fun L=>trivial) fun h' nx hh=>aB L.aTl fun hd=>?_;simp only[Ke,Kj,Kh,Ki,Kc,Kd,Kf,Kg,Ka];refine aue trivial ?_;refine aO (fun i:Nat=>aD 19 0 [(0, .sl .leaf own (l.map V.str)),(1, .str x),(7, .int .i64 l.length),(8, .int .i64 i)]) (fun i hp nx1=>i≤l.length∧hp=h'∧∀y∈l.take i,decide (x=y)=false) (fun i=>l.length-i) 0 ⟨Ko _,rfl,Zm⟩ (by simp only[WkL,aD,Qu,Qv,Qp,go_sem,reduceIte,Kh,Ki,KX,KG,reduceCtorEq,KH,KK]) ?_;rintro i hp nx1 ⟨hi,rfl,hno⟩;generalize hQ:aV _ _ _ _ _=Q0;simp only[aD,go_sem,reduceIte,Kh,Ki,KX,KG,reduceCtorEq,KH,KK];rcases Ku i l.length with hlt|hge
 ·have hc:decide ((i:Int)<(l.length:Int))=true:=dct;have hg:=aJ V.str l i hlt;have hw:IntKind.i64.wrap ((i:Int)+1)=((i+1:Nat):Int):=wrp;have hbe:=dN x l[i];cases k:decide (x=l[i]) with
  |true=>
   rw[k] at hbe;refine aue (e5 hc hg hbe hlt (KD i)) ?_;rw[←hQ];refine au ?_;have:l.findIdx? (fun y=>decide (x=y))=some i:=by
    rw[List.findIdx?_eq_some_iff_getElem];refine⟨hlt,k,fun j hj=>?_⟩;have:=hno l[j] (KQ.2 ⟨j,or,rfl⟩);simp[this]
   exact aC hp (leo hd) ⟨by simp only[bH,this];rfl,rfl⟩
  |false=>
   rw[k] at hbe;refine aue (e6 hc hg hbe hlt (KD i) hw) ?_;rw[←hQ];refine aF (i+1) or ⟨or,rfl,fun y hy=>?_⟩ (by simp only[WkL,aD,Qu,Qv,Qp,go_sem,reduceIte,Kh,Ki,KX,KG,reduceCtorEq,KH,KK]);rw[KE hlt,Kq,KA] at hy;rcases hy with hy|rfl
   ·exact hno y hy
   exact k
 have hc:decide ((i:Int)<(l.length:Int))=false:=dcf;refine aue hc ?_;rw[←hQ];refine au ?_;have hi':i=l.length:=or;rw[hi',KU] at hno;have:l.findIdx? (fun y=>decide (x=y))=none:=by
  rw[List.findIdx?_eq_none_iff];exact fun y hy=>hno y hy
 exact aC hp (leo hd) ⟨by simp only[bH,this];rfl,rfl⟩
theorem kC(own:Own)(l:List ByteArray)(hl:l.length≤1000000000)(x:ByteArray)(h:Hp):aK Tryz.prog 41 [.sl .leaf own (l.map V.str), .str x] h (.bool (l.any fun y=>decide (x=y))):=by
 refine aH (fun L=>trivial) fun h' nx hh=>aB L.bBB fun hd=>?_;simp only[Ke,Kj,Kh,Ki,Kc,Kd,Kf,Kg,Ka];have C1:=fun h=>wc own l hl x h;refine au ?_;exact aC h' (leo hd) ⟨by rw[←rH];rfl,rfl⟩
theorem v6(w:ByteArray):(gz.any fun y=>decide (w=y))=g7 w:=by
 rw[KJ,vw,List.any_eq_true];exact⟨fun⟨y,h1,h2⟩=>by rw[of_decide_eq_true h2];exact h1,fun h=>⟨w,h,decide_eq_true rfl⟩⟩
theorem Dw(s:ByteArray)(hs:s.size≤4000):∃n e,aK Tryz.prog 188 [.str s] Hp.none (.tup [.int .i64 n,e])∧-9223372036854775808≤n∧n≤9223372036854775807∧(e= .nilIface∨∃T,e= .iface T .top):=by
 have C1:=fun h=>AX s hs h;have C2:=fun c hc h=>yu ⟨#[65,116,111,105]⟩ s hs c hc h;cases k:Lib.atoiAll s.data.toList with
 |ok v=>
  obtain⟨b1,b2⟩:=Lib.atoiAll_bounds k;rw[k] at C1;simp only[BH,xc] at C1;refine⟨v, .nilIface,aH (fun L=>⟨trivial,trivial,trivial⟩) fun h' nx hh=>aB L.aEP fun hd=>?_,or,or, .inl rfl⟩;simp only[Ke,Kj,Kh,Ki,Kc,Kd,Kf,Kg,Ka];refine au ?_;exact aM h' (leo hd) ⟨rfl,rfl⟩
 |range=>
  rw[k] at C1;simp only[BH,xc] at C1;have bAk:-9223372036854775808≤Lib.atoiSat s.data.toList∧Lib.atoiSat s.data.toList≤9223372036854775807:=by unfold Lib.atoiSat;split<;>omega
  refine⟨Lib.atoiSat s.data.toList, .iface 294 .top,aH (fun L=>⟨trivial,trivial,trivial⟩) fun h' nx hh=>aB L.aEP fun hd=>?_,bAk.1,bAk.2, .inr ⟨_,rfl⟩⟩;simp only[Ke,Kj,Kh,Ki,Kc,Kd,Kf,Kg,Ka];have C2:=C2 1 (.inl rfl);refine au ?_;exact aM h' (leo hd) ⟨rfl,rfl⟩
 |_=>
  rw[k] at C1;simp only[BH,xc] at C1;refine⟨0, .iface 294 .top,aH (fun L=>⟨trivial,trivial,trivial⟩) fun h' nx hh=>aB L.aEP fun hd=>?_,or,or, .inr ⟨_,rfl⟩⟩;simp only[Ke,Kj,Kh,Ki,Kc,Kd,Kf,Kg,Ka];have C2:=C2 2 (.inr rfl);refine au ?_;exact aM h' (leo hd) ⟨rfl,rfl⟩
noncomputable def jT(w:ByteArray):Int:=@ite _ (aK Tryz.prog 201 [.str w] Hp.none (.int .i64 4)) (Classical.propDecidable _) 4 0
theorem Bn(w:ByteArray):jT w=0∨jT w=4:=by
 unfold jT;split
 ·exact .inr rfl
 exact .inl rfl
theorem BS(w:ByteArray)(h1:1≤w.size)(h2:w.size≤4000)(h:Hp):aK Tryz.prog 201 [.str w] h (.int .i64 (eY jT w)):=by
 have aRr:(g7 w=false→gV w=false→¬(fT (byt w 0)=true∧w.size≤32)→∀k:Int,(k=4∨k=0)→aK Tryz.prog 201 [.str w] Hp.none (.int .i64 k)→aK Tryz.prog 201 [.str w] h (.int .i64 (eY jT w))):=by
  intro g1 g2 g3 k hk hp;have:eY jT w=jT w:=by unfold eY;rw[if_neg (by simp[g1]),if_neg (by simp[g2]),if_neg g3]
  rw[this];unfold jT;split
  ·rename_i q;exact q.mono (bD h)
  rename_i q;rcases hk with rfl|rfl
  ·exact absurd hp q
  exact hp.mono (bD h)
 have C1:=fun h=>kC .free gz ZM w h;rw[v6] at C1;have C2:=fun h=>nh w h;cases k1:g7 w with
 |true=>
  rw[k1] at C1;refine aH (fun L=>trivial) fun h' nx hh=>aB L.aCP fun hd=>?_;simp only[Ke,Kj,Kh,Ki,Kc,Kd,Kf,Kg,Ka];refine au ?_;exact aC h' (leo hd) ⟨by unfold eY;rw[if_pos k1]<;>rfl,rfl⟩
 |false=>
  rw[k1] at C1;cases k2:gV w with
  |true=>
   rw[k2] at C2;refine aH (fun L=>trivial) fun h' nx hh=>aB L.aCP fun hd=>?_;simp only[Ke,Kj,Kh,Ki,Kc,Kd,Kf,Kg,Ka];refine au ?_;exact aC h' (leo hd) ⟨by unfold eY;rw[if_neg (by simp[k1]),if_pos k2]<;>rfl,rfl⟩
  |false=>
   rw[k2] at C2;have hb:(w.data.toList.getD 0 0).toNat=byt w 0:=rfl;have C3:=fun h=>ic (byt w 0) h;by_cases k3:fT (byt w 0)=true∧w.size≤32
   ·rw[k3.1] at C3;have g1:decide ((w.size:Int)≤32)=true:=dct;have g2:0<w.size:=h1;refine aH (fun L=>trivial) fun h' nx hh=>aB L.aCP fun hd=>?_;simp only[Ke,Kj,Kh,Ki,Kc,Kd,Kf,Kg,Ka];refine aue (e3 hb g1 g2) ?_;exact aC h' (leo hd) ⟨by unfold eY;rw[if_neg (by simp[k1]),if_neg (by simp[k2]),if_pos k3]<;>rfl,rfl⟩
   obtain⟨n,e,hA,hn1,hn2,he⟩:=Dw w h2;have C4:=fun h=>hA.mono (bD h);have g2:0<w.size:=h1;have aD6:∀k:Int,k=4∨k=0→(∀h,aK Tryz.prog 201 [.str w] h (.int .i64 k))→aK Tryz.prog 201 [.str w] h (.int .i64 (eY jT w)):=fun k hk hp=>aRr k1 k2 k3 k hk (hp Hp.none);have hgr:∃g,fT (byt w 0)=g∧(g=true→decide ((w.size:Int)≤32)=false):=⟨_,rfl,fun g=>dcf (by intro q;exact k3 ⟨g,or⟩)⟩;obtain⟨g,g3,g4⟩:=hgr;rw[g3] at C3;rcases he with rfl|⟨T,rfl⟩
   ·by_cases k5:n≤2147483647
    ·have g5:decide (n≤2147483647)=true:=dct;have C5:=CU n hn1 hn2;have hbe:=dN ⟨(Lib.itoa n).toArray⟩ w;cases k6:decide ((⟨(Lib.itoa n).toArray⟩:ByteArray)=w) with
     |true=>
      rw[k6] at hbe;refine aD6 4 (.inl rfl) fun h=>aH (fun L=>trivial) fun h' nx hh=>aB L.aCP fun hd=>?_;simp only[Ke,Kj,Kh,Ki,Kc,Kd,Kf,Kg,Ka];have C5:=C5 h';cases g with
      |false=>
       refine aue (e4 hb g5 g2 hbe) ?_;exact aC h' (leo hd) ⟨rfl,rfl⟩
      |true=>
       have g4:=g4 rfl;refine aue (e5 hb g5 g2 hbe g4) ?_;exact aC h' (leo hd) ⟨rfl,rfl⟩
     |false=>
      rw[k6] at hbe;refine aD6 0 (.inr rfl) fun h=>aH (fun L=>trivial) fun h' nx hh=>aB L.aCP fun hd=>?_;simp only[Ke,Kj,Kh,Ki,Kc,Kd,Kf,Kg,Ka];have C5:=C5 h';cases g with
      |false=>
       refine aue (e4 hb g5 g2 hbe) ?_;exact aC h' (leo hd) ⟨rfl,rfl⟩
      |true=>
       have g4:=g4 rfl;refine aue (e5 hb g5 g2 hbe g4) ?_;exact aC h' (leo hd) ⟨rfl,rfl⟩
    have g5:decide (n≤2147483647)=false:=dcf;refine aD6 0 (.inr rfl) fun h=>aH (fun L=>trivial) fun h' nx hh=>aB L.aCP fun hd=>?_;simp only[Ke,Kj,Kh,Ki,Kc,Kd,Kf,Kg,Ka];cases g with
    |false=>
     refine aue (e3 hb g5 g2) ?_;exact aC h' (leo hd) ⟨rfl,rfl⟩
    |true=>
     have g4:=g4 rfl;refine aue (e4 hb g5 g2 g4) ?_;exact aC h' (leo hd) ⟨rfl,rfl⟩
   refine aD6 0 (.inr rfl) fun h=>aH (fun L=>trivial) fun h' nx hh=>aB L.aCP fun hd=>?_;simp only[Ke,Kj,Kh,Ki,Kc,Kd,Kf,Kg,Ka];cases g with
   |false=>
    refine aue (e2 hb g2) ?_;exact aC h' (leo hd) ⟨rfl,rfl⟩
   |true=>
    have g4:=g4 rfl;refine aue (e3 hb g2 g4) ?_;exact aC h' (leo hd) ⟨rfl,rfl⟩
end Go.Proofs.YtgbiopfghdilnaaGreatDoor
namespace Go.Proofs.YtgbiopfghdilnaaGreatDoor
open Go.RowKit Go.Sort
attribute [local irreducible] Kt
theorem Bf(r t:ByteArray):qM r t=(decide (t.size≤r.size)&&decide (r.extract 0 t.size=t)):=by
 have e:(r.extract 0 t.size).data.toList=r.data.toList.take t.size:=by
  rw[ByteArray.data_extract,Array.toList_extract];simp[List.extract]
 have hl:t.data.toList.length=t.size:=Zm;rw[KJ,qM,List.isPrefixOf_iff_prefix,Qm,decide_eq_true_eq,decide_eq_true_eq,List.prefix_iff_eq_take,hl];constructor
 ·intro h;refine⟨?_,ByteArray.ext (Array.toList_inj.1 (by rw[e,←h]))⟩;have:=congrArg List.length h;rw[List.length_take,hl] at this;have h2:r.data.toList.length=r.size:=Zm;omega
 rintro⟨_,h⟩;rw[←e,h]
theorem qg(r t:ByteArray)(hr:r.size≤1000000)(ht:t.size≤1000000)(h:Hp):aK Tryz.prog 213 [.str r, .str t] h (.bool (qM r t)):=by
 refine aH (fun L=>trivial) fun h' nx hh=>aB L.aYr fun hd=>?_;refine ZK ?_;rw[Bf];by_cases hc:t.size≤r.size
 ·have g1:decide ((t.size:Int)≤(r.size:Int))=true:=dct;have g2:decide (t.size≤r.size)=true:=dct;have hbe:=dN (r.extract 0 t.size) t;refine aue (e4 g1 hbe hc (jG t.size)) ?_;exact aC h' (leo hd) ⟨by first|rfl|(rw[g2];rfl),rfl⟩
 have g1:decide ((t.size:Int)≤(r.size:Int))=false:=dcf;have g2:decide (t.size≤r.size)=false:=dcf;refine aue g1 ?_;exact aC h' (leo hd) ⟨by first|rfl|(rw[g2];rfl),rfl⟩
theorem ug(r t:ByteArray)(hr:r.size≤1000000)(ht:t.size≤1000000)(h:Hp):aK Tryz.prog 202 [.str r, .str t] h (.bool (qM r t)):=by
 refine aH (fun L=>trivial) fun h' nx hh=>aB L.aY7 fun hd=>?_;refine ZK ?_;have C1:=fun h=>qg r t hr ht h;refine au ?_;exact aC h' (leo hd) ⟨rfl,rfl⟩
def Tk.v(t:Tk):V:= .agg [.int .i64 t.k, .str t.t, .int .i64 t.a]
theorem Tk.aAA(t:Tk):t.v.fits (.agg 3)=true:=rfl
theorem Tk.aAK(L:Nat→Prop)(t:Tk):t.v.names L:=by simp[Tk.v,Km,bI]
theorem y9{r:ByteArray}{i:Nat}(hi:i<fC.length)(hp:qM r fC[i]=true)(hno:∀t∈fC.take i,qM r t=false):qD r=(5,fC[i]):=by
 unfold qD;have:fC.find? (qM r)=some fC[i]:=by
  rw[List.find?_eq_some_iff_getElem];refine⟨hp,i,hi,rfl,fun j hj=>?_⟩;have:=hno fC[j] (KQ.2 ⟨j,or,rfl⟩);simp[this]
 rw[this]
theorem za{r:ByteArray}(hno:∀t∈fC,qM r t=false):qD r=(0,⟨#[]⟩):=by
 unfold qD;have:fC.find? (qM r)=none:=by
  rw[List.find?_eq_none];intro t ht;simp[hno t ht]
 rw[this]
theorem Co(r:ByteArray)(h1:1≤r.size)(h2:r.size≤4000)(h:Hp):aK Tryz.prog 187 [.str r] h (Tk.v ⟨(cD jT r).1,(cD jT r).2,0⟩):=by
 refine aH (fun L=>Tk.aAK L _) fun h' nx hh=>aB L.aZG fun hd=>?_;refine ZK ?_;have C1:=fun h=>run_pure r h2 h;have hrl:=pw r;have hb:(r.data.toList.getD 0 0).toNat=byt r 0:=rfl;have h0:0<r.size:=h1;by_cases hc:0<nB r∧byt r 0≠95
 ·have g1:decide ((0:Int)<(nB r:Int))=true:=dct or;have g2:((byt r 0:Int) != 95)=true:=bnt or;have g3:nB r≤r.size:=hrl;have D1:=fun h=>BS (r.extract 0 (nB r)) (by rw[cV];omega) (by rw[cV];omega) h;refine aue (e6 hb g1 g2 g3 h0 (jG (nB r))) ?_;refine mP (by simp only[go_sem,reduceIte,jA,jB,jC,jD,reduceCtorEq,jE,jF]) h' (leo hd) ⟨?_,rfl⟩;refine Zn ?_;unfold cD;rw[if_pos hc];rfl
 obtain⟨SG,hSG⟩:∃SG,SG=fC.map V.str:=⟨_,rfl⟩;have aRR: [V.str ⟨#[58,45]⟩, .str ⟨#[33,61]⟩, .str ⟨#[60,61]⟩, .str ⟨#[62,61]⟩, .str ⟨#[40]⟩, .str ⟨#[41]⟩, .str ⟨#[44]⟩, .str ⟨#[46]⟩, .str ⟨#[61]⟩, .str ⟨#[60]⟩, .str ⟨#[62]⟩, .str ⟨#[43]⟩, .str ⟨#[45]⟩, .str ⟨#[42]⟩]=SG:=by rw[hSG];rfl
 have hSl:SG.length=14:=by rw[hSG];rfl
 have hSf:SG.all V.aAE=true:=by rw[hSG];rfl
 have hnx:cD jT r=qD r:=by unfold cD;rw[if_neg hc]
 rw[hnx];have key:∀(i:Nat) (hi:i<14),SG.getD i (.tup [])= .str fC[i]:=fun i hi=>by
  rw[hSG,Kb,KP,KR (by exact hi)];rfl
 have hsz:∀t∈fC,t.size≤1000000:=by decide+kernel
 have aBn:decide ((0:Int)<(nB r:Int))=false∨(decide ((0:Int)<(nB r:Int))=true∧((byt r 0:Int) != 95)=false):=by
  by_cases q:0<nB r
  ·exact .inr ⟨dct or,bnf (by have:¬byt r 0≠95:=fun k=>hc ⟨q,k⟩;omega)⟩
  exact .inl (dcf or)
 rcases aBn with g1|⟨g1,g2⟩
 all_goals
  first
   |refine aue (e6 hb g1 g2 h0 aRR hSl) ?_
   |refine aue (e5 hb g1 h0 aRR hSl) ?_
  refine aO (fun i:Nat=>aD 34 0 [(0, .str r),(2, .ptr nx (.agg 3) 0 0),(23, .agg SG),(24, .int .i64 i)]) (fun i hp nx1=>i≤14∧hp=h'.set nx (.arr (.agg 3) [.agg [.int .i64 0, .str ⟨#[]⟩, .int .i64 0]])∧nx<nx1∧∀t∈fC.take i,qM r t=false) (fun i=>14-i) 0 ⟨or,rfl,Zw,Zm⟩ (by simp only[WkL,aD,jH,jI,jJ,go_sem,reduceIte,jA,jB,jC,jD,reduceCtorEq,jE,jF]) ?_;rintro i hp nx1 ⟨hi,rfl,aBO,hno⟩;generalize hQ:aV _ _ _ _ _=Q0;refine Zk ?_;rcases Ku i 14 with hlt|hge
  ·have hc:decide ((i:Int)<14)=true:=dct;have hg:=key i hlt;have hw:IntKind.i64.wrap ((i:Int)+1)=((i+1:Nat):Int):=wrp;have C1:=fun h=>ug r fC[i] or (hsz _ (KV _)) h;have bAq:(i:Int)<14:=or;cases k:qM r fC[i] with
   |true=>
    rw[k] at C1;refine aue (e6 hc hg hSl hlt bAq (jG i)) ?_;rw[←hQ];refine au ?_;refine mP (by simp only[go_sem,reduceIte,jA,jB,jC,jD,reduceCtorEq,jE,jF]) h' (leo hd) ⟨?_,rfl⟩;refine Zn ?_;rw[y9 hlt k hno];rfl
   |false=>
    rw[k] at C1;refine aue (e7 hc hg hSl hlt bAq (jG i) hw) ?_;rw[←hQ];refine aF (i+1) or ⟨or,rfl,or,fun t ht=>?_⟩ (by simp only[WkL,aD,jH,jI,jJ,go_sem,reduceIte,jA,jB,jC,jD,reduceCtorEq,jE,jF]);rw[KE hlt,Kq,KA] at ht;rcases ht with ht|rfl
    ·exact hno t ht
    exact k
  have hc:decide ((i:Int)<14)=false:=dcf;refine aue hc ?_;rw[←hQ];refine au ?_;refine mP (by simp only[go_sem,reduceIte,jA,jB,jC,jD,reduceCtorEq,jE,jF]) h' (leo hd) ⟨?_,rfl⟩;refine Zn ?_;rw[za (fun t ht=>hno t (by rw[KY (by show 14≤i;omega)];exact ht))];rfl
end Go.Proofs.YtgbiopfghdilnaaGreatDoor
namespace Go.Proofs.YtgbiopfghdilnaaGreatDoor
open Go.RowKit
theorem fN.set{K:Ker}{sl:List V}{a:Act}(r:fN K sl a){t:Nat}{v:V}(hv:VR K v (a.tmps.getD t QG)):fN K (sl.set t v) a:=by
 refine⟨by rw[Qw];exact r.1,fun u=>?_⟩;by_cases e:u=t
 ·subst e;by_cases hl:u<sl.length
  ·rw[Kb,List.getElem?_set_self hl];exact hv
  have:=r.2 u;rw[List.set_eq_of_length_le or];exact this
 have:=r.2 u;rw[Kb] at this⊢;rw[Kx (fun h=>e h.symm)];exact this
theorem lE{sl:List V}{h:Hp}{nx t n off len:Nat}{k:Sh}{es:List V}(ht:sl.getD t Ka= .rs n k off len)(hn:h n=some (.arr k es))(hb:off+len≤es.length):
 xF ⟨sl,h,nx⟩ ⟨sl.set t (.sl k .free ((es.drop off).take len)),h.del n,nx+1⟩:=by
 intro K0 K nx0 a r;have hv:=r.aAD.2 t;rw[ht] at hv;have hfr:¬K.live nx:=fun hh=>QD _ (r.live nx hh).1;obtain⟨K',q1,q2,q3,q4,q5⟩:=Ay r.rel hn hfr hb hv;refine⟨K',q1,r.le.trans q2,(r.aAD.mono q2).set q4,q5,fun m hm=>?_,Qk r.nx,by rw[q1];exact r.defers⟩;rcases q3 m hm with hm|rfl
 ·have:=r.live m hm;exact⟨Ql this.1,this.2⟩
 exact⟨Qq _, .inr r.nx⟩
theorem Az{K:Ker}{h:Hp}(hr:Rel K h){n a i o:Nat}{k:Sh}{es:List V}{cv:Value}(hn:h n=some (.arr k es))(ha:¬K.live a)(hv:VR K (.ptr n k i o) cv):
 ∃K',K'.w=K.w∧K.le K'∧(∀m,K'.live m→K.live m∨m=a)∧VR K' (.ept k es i o) cv∧Rel K' (h.del n):=by
 have hb:=hr.blk n _ hn;cases hb with
 |arr _ _ c T hh hcs aA1 aAL hcv=>
  cases hv with
  |ptr _ _ _ _ hl=>
   have hblk:K.mu n<K.w.heap.size:=by
    rcases Ku (K.mu n) K.w.heap.size with hlt|hge
    ·exact hlt
    rw[KZ hge] at hh;exact absurd hh Zm
   have hle:K.le (K.aAG a (K.mu n) (es.length*k.size)):=K.aAW ha (by rw[aA1];exact Ko _);have hmu:(K.aAG a (K.mu n) (es.length*k.size)).mu a=K.mu n:=by simp[Ker.aAG]
   have hrel:Rel (K.aAG a (K.mu n) (es.length*k.size)) ((h.del n).set a .tip):=hr.aAG hn ha (by rw[aA1];exact Ko _) (.tip c T (by rw[hmu];exact hh) (by simp[Ker.aAG]) (by simp only[Ker.aAG,if_true];exact hcs));refine⟨K.aAG a (K.mu n) (es.length*k.size),rfl,hle,fun m hm=>hm.symm,?_,hrel.weaken fun m b e=>?_⟩
   ·have:=VR.ept (K:=K.aAG a (K.mu n) (es.length*k.size)) k es i o (K.mu n) 0 (fun j=>c.getD j QG) hblk aAL
     (fun j hj=>by
       show K.w.cell? _=_;simp only[Qd,hh,Qi];rw[KN,Ky or];rfl)
     (fun j hj=> .inr (by simp only[Ker.aAG,if_true];omega))
     (fun i hi j hj=>(hcv i hi j hj).mono hle)
    rwa [Qi] at this
   unfold Hp.del at e;unfold Hp.set Hp.del;by_cases e1:m=n
   ·rw[if_pos e1] at e;cases e
   rw[if_neg e1] at e;have hma:m≠a:=fun e2=>ha (e2▸hr.lt m b e);rw[if_neg hma,if_neg e1];exact e
theorem di{sl:List V}{h:Hp}{nx t n i o:Nat}{k:Sh}{es:List V}(ht:sl.getD t Ka= .ptr n k i o)(hn:h n=some (.arr k es)):
 xF ⟨sl,h,nx⟩ ⟨sl.set t (.ept k es i o),h.del n,nx+1⟩:=by
 intro K0 K nx0 a r;have hv:=r.aAD.2 t;rw[ht] at hv;have hfr:¬K.live nx:=fun hh=>QD _ (r.live nx hh).1;obtain⟨K',q1,q2,q3,q4,q5⟩:=Az r.rel hn hfr hv;refine⟨K',q1,r.le.trans q2,(r.aAD.mono q2).set q4,q5,fun m hm=>?_,Qk r.nx,by rw[q1];exact r.defers⟩;rcases q3 m hm with hm|rfl
 ·have:=r.live m hm;exact⟨Ql this.1,this.2⟩
 exact⟨Qq _, .inr r.nx⟩
theorem gsl(l:List V)(i j:Nat)(v d:V):(l.set i v).getD j d=if i=j∧j<l.length then v else l.getD j d:=by
 rw[Kb,Kb,List.getElem?_set];split
 ·rename_i e;subst e;split
  ·rename_i h;rw[if_pos ⟨rfl,h⟩];rfl
  rename_i h;rw[if_neg (fun k=>h k.2),List.getElem?_eq_none or]
 rename_i e;rw[if_neg (fun k=>e k.1)]
structure RG(F:List (Nat×Nat×V))(fix:List (Nat×V))(n:Nat)(D:Nat→Bool)(sl:List V):Prop where
 len:sl.length=n
 fx:∀p∈fix,sl.getD p.1 Ka=p.2
 dn:∀f∈F,D f.1=true→sl.getD f.2.1 Ka=f.2.2
theorem RG.slot{F:List (Nat×Nat×V)}{fix:List (Nat×V)}{n:Nat}{D:Nat→Bool}{sl:List V}(r:RG F fix n D sl)(i t:Nat)(v:V)(ht:t<n)(hF:∀f∈F,(f.1=i∨f.2.1=t)→f=(i,t,v))(hx:∀p∈fix,p.1≠t):
 RG F fix n (fun j=>if j=i then true else D j) (sl.set t v):=by
 obtain⟨len,fx,dn⟩:=r;refine⟨by rw[Qw];exact len,fun p hp=>?_,fun f hf hd=>?_⟩
 ·rw[gsl,if_neg (fun e=>hx p hp e.1.symm)];exact fx p hp
 rw[gsl];by_cases e:t=f.2.1
 ·have:=hF f hf (.inr e.symm);subst this;rw[if_pos ⟨rfl,by rw[len];exact ht⟩]
 rw[if_neg (fun k=>e k.1)];by_cases e2:f.1=i
 ·have:=hF f hf (.inl e2);subst this;exact absurd rfl e
 rw[if_neg e2] at hd;exact dn f hf hd
theorem RG.none{F:List (Nat×Nat×V)}{fix:List (Nat×V)}{n:Nat}{D:Nat→Bool}{sl:List V}(r:RG F fix n D sl)(i:Nat)(hF:∀f∈F,f.1≠i):RG F fix n (fun j=>if j=i then true else D j) sl:=
 ⟨r.len,r.fx,fun f hf hd=>r.dn f hf (by rwa [if_neg (hF f hf)] at hd)⟩
end Go.Proofs.YtgbiopfghdilnaaGreatDoor
