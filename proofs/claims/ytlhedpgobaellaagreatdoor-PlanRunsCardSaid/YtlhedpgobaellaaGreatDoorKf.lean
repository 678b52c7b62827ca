/-
Texts of this proof,one behind the other. No conditions.
-/
import Derived.Test.YtlhedpgobaellaaGreatDoorChecked
import Derived.Test.YtlhedpgobaellaaGreatDoorKdb
import Derived.Shelf.GgClosure.GivesRunes
import Derived.Shelf.GgClosure.StringsIndexFuncTop
import Derived.Below
import Derived.Shelf.RegionOpenPlain
import Derived.Deep.RegionLaw
import Derived.Lib.Walk
import Derived.Sort.WalkB12
import Derived.Test.YtlhedpgobaellaaGreatDoorKLow
open List renaming getD_eq_getElem?_getD→Ka,mem_append→Kd,take_append_of_le_length→Ke,replicate→Kf,getElem?_set_ne→Kg,mem_filter→Kh,filter_append→Ki,getElem?_replicate→Kj,length_cons→Km,filter_cons→Ko,contains_eq_mem→Kp,getElem?_eq_some_iff→Kt,mem_of_mem_take→Kz,range→KB,mem_singleton→KC,take_length→KH,getElem_mem→KI,length_set→KL
open Array renaming eq_empty_of_size_eq_zero→Kb,getD_eq_getD_getElem?→Kq,getElem?_eq_getElem→Ku,getElem?_eq_none→Kw
open Bool renaming false_eq_true→Kc,not_false→Kx,and_false→Ky,true_and→KA,eq_iff_iff→KK,false_and→KM,and_self→KO,or_false→KP,or_true→KS
open Nat renaming le_refl→Kk,zero_le→Ks,lt_or_ge→Kv,zero_add→KD,le_succ_of_le→KE,lt_succ_of_lt→KF,lt_succ_self→KJ,lt_irrefl→KQ,add_mul→KV
open Option renaming getD_some→KG
open Go.World renaming cell?→KN
open Go.Instr renaming next→KR
open Go renaming undef→KU
open Nat renaming reduceAdd→jA,reduceSub→jB,reduceLT→jC,reduceLeDiff→jD,reduceEqDiff→jE
open Int renaming reduceToNat→jF,natCast_add→jH,natCast_one→jI,natCast_zero→jJ
set_option linter.all false
set_option maxHeartbeats 8000000
namespace Go.Proofs.YtlhedpgobaellaaGreatDoor
open Go.RowKit Go.Shelf Go.Lib Go.Sort
def eM(w w':World):Prop:=Below w.heap.size w w'∧w.drawn≤w'.drawn
theorem eM.refl(w:World):eM w w:=⟨Below.refl _ w,Kk _⟩
theorem eM.trans{a b c:World}(h:eM a b)(k:eM b c):eM a c:=⟨h.1.trans (k.1.mono h.1.size),Nat.le_trans h.2 k.2⟩
set_option maxRecDepth 1000000 in
theorem gr(g:Nat)(lb:Array Value)(eg:∀args w,(callFunc g args).run Tryz.prog w= .ok (.enter g args) w)(p:Nat→Bool)(s:ByteArray)(w:World)
 (hp:∀(W:World) (x:Nat),x≤1114111→eM w W→Calls Tryz.prog g (#[.int .i32 x]++lb) W fun e w'=>e= .returned (.bool (p x))∧eM W w'):
 Calls Tryz.prog 262 #[.string s, .func (.func g) #[] lb, .bool true] w fun e w'=>e= .returned (.int .i64 (Lib.idxFunc p true s))∧eM w w':=by
 have mixed:Tryz.prog.follows .mixedOrders=true:=Zz
 go_enter Tryz.func262,Tryz.ntmps262
 go_wp2
 go_loopg [] s.size (fun gf wx=>∃pos:Nat,wx.heap[w.heap.size]?=some (.stringIter s pos)∧eM w wx∧Lib.idxFuncFrom p true s gf pos=Lib.idxFunc p true s∧s.size≤pos+gf)
 case atStart=>exact⟨0,World.iter_heap w s 0,⟨(Below.refl _ w).alloc (Kk _) _,Kk _⟩,rfl,or⟩
 case round=>
  obtain⟨pos,hit,hbw,hleft,hfu⟩:=hrel;by_cases hps:pos<s.size
  ·obtain⟨g',rfl⟩:∃g',gk=g'+1:=⟨gk-1,or⟩;have hnx:∀ty,(KR (.pointer (some ⟨w.heap.size,0,none⟩)) true ty).run Tryz.prog wr=_:=fun ty=>Lib.run_next_any_at wr w.heap.size s pos ty hit hps;have hwd:=Lib.width_pos s pos;obtain⟨R,hR⟩:∃R,(Utf8.decode s pos).1=R:=⟨_,rfl⟩;obtain⟨K,hK⟩:∃K,(Utf8.decode s pos).2=K:=⟨_,rfl⟩;simp only[Lib.idxFuncFrom,hps,if_true,hR,hK] at hleft;rw[hR,hK] at hnx;rw[hK] at hwd;have hit2:=Lib.iterAt_heap wr w.heap.size s pos (pos+K) hit;have hbw2:eM w (wr.iterAt w.heap.size s (pos+K)):=⟨Lib.below_iterAt hbw.1 (k:=w.heap.size) (Kk _) s (pos+K),hbw.2⟩;obtain⟨W,hWd⟩:∃W,wr.iterAt w.heap.size s (pos+K)=W:=⟨_,rfl⟩;rw[hWd] at hnx hit2 hbw2;have hltW:w.heap.size<W.heap.size:=(Array.getElem?_eq_some_iff.1 hit2).1;have cS:Calls Tryz.prog g (#[.int .i32 (R:Int)]++lb) W _:=hp W R (by rw[←hR];exact Lib.rune_le s pos) hbw2;clear hp;cases hsp:p R<;>rw[hsp] at cS<;>simp only[hsp,if_true,Kc,if_false] at hleft
   ·go_wp2_with (go_at_fn g;refine cS.mono ?_;rintro e W' ⟨rfl,hbc⟩)
    go_roundg g'
    case measure=>omega
    case rel=>exact⟨pos+K,(hbc.1.block _ hltW).trans hit2,hbw2.trans hbc,hleft,or⟩
   go_wp2_with (go_at_fn g;refine cS.mono ?_;rintro e W' ⟨rfl,hbc⟩)
   go_ret
   exact⟨by rw[←hleft]<;>rfl,hbw2.trans hbc⟩
  have hnx:∀ty,(KR (.pointer (some ⟨w.heap.size,0,none⟩)) true ty).run Tryz.prog wr=_:=fun ty=>Lib.run_next_end_at wr w.heap.size s pos ty hit hps;rw[Lib.idxFuncFrom_end p true s gk pos hps] at hleft
  go_wp2
  go_ret
  exact⟨by rw[←hleft]<;>rfl,hbw⟩
theorem xG(g:Nat)(lb:Array Value)(eg:∀args w,(callFunc g args).run Tryz.prog w= .ok (.enter g args) w)(p:Nat→Bool)(s:ByteArray)(w:World)
 (hp:∀(W:World) (x:Nat),x≤1114111→eM w W→Calls Tryz.prog g (#[.int .i32 x]++lb) W fun e w'=>e= .returned (.bool (p x))∧eM W w'):
 Calls Tryz.prog 207 #[.string s, .func (.func g) #[] lb] w fun e w'=>e= .returned (.bool (decide (0≤Lib.idxFunc p true s)))∧eM w w':=by
 have mixed:Tryz.prog.follows .mixedOrders=true:=Zz;have cI:=gr g lb eg p s w hp;have e1:∀args w,(callFunc 262 args).run Tryz.prog w= .ok (.enter 262 args) w:=enters_of Tryz.func262 Zz rfl;have cJ:Calls Tryz.prog 247 #[.string s, .func (.func g) #[] lb] w fun e w'=>e= .returned (.int .i64 (Lib.idxFunc p true s))∧eM w w':=by
  go_enter Tryz.func247,Tryz.ntmps247
  go_wp2_with (go_at_fn 262;refine cI.mono ?_;rintro e w' ⟨rfl,hb⟩)
  go_ret
  exact⟨rfl,hb⟩
 have e2:∀args w,(callFunc 247 args).run Tryz.prog w= .ok (.enter 247 args) w:=enters_of Tryz.func247 Zz rfl;clear cI e1;obtain⟨I,hI⟩:∃I,Lib.idxFunc p true s=I:=⟨_,rfl⟩;rw[hI] at cJ⊢
 go_enter Tryz.func207,Tryz.ntmps207
 go_wp2_with (go_at_fn 247;refine cJ.mono ?_;rintro e w' ⟨rfl,hb⟩)
 go_ret
 exact⟨rfl,hb⟩
theorem rT{K:Ker}{W:World}(hb:eM K.w W):K.le {K with w:=W} where
 live _ hn:=hn
 mu _ _:=rfl
 tp _ _:=rfl
 fro:=rfl
 imm _ _:=Kk _
 cell b o hb' _:=gV (hb.1.block b hb')
 shape b hb':=kW (hb.1.block b hb')
 below:=⟨hb.1.os,hb.1.tape,hb.1.output,hb.2,hb.1.size,fun b hb' _=>hb.1.block b hb'⟩
theorem Rel.later{K:Ker}{h:Hp}(hr:Rel K h){W:World}(hb:eM K.w W):Rel {K with w:=W} h:=
 ⟨hr.lt,hr.base,fun n b e=>(hr.blk n b e).mono (rT hb) (hr.lt n b e) (hb.1.block _ (hr.blk n b e).lt_size) rfl,hr.inj,hr.size.keep (rT hb)⟩
theorem yZ(p:Nat→Bool)(g:Nat)(caps:List V)(hp:∀x:Nat,x≤1114111→aM Tryz.prog g ([.int .i32 x]++caps) Hp.none (.bool (p x)))(s:ByteArray)(h:Hp):aM Tryz.prog 207 [.str s, .fn (.func g) [] caps] h (.bool (decide (0≤Lib.idxFunc p true s))):=by
 refine aJ (fun L=>trivial) fun h' nx hh=>⟨Zz,fun K cargs hlv hr hv=>?_⟩;obtain⟨hsz,hv⟩:=hv;have hsz:cargs.size=2:=by simpa using hsz.symm
 obtain⟨c1,c2,rfl⟩:∃c1 c2,cargs=#[c1,c2]:=⟨cargs[0],cargs[1],by
  apply Array.ext
  ·simp[hsz]
  intro i h1 h2;have:i=0∨i=1:=by simp at h2;omega
  rcases this with rfl|rfl<;>rfl⟩
 have v1:VR K (.str s) c1:=hv 0 Zm;have v2:VR K (.fn (.func g) [] caps) c2:=hv 1 Zm;cases v1;cases v2 with
 |fn _ _ _ cfirst ccap q1 q2 w1 w2=>
  have hcf:cfirst=#[]:=by
   have:cfirst.size=0:=by simpa using q1.symm
   exact Kb this
  subst hcf;have hen:=(hp 0 or Hp.none 0 (aI _)).1;refine(xG g ccap (fun args w=>jR hen args w) p s K.w fun W x hx hb=>?_).mono ?_
  ·have hle:=rT hb
   have c:=(hp x hx Hp.none nx (aI _)).2 {K with w:=W,fro:=fun b=>b<W.heap.size} (#[.int .i32 x]++ccap) hlv ⟨(fun n b e=>by cases e),(fun n b e=>by cases e),(fun n b e=>by cases e),(fun n n' b b' e=>by cases e),((hr.size.keep hle).all)⟩
    ((show VRs _ [.int .i32 x] #[.int .i32 x] from⟨rfl,fun i hi=>by
      have:i=0:=by simpa using hi
      subst this;exact .int _ _⟩).append ⟨q2,fun i hi=>VR.refro (K:={K with w:=W}) (fun b hb'=>Nat.lt_of_lt_of_le (hr.size.lt b hb') hb.1.size) ((w2 i hi).mono hle)⟩)
   refine c.mono ?_;rintro e' w' ⟨K',v,cv,h',nx',rfl,rfl,a1,a2,a3,a4,a5,rfl,rfl,rfl⟩;cases a2;obtain⟨k1,k2,k3,k4,k5,k6⟩:=a1.below;exact⟨rfl,⟨k1,k2,k3,k5,fun b hb=>k6 b hb (.inl hb)⟩,k4⟩
  rintro e w' ⟨rfl,hb⟩;exact⟨{K with w:=w'},_,_,h',nx,rfl,rfl,rT hb, .bool _,hr.later hb,fun m hm=>⟨hlv m hm, .inl hm⟩,Kk _,rfl,rfl⟩
end Go.Proofs.YtlhedpgobaellaaGreatDoor
namespace Go.Proofs.YtlhedpgobaellaaGreatDoor
open Go.RowKit
theorem zu:aE Tryz.prog 157=some (LB.aDp 214):=Zz
theorem Gl:aE Tryz.prog 214=some LB.aCZ:=Zz
theorem Cw:aE Tryz.prog 155=some LB.aOx:=Zz
end Go.Proofs.YtlhedpgobaellaaGreatDoor
namespace Go.Proofs.YtlhedpgobaellaaGreatDoor
open Go.RowKit
attribute [local go_sem] rP jU aA.ok aA.next LOp.ok LOp.next aW.ok aW.out aK.ev bL xr pB mY yI V.fits V.aAE V.cells V.cell V.undef cA bB bZ Sh.size Hp.set Hp.del qU lO yX iH aA.dok aA.aCv LOp.dok LOp.aEH wy xb sC eK bt Hp.aBY veq iB iC List.take_succ_cons List.take_zero List.take_nil List.drop_succ_cons List.drop_zero List.drop_nil List.set_cons_succ List.set_cons_zero List.getD_cons_succ List.getD_cons_zero Km List.length_nil List.map_cons List.map_nil List.all_cons List.all_nil List.mem_cons List.not_mem_nil List.replicate_succ List.replicate_zero List.cons_append List.nil_append List.append_nil List.isEmpty_cons List.isEmpty_nil fB gC sG KG Option.isSome_some Option.isSome_none Nat.add_eq KD Nat.add_zero true_and and_true and_self true_implies implies_true false_implies forall_const forall_eq forall_eq_or_imp ne_eq not_false_eq_true not_true_eq_false Bool.not_true Kx decide_true decide_false Bool.and_true KA Ky KM true_or or_true false_or or_false eq_self Kc Hi Ep iY aD cW eC iD xE tB xD lA nQ dQ Int.toNat_natCast Int.toNat_zero KH
structure Tm where
 e:Int
 r:Int
 deriving DecidableEq,Inhabited
def Tm.v(t:Tm):V:= .agg [.int .i64 t.e, .int .i64 t.r]
def Tm.le(a b:Tm):Bool:=decide (a.e≤b.e)&&decide (a.r≤b.r)
def Tm.ok(t:Tm):Bool:=decide (0≤t.e)&&decide (t.e≤1048576)&&(decide (0≤t.r)&&decide (t.r≤1048576))
end Go.Proofs.YtlhedpgobaellaaGreatDoor
namespace Go.Proofs.YtlhedpgobaellaaGreatDoor
inductive oO{α:Type}(E:α→α→Prop):α→α→Prop where
 |one {a b:α}:E a b→oO E a b
 |cons {a b c:α}:E a b→oO E b c→oO E a c
namespace oO
variable{α:Type}{E F:α→α→Prop}
theorem trans{a b c:α}(h:oO E a b)(k:oO E b c):oO E a c:=by
 induction h with
 |one e=>exact .cons e k
 |cons e _ ih=>exact .cons e (ih k)
theorem snoc{a b c:α}(h:oO E a b)(e:E b c):oO E a c:=h.trans (.one e)
theorem mono(hs:∀a b,E a b→F a b){a b:α}(h:oO E a b):oO F a b:=by
 induction h with
 |one e=>exact .one (hs _ _ e)
 |cons e _ ih=>exact .cons (hs _ _ e) ih
theorem last{a b:α}(h:oO E a b):∃c,E c b∧(c=a∨oO E a c):=by
 induction h with
 |one e=>exact⟨_,e, .inl rfl⟩
 |cons e k ih=>
  obtain⟨c,hc,hh⟩:=ih;rcases hh with rfl|hh
  ·exact⟨_,hc, .inr (.one e)⟩
  exact⟨c,hc, .inr (.cons e hh)⟩
theorem closed{S:α→Prop}(hS:∀a b,S a→E a b→S b){a b:α}(h:oO E a b)(ha:S a):S b:=by
 induction h with
 |one e=>exact hS _ _ ha e
 |cons e _ ih=>exact ih (hS _ _ ha e)
end oO
structure GW(n:Nat)(E:List (Nat×Nat))(i:Nat)(cX:List Int)(row:List Nat):Prop where
 len:cX.length=n
 nd:row.Nodup
 lt:∀x∈row,x<n
 cnt:∀j,j<n→cX.getD j 0=((E.filter fun e=>decide (e.2=j)&& !((row.take i).contains e.1)).length:Int)
 iff:∀j,j<n→(j∈row↔cX.getD j 0=0)
 back:∀m (h:m<row.length),∀y,(y,row[m])∈E→y∈row.take m
structure KIn(n:Nat)(E D R:List (Nat×Nat))(i k:Nat)(cX:List Int)(row:List Nat):Prop where
 eq:E=D++R
 hk:row[i]?=some k
 len:cX.length=n
 nd:row.Nodup
 lt:∀x∈row,x<n
 cnt:∀j,j<n→cX.getD j 0+((D.filter fun e=>decide (e.2=j)&&decide (e.1=k)).length:Int)=((E.filter fun e=>decide (e.2=j)&& !((row.take i).contains e.1)).length:Int)
 iff:∀j,j<n→(j∈row↔cX.getD j 0=0)
 back:∀m (h:m<row.length),∀y,(y,row[m])∈E→y∈row.take m
theorem GW.start{n:Nat}{E:List (Nat×Nat)}{i k:Nat}{cX:List Int}{row:List Nat}(K:GW n E i cX row)(hk:row[i]?=some k):KIn n E [] E i k cX row:=
 ⟨rfl,hk,K.len,K.nd,K.lt,fun j hj=>by simpa using K.cnt j hj,K.iff,K.back⟩
theorem zk{row:List Nat}{i k:Nat}(hn:row.Nodup)(hk:row[i]?=some k):k∉row.take i:=by
 intro h;obtain⟨m,hm,e⟩:=List.getElem_of_mem h;obtain⟨hi,e2⟩:=Kt.1 hk;have hm':m<i∧m<row.length:=by simp at hm;omega
 rw[List.getElem_take] at e;have hp:=List.pairwise_iff_getElem.1 hn m i hm'.2 hi hm'.1;exact hp (e.trans e2.symm)
theorem Ff(l:List Int)(i j:Nat)(v:Int)(h:i<l.length):(l.set i v).getD j 0=if j=i then v else l.getD j 0:=by
 rw[Ka,Ka];by_cases e:j=i
 ·subst e;simp[h]
 rw[Kg or];simp[e]
theorem KIn.one{n:Nat}{E D R:List (Nat×Nat)}{i k x:Nat}{cX:List Int}{row:List Nat}(K:KIn n E D ((k,x)::R) i k cX row)(hx:x<n):
 1≤cX.getD x 0∧KIn n E (D++[(k,x)]) R i k (cX.set x (cX.getD x 0-1)) (if cX.getD x 0-1=0 then row++[x] else row):=by
 obtain⟨hi,hik⟩:=Kt.1 K.hk;have hnk:=zk K.nd K.hk;have hcx:=K.cnt x hx
 --ways to x from k are among those that count
 have sub:∀l:List (Nat×Nat),((l.filter fun e=>decide (e.2=x)&&decide (e.1=k)).length:Int)≤((l.filter fun e=>decide (e.2=x)&& !((row.take i).contains e.1)).length:Int):=by
  intro l;induction l with
  |nil=>simp
  |cons e l ih=>
   simp only[Ko,Kp,Kd,KC] at ih⊢;by_cases h1:e.2=x
   ·by_cases h2:e.1=k
    ·simp only[h1,h2,hnk,Kp,decide_true,decide_false,Kx,KO,if_true,Km];omega
    simp only[h1,h2,decide_true,decide_false,Ky,Kc,if_false,KA];split<;>(try simp only[Km])<;>omega
   simp only[h1,decide_false,KM,Kc,if_false];exact ih
 have s1:=sub E;have s2:((E.filter fun e=>decide (e.2=x)&&decide (e.1=k)).length:Int)=((D.filter fun e=>decide (e.2=x)&&decide (e.1=k)).length:Int)+1+((R.filter fun e=>decide (e.2=x)&&decide (e.1=k)).length:Int):=by
  rw[K.eq,Ki,Ko];simp;omega
 have hge:1≤cX.getD x 0:=or;refine⟨hge,?_⟩;have hxr:x∉row:=fun h=>by have:=(K.iff x hx).1 h;omega
 have aAQ:∀j,(cX.set x (cX.getD x 0-1)).getD j 0=if j=x then cX.getD x 0-1 else cX.getD j 0:=fun j=>Ff _ _ _ _ (by rw[K.len];exact hx)
 have aHB:∀aPF:List Nat,aPF.take i=row.take i→∀j,j<n→(cX.set x (cX.getD x 0-1)).getD j 0+(((D++[(k,x)]).filter fun e=>decide (e.2=j)&&decide (e.1=k)).length:Int)=((E.filter fun e=>decide (e.2=j)&& !((aPF.take i).contains e.1)).length:Int):=by
  intro aPF hr j hj;rw[hr,aAQ,←K.cnt j hj,Ki];by_cases e:j=x
  ·subst e;simp;omega
  have e':¬x=j:=fun h=>e h.symm;simp[e,e']
 split
 ·rename_i h0;have htk:(row++[x]).take i=row.take i:=by rw[Ke or]
  refine⟨by rw[K.eq];simp,by rw[List.getElem?_append_left hi];exact K.hk,by simp[K.len],?_,?_,aHB _ htk,?_,?_⟩
  ·exact List.nodup_append.2 ⟨K.nd,Zm,fun a ha b hb=>by
    rintro rfl;simp at hb;subst hb;exact hxr ha⟩
  ·intro y hy;rcases Kd.1 hy with h|h
   ·exact K.lt y h
   simp at h;omega
  ·intro j hj;rw[aAQ,Kd,KC];by_cases e:j=x
   ·simp only[e,or_true,if_true,true_iff];exact h0
   simp only[e,or_false,if_false];exact K.iff j hj
  intro m hm y hy;by_cases hml:m<row.length
  ·rw[List.getElem_append_left hml] at hy;rw[Ke or];exact K.back m hml y hy
  have hme:m=row.length:=by simp at hm;omega
  subst hme;have hyx:(y,x)∈E:=by simpa using hy
  rw[Ke or,KH]
  --all ways to x that count come from k
  refine Classical.byContradiction fun hny=>?_;have hyk:y≠k:=fun e=>hny (by rw[e,←hik];exact KI hi);have hyt:y∉row.take i:=fun h=>hny (Kz h);have strict:∀l:List (Nat×Nat),(y,x)∈l→((l.filter fun e=>decide (e.2=x)&&decide (e.1=k)).length:Int)+1≤((l.filter fun e=>decide (e.2=x)&& !((row.take i).contains e.1)).length:Int):=by
   intro l hl;obtain⟨a,b,hab⟩:=List.append_of_mem hl;subst hab;have aXb:∀l:List (Nat×Nat),((l.filter fun e=>decide (e.2=x)&&decide (e.1=k)).length:Int)≤((l.filter fun e=>decide (e.2=x)&& !((row.take i).contains e.1)).length:Int):=sub;have ha:=aXb a;have hb:=aXb b;rw[Ki,Ki,Ko,Ko];simp only[hyk,hyt,Kp,decide_true,decide_false,Kx,KO,Ky,Kc,if_false,if_true,List.length_append,Km] at ha hb⊢;omega
  have:=strict E hyx;omega
 rename_i h0;refine⟨by rw[K.eq];simp,K.hk,by simp[K.len],K.nd,K.lt,aHB _ rfl,?_,K.back⟩;intro j hj;rw[aAQ];by_cases e:j=x
 ·simp only[e,if_true,hxr,false_iff];exact h0
 simp only[e,if_false];exact K.iff j hj
theorem GW.first{n:Nat}{E:List (Nat×Nat)}{cX:List Int}(hl:cX.length=n)(hc:∀j,j<n→cX.getD j 0=((E.filter fun e=>decide (e.2=j)).length:Int)):
 GW n E 0 cX ((KB n).filter fun j=>decide (cX.getD j 0=0)):=by
 refine⟨hl,List.nodup_range.filter _,fun x hx=>by simpa using(Kh.1 hx).1,fun j hj=>by simpa using hc j hj,fun j hj=>by simp[hj],?_⟩;intro m hm y hy;exfalso;have aAm:((KB n).filter fun j=>decide (cX.getD j 0=0))[m]∈(KB n).filter fun j=>decide (cX.getD j 0=0):=KI hm;generalize ((KB n).filter fun j=>decide (cX.getD j 0=0))[m]=z at aAm hy;obtain⟨h1,h2⟩:=Kh.1 aAm;have h1':z<n:=by simpa using h1
 have h2':cX.getD z 0=0:=by simpa using h2
 rw[hc z h1'] at h2';have hne:(E.filter fun e=>decide (e.2=z))≠ []:=List.ne_nil_of_mem (Kh.2 ⟨hy,Zm⟩);have:=List.length_pos_iff.2 hne;omega
def Via(E:Nat→Nat→Prop):Nat→Nat→Nat→Prop
 |0,i,j=>E i j
 |k+1,i,j=>Via E k i j∨(Via E k i k∧Via E k k j)
theorem Via.up{E:Nat→Nat→Prop}:∀{k:Nat} {i j:Nat},E i j→Via E k i j
 |0,_,_,h=>h
 |_+1,_,_,h=> .inl (Via.up h)
theorem Via.sound{E:Nat→Nat→Prop}:∀(k:Nat) {i j:Nat},Via E k i j→oO E i j
 |0,_,_,h=> .one h
 |k+1,_,_,h=>by
  rcases h with h|⟨h1,h2⟩
  ·exact Via.sound k h
  exact(Via.sound k h1).trans (Via.sound k h2)
theorem Via.join{E:Nat→Nat→Prop}:∀(k:Nat) {i l j:Nat},l<k→Via E k i l→Via E k l j→Via E k i j
 |0,_,_,_,hl,_,_=>or
 |k+1,i,l,j,hl,h1,h2=>by
  by_cases e:l=k
  ·subst e;have a:Via E l i l:=by rcases h1 with h|⟨h,_⟩<;>exact h
   have b:Via E l l j:=by rcases h2 with h|⟨_,h⟩<;>exact h
   exact .inr ⟨a,b⟩
  have hl':l<k:=or;rcases h1 with h1|⟨h1,h1'⟩<;>rcases h2 with h2|⟨h2,h2'⟩
  ·exact .inl (Via.join k hl' h1 h2)
  ·exact .inr ⟨Via.join k hl' h1 h2,h2'⟩
  ·exact .inr ⟨h1,Via.join k hl' h1' h2⟩
  exact .inr ⟨h1,h2'⟩
theorem Via.iff{E:Nat→Nat→Prop}{n:Nat}(hE:∀i j,E i j→i<n∧j<n)(i j:Nat):Via E n i j↔oO E i j:=by
 constructor
 ·exact Via.sound n
 intro h;induction h with
 |one e=>exact Via.up e
 |cons e _ ih=>exact Via.join n (hE _ _ e).2 (Via.up e) ih
structure Bfs(n:Nat)(E:Nat→Nat→Prop)(a b:Nat)(seen:List Bool)(todo:List Nat):Prop where
 len:seen.length=n
 lt:∀x∈todo,x<n
 aOu:∀x,(x∈todo∨seen.getD x false=true)→x=a∨oO E a x
 start:a∈todo∨(a≠b∧∀y,E a y→seen.getD y false=true)
 on:∀x,seen.getD x false=true→x∈todo∨(x≠b∧∀y,E x y→seen.getD y false=true)
structure FT(n:Nat)(E:Nat→Nat→Prop)(a b k:Nat)(D:Nat→Prop)(seen:List Bool)(todo:List Nat):Prop where
 len:seen.length=n
 lt:∀x∈todo,x<n
 kf:k=a∨oO E a k
 kb:k≠b
 got:∀y,D y→seen.getD y false=true
 aOu:∀x,(x∈todo∨seen.getD x false=true)→x=a∨oO E a x
 start:a=k∨a∈todo∨(a≠b∧∀y,E a y→seen.getD y false=true)
 on:∀x,seen.getD x false=true→x=k∨x∈todo∨(x≠b∧∀y,E x y→seen.getD y false=true)
theorem Df(l:List Bool)(i j:Nat)(v:Bool)(h:i<l.length):(l.set i v).getD j false=if j=i then v else l.getD j false:=by
 rw[Ka,Ka];by_cases e:j=i
 ·subst e;simp[h]
 rw[Kg or];simp[e]
theorem Bfs.first{n:Nat}{E:Nat→Nat→Prop}{a b:Nat}(ha:a<n):Bfs n E a b (Kf n false) [a]:=by
 have hf:∀x,(Kf n false).getD x false=false:=fun x=>by
  rw[Ka,Kj];split<;>rfl
 refine⟨Zm,by simpa using ha,fun x hx=>?_, .inl Zm,fun x hx=>by rw[hf x] at hx;cases hx⟩;rcases hx with hx|hx
 ·exact .inl (by simpa using hx)
 rw[hf x] at hx;cases hx
theorem FT.one{n:Nat}{E:Nat→Nat→Prop}{a b k x:Nat}{D:Nat→Prop}{seen:List Bool}{todo:List Nat}(B:FT n E a b k D seen todo)(hx:x<n)(he:E k x):FT n E a b k (fun y=>D y∨y=x) (seen.set x true) (todo++[x]):=by
 have aAQ:∀j,(seen.set x true).getD j false=if j=x then true else seen.getD j false:=fun j=>Df _ _ _ _ (by rw[B.len];exact hx)
 have up:∀y,seen.getD y false=true→(seen.set x true).getD y false=true:=fun y hy=>by rw[aAQ];split<;>simp_all
 have hfx:x=a∨oO E a x:=by
  rcases B.kf with h|h
  ·rw[←h];exact .inr (.one he)
  exact .inr (h.snoc he)
 refine⟨by simp[B.len],?_,B.kf,B.kb,?_,?_,?_,?_⟩
 ·intro y hy;rcases Kd.1 hy with h|h
  ·exact B.lt y h
  simp at h;omega
 ·rintro y (hy|rfl)
  ·exact up y (B.got y hy)
  rw[aAQ,if_pos rfl]
 ·intro y hy;by_cases e:y=x
  ·rw[e];exact hfx
  rw[aAQ,if_neg e] at hy;refine B.aOu y (hy.imp (fun h=>?_) id);rcases Kd.1 h with h|h
  ·exact h
  exact absurd (by simpa using h) e
 ·rcases B.start with h|h|⟨h1,h2⟩
  ·exact .inl h
  ·exact .inr (.inl (by simp[h]))
  exact .inr (.inr ⟨h1,fun y hy=>up y (h2 y hy)⟩)
 intro y hy;by_cases e:y=x
 ·exact .inr (.inl (by simp[e]))
 rw[aAQ,if_neg e] at hy;rcases B.on y hy with h|h|⟨h1,h2⟩
 ·exact .inl h
 ·exact .inr (.inl (by simp[h]))
 exact .inr (.inr ⟨h1,fun z hz=>up z (h2 z hz)⟩)
structure Pa where
 n:Bool
 a:Int
 deriving DecidableEq,Inhabited
def Pa.ok(p:Pa):Bool:=decide (0≤p.a)&&decide (p.a≤1048576)
def Pa.le(p q:Pa):Bool:=(p.n|| !q.n)&&decide (p.a≤q.a)
def Pa.thn(p q:Pa):Option Pa:=
 if (!p.ok|| !q.ok)=true then none
 else if q.n=true then some q
 else if Pa.ok ⟨p.n,p.a+q.a⟩=false then none else some ⟨p.n,p.a+q.a⟩
theorem Pa.le_refl(p:Pa):p.le p=true:=by cases p with|mk n a=>cases n<;>simp[Pa.le]
theorem Pa.le_trans{p q r:Pa}(h:p.le q=true)(k:q.le r=true):p.le r=true:=by
 obtain⟨a,x⟩:=p;obtain⟨b,y⟩:=q;obtain⟨c,z⟩:=r;cases a<;>cases b<;>cases c<;>simp[Pa.le] at*<;>omega
theorem Pa.aGk{p q r:Pa}(h:p.thn q=some r):r.ok=true∧q.ok=true∧p.ok=true:=by
 unfold Pa.thn at h;split at h
 ·cases h
 rename_i h0;simp only[Bool.or_eq_true,Bool.not_eq_true',not_or,Bool.not_eq_false] at h0;split at h
 ·injection h with h;subst h;exact⟨h0.2,h0.2,h0.1⟩
 split at h
 ·cases h
 rename_i h1;injection h with h;subst h;exact⟨by simpa using h1,h0.2,h0.1⟩
structure We where
 f:Nat
 t:Nat
 p:Pa
 deriving DecidableEq,Inhabited
def Walk(ws:List We):Nat→List We→Nat→Prop
 |a,[],k=>a=k
 |a,w::l,k=>w∈ws∧w.f=a∧Walk ws w.t l k
def run:Pa→List We→Option Pa
 |p,[]=>some p
 |p,w::l=>(p.thn w.p).bind fun q=>run q l
def Pa.aAU:Pa:=⟨false,0⟩
def Val(ws:List We)(a k:Nat)(p:Pa):Prop:=∃l,Walk ws a l k∧run Pa.aAU l=some p
theorem Walk.append{ws:List We}:∀{l m:List We} {a b c:Nat},Walk ws a l b→Walk ws b m c→Walk ws a (l++m) c
 | [],_,_,_,_,h,k=>by have h:_=_:=h;subst h;exact k
 |w::l,_,_,_,_,⟨h1,h2,h3⟩,k=>⟨h1,h2,Walk.append h3 k⟩
theorem du:∀(l m:List We) (p:Pa),run p (l++m)=(run p l).bind fun q=>run q m
 | [],m,p=>rfl
 |w::l,m,p=>by
  show((p.thn w.p).bind fun q=>run q (l++m))=((p.thn w.p).bind fun q=>run q l).bind fun q=>run q m;cases p.thn w.p with
  |none=>rfl
  |some q=>exact du l m q
theorem Ee:∀(l:List We) {p q:Pa},p.ok=true→run p l=some q→q.ok=true
 | [],p,q,hp,h=>by have h:some p=some q:=h;injection h with h;subst h;exact hp
 |w::l,p,q,hp,h=>by
  have h:((p.thn w.p).bind fun q=>run q l)=some q:=h;cases e:p.thn w.p with
  |none=>rw[e] at h;cases h
  |some r=>rw[e] at h;exact Ee l (Pa.aGk e).1 h
theorem Walk.split{ws:List We}:∀{l m:List We} {a c:Nat},Walk ws a (l++m) c→∃b,Walk ws a l b∧Walk ws b m c
 | [],_,a,_,h=>⟨a,rfl,h⟩
 |w::l,_,_,_,⟨h1,h2,h3⟩=>by
  obtain⟨b,h4,h5⟩:=Walk.split h3;exact⟨b,⟨h1,h2,h4⟩,h5⟩
def Can(l:List Pa):Prop:=l.Pairwise fun p q=>p.n=false∧q.n=true∧p.a<q.a
def yW(l:List Pa)(p:Pa):Prop:=∃q∈l,q.le p=true
def qb(l:List Pa)(p:Pa):List Pa:=if p.n=true then (l.filter fun x=> !(p.le x))++[p] else p::(l.filter fun x=> !(p.le x))
theorem rK(l:List Pa)(p x:Pa):x∈qb l p↔x=p∨(x∈l∧p.le x=false):=by
 unfold qb;split
 ·simp[or_comm]
 simp
theorem uc{l:List Pa}{p x:Pa}:yW (qb l p) x↔yW l x∨p.le x=true:=by
 constructor
 ·rintro⟨q,hq,hle⟩;rcases(rK l p q).1 hq with e|⟨h1,_⟩
  ·subst e;exact .inr hle
  exact .inl ⟨q,h1,hle⟩
 rintro(⟨q,hq,hle⟩|h)
 ·cases e:p.le q with
  |true=>exact⟨p,(rK l p p).2 (.inl rfl),Pa.le_trans e hle⟩
  |false=>exact⟨q,(rK l p q).2 (.inr ⟨hq,e⟩),hle⟩
 exact⟨p,(rK l p p).2 (.inl rfl),h⟩
theorem Can.put{l:List Pa}(h:Can l){p:Pa}(hd:¬yW l p):Can (qb l p):=by
 unfold qb Can;have hf:Can (l.filter fun x=> !(p.le x)):=List.Pairwise.sublist List.filter_sublist h;have hno:∀x∈l,x.le p=false:=fun x hx=>by
  cases e:x.le p with
  |false=>rfl
  |true=>exact absurd ⟨x,hx,e⟩ hd
 split
 ·rename_i hn;refine List.pairwise_append.2 ⟨hf,Zm,fun x hx q hq=>?_⟩;simp at hq;subst hq;obtain⟨hx1,hx2⟩:=Kh.1 hx;have h1:=hno x hx1;have h2:q.le x=false:=by simpa using hx2
  obtain⟨a,b⟩:=x;obtain⟨c,d⟩:=q;simp at hn;subst hn;cases a<;>simp[Pa.le] at*<;>omega
 rename_i hn;refine List.pairwise_cons.2 ⟨fun x hx=>?_,hf⟩;obtain⟨hx1,hx2⟩:=Kh.1 hx;have h1:=hno x hx1;have h2:p.le x=false:=by simpa using hx2
 obtain⟨a,b⟩:=x;obtain⟨c,d⟩:=p;simp at hn;subst hn;cases a<;>simp[Pa.le] at*<;>omega
def HX(l:List Pa):Nat:=l.foldr (fun p m=>min p.a.toNat m) 1048577
def co(l:List Pa):Nat:=HX l+HX (l.filter fun p=>p.n)
theorem Val.ok{ws:List We}{a k:Nat}{p:Pa}(h:Val ws a k p):p.ok=true:=by
 obtain⟨l,_,hr⟩:=h;exact Ee l (by rfl) hr
theorem Val.step{ws:List We}{a:Nat}{p r:Pa}{w:We}(h:Val ws a w.f p)(hw:w∈ws)(e:p.thn w.p=some r):Val ws a w.t r:=by
 obtain⟨l,h1,h2⟩:=h;refine⟨l++[w],h1.append ⟨hw,rfl,rfl⟩,?_⟩;rw[du,h2];show((p.thn w.p).bind fun q=>run q [])=some r;rw[e];rfl
theorem Val.aAU(ws:List We)(a:Nat):Val ws a a Pa.aAU:=⟨[],rfl,rfl⟩
def FS(ws:List We)(out:List (List Pa))(k:Nat):Prop:=∀p∈out.getD k [],∀w∈ws,w.f=k→∀r,p.thn w.p=some r→yW (out.getD w.t []) r
structure Ij(ws:List We)(n a:Nat)(out:List (List Pa))(todo:List Nat):Prop where
 len:out.length=n
 can:∀k,Can (out.getD k [])
 val:∀k,∀p∈out.getD k [],Val ws a k p
 start:yW (out.getD a []) Pa.aAU
 lt:∀x∈todo,x<n
 clo:∀k,k<n→k∉todo→FS ws out k
structure AJ(ws:List We)(n a k:Nat)(paths:List Pa)(D:We→Pa→Prop)(out:List (List Pa))(todo:List Nat):Prop where
 len:out.length=n
 can:∀k,Can (out.getD k [])
 val:∀k,∀p∈out.getD k [],Val ws a k p
 start:yW (out.getD a []) Pa.aAU
 lt:∀x∈todo,x<n
 clo:∀j,j<n→j∉todo→j≠k→FS ws out j
 pv:∀p∈paths,Val ws a k p
 me:k∈todo∨(out.getD k []=paths∧∀w∈ws,∀p∈paths,D w p→w.f=k→∀r,p.thn w.p=some r→yW (out.getD w.t []) r)
theorem yT{α:Type}(l:List α)(i j:Nat)(v d:α)(h:i<l.length):(l.set i v).getD j d=if j=i then v else l.getD j d:=by
 rw[Ka,Ka];by_cases e:j=i
 ·subst e;simp[h]
 rw[Kg or];simp[e]
theorem AJ.put{ws:List We}{n a k:Nat}{paths:List Pa}{D:We→Pa→Prop}{out:List (List Pa)}{todo:List Nat}(W:AJ ws n a k paths D out todo){w:We}{p r:Pa}(hw:w∈ws)(hf:w.f=k)(ht:w.t<n)(hp:p∈paths)(e:p.thn w.p=some r)(hd:¬yW (out.getD w.t []) r):
 AJ ws n a k paths (fun v q=>D v q∨(v=w∧q=p)) (out.set w.t (qb (out.getD w.t []) r)) (todo++[w.t]):=by
 have aAQ:∀j,(out.set w.t (qb (out.getD w.t []) r)).getD j []=if j=w.t then qb (out.getD w.t []) r else out.getD j []:=fun j=>yT _ _ _ _ _ (by rw[W.len];exact ht)
 have up:∀j x,yW (out.getD j []) x→yW ((out.set w.t (qb (out.getD w.t []) r)).getD j []) x:=fun j x h=>by
  rw[aAQ];split
  ·rename_i ej;rw[ej] at h;exact uc.2 (.inl h)
  exact h
 refine⟨by simp[W.len],fun j=>?_,fun j q hq=>?_,up _ _ W.start,?_,?_,W.pv,?_⟩
 ·rw[aAQ];split
  ·exact(W.can _).put hd
  exact W.can j
 ·rw[aAQ] at hq;split at hq
  ·rename_i ej;subst ej;rcases(rK _ _ _).1 hq with eq|⟨h1,_⟩
   ·subst eq;exact Val.step (by rw[hf];exact W.pv p hp) hw e
   exact W.val _ q h1
  exact W.val j q hq
 ·intro x hx;rcases Kd.1 hx with h|h
  ·exact W.lt x h
  simp at h;omega
 ·intro j hj hn hk q hq v hv hvf r' hr';have hjt:j≠w.t:=fun ej=>hn (by simp[ej]);rw[aAQ,if_neg hjt] at hq;exact up _ _ (W.clo j hj (fun h=>hn (by simp[h])) hk q hq v hv hvf r' hr')
 rcases W.me with h|⟨h1,h2⟩
 ·exact .inl (by simp[h])
 by_cases ek:k=w.t
 ·exact .inl (by simp[ek])
 refine .inr ⟨by rw[aAQ,if_neg ek];exact h1,?_⟩;rintro v hv q hq (hD|⟨ev,eq⟩) hvf r' hr'
 ·exact up _ _ (h2 v hv q hq hD hvf r' hr')
 subst ev eq;rw[e] at hr';injection hr' with hr';subst hr';rw[aAQ,if_pos rfl];exact uc.2 (.inr (Pa.le_refl _))
structure In(ws:List We)(a k:Nat)(l:List Pa):Prop where
 can:Can l
 val:∀p∈l,Val ws a k p
 dom:∀p,Val ws a k p→yW l p
structure FQ(ws:List We)(n a r:Nat)(at':List (List Pa)):Prop where
 len:at'.length=n
 can:∀k,k<n→Can (at'.getD k [])
 val:∀k,k<n→∀p∈at'.getD k [],Val ws a k p
 dom:∀k,k<n→∀l p,l.length≤r→Walk ws a l k→run Pa.aAU l=some p→yW (at'.getD k []) p
structure Iy(l m:List Pa):Prop where
 can:Can m
 sub:∀p∈m,p∈l
 dom:∀p∈l,yW m p
theorem FQ.first{ws:List We}{n a:Nat}(ha:a<n):FQ ws n a 0 ((Kf n []).set a [Pa.aAU]):=by
 have aAQ:∀j,((Kf n ([]:List Pa)).set a [Pa.aAU]).getD j []=if j=a then [Pa.aAU] else []:=fun j=>by
  rw[yT _ _ _ _ _ (by simpa using ha)];split
  ·rfl
  rw[Ka,Kj];split<;>rfl
 refine⟨Zm,fun k _=>?_,fun k _ p hp=>?_,fun k _ l p hl hw hr=>?_⟩
 ·rw[aAQ];split<;>simp[Can]
 ·rw[aAQ] at hp;split at hp
  ·rename_i e;simp at hp;subst e hp;exact Val.aAU ws k
  cases hp
 have e:l=[]:=List.length_eq_zero_iff.1 or;subst e;have hw:a=k:=hw;have hr:some Pa.aAU=some p:=hr;injection hr with hr;subst hw hr;rw[aAQ,if_pos rfl];exact⟨Pa.aAU,Zm,Pa.le_refl _⟩
theorem Ij.first{ws:List We}{n a:Nat}(ha:a<n):Ij ws n a ((Kf n []).set a [Pa.aAU]) [a]:=by
 have aAQ:∀j,((Kf n ([]:List Pa)).set a [Pa.aAU]).getD j []=if j=a then [Pa.aAU] else []:=fun j=>by
  rw[yT _ _ _ _ _ (by simpa using ha)];split
  ·rfl
  rw[Ka,Kj];split<;>rfl
 refine⟨Zm,fun k=>?_,fun k p hp=>?_,?_,by simpa using ha,fun k hk hn p hp=>?_⟩
 ·rw[aAQ];split<;>simp[Can]
 ·rw[aAQ] at hp;split at hp
  ·rename_i e;simp at hp;subst e hp;exact Val.aAU ws k
  cases hp
 ·rw[aAQ,if_pos rfl];exact⟨Pa.aAU,Zm,Pa.le_refl _⟩
 rw[aAQ,if_neg (by simpa using hn)] at hp;cases hp
section
variable{α:Type} [DecidableEq α]{lt:α→α→Bool}
structure Ord(lt:α→α→Bool):Prop where
 irr:∀x,lt x x=false
 trans:∀x y z,lt x y=true→lt y z=true→lt x z=true
 tot:∀x y,lt x y=false→lt y x=false→x=y
def csT(out:List α)(x:α):List α:=if out.getLast?=some x then out else out++[x]
def cs(l:List α):List α:=l.foldl csT []
end
end Go.Proofs.YtlhedpgobaellaaGreatDoor
namespace Go.Proofs.YtlhedpgobaellaaGreatDoor
open Go.RowKit
attribute [local irreducible] IntKind.wrap
def Pa.v(p:Pa):V:= .agg [.bool p.n, .int .i64 p.a]
def dC(n:Int):V:=if n=0 then .nilIface else .iface 93 (.int .i64 n)
theorem Ao:dC 0= .nilIface:=rfl
theorem dS(L:Nat→Prop)(n:Int):(dC n).names L:=by unfold dC;split<;>simp[V.names]
theorem dK(n:Int):veq (.iface true) (dC n) .nilIface=some (decide (n=0)):=by
 unfold dC;split<;>simp_all [veq]
end Go.Proofs.YtlhedpgobaellaaGreatDoor
namespace Go.Proofs.YtlhedpgobaellaaGreatDoor
open Go.RowKit Go.Sort
attribute [local irreducible] IntKind.wrap
theorem vb{a b:Bool}(h:a=true↔b=true):V.bool a=V.bool b:=by rw[KK.2 h]
theorem EL:aE Tryz.prog 156=some (LB.aDp 213):=Zz
theorem EG:aE Tryz.prog 213=some LB.aCZ:=Zz
theorem mq(s:ByteArray)(h:Hp):aM Tryz.prog 215 [.str s] h (.bool false):=by
 refine aJ (fun L=>trivial) fun h' nx hh=>aB L.aXA fun hd=>?_;refine ZK ?_;refine au ?_;refine aC h' (leo hd) ⟨?_,rfl⟩;simp
theorem AD(a b:UInt8):iw a b=-1∨iw a b=0∨iw a b=1:=by
 unfold iw tG;split
 ·simp
 split<;>simp
theorem zW:∀x y:List UInt8,eT iw x y=-1∨eT iw x y=0∨eT iw x y=1
 | [],[]=>by simp[eT]
 | [],_::_=>by simp[eT]
 |_::_,[]=>by simp[eT]
 |a::x,b::y=>by
  unfold eT orC;split
  ·exact zW x y
  exact AD a b
theorem GN(a b:ByteArray):AE a b=if Op.bytesLess a.toList b.toList=true then-1 else if (!(Op.bytesLess a.toList b.toList||a.toList==b.toList))=true then 1 else 0:=by
 rw[dV,i8];have h1:=zW a.toList b.toList;have h2:=c3S.eq a b;unfold AE at h2⊢;by_cases e:a=b
 ·subst e;have:=h2.2 rfl;rw[this];simp
 have h3:eT iw a.toList b.toList≠0:=fun k=>e (h2.1 k);rcases h1 with h1|h1|h1
 ·rw[h1];simp
 ·exact absurd h1 h3
 rw[h1];simp[e]
theorem Dw(a b:ByteArray)(h:Hp):aM Tryz.prog 158 [.str a, .str b] h (.int .i64 (AE a b)):=by
 refine aJ (fun L=>trivial) fun h' nx hh=>aB L.aZq fun hd=>?_;refine ZK ?_;have C1:=fun h=>mq a h;have C2:=fun h=>mq b h;rw[GN];cases h1:Op.bytesLess a.toList b.toList with
 |true=>
  refine aue h1 ?_;exact aC h' (leo hd) ⟨rfl,rfl⟩
 |false=>
  cases h2:a.toList==b.toList with
  |true=>
   refine aue (e4 h1 h2 KS KP) ?_;exact aC h' (leo hd) ⟨rfl,rfl⟩
  |false=>
   refine aue (e4 h1 h2 KS KP) ?_;exact aC h' (leo hd) ⟨rfl,rfl⟩
theorem GM(a b:Vl):orI [tG a.k b.k,tG a.n b.n,AE a.s b.s]=sD a b:=by
 simp only[orI,sD,orC];repeat' split
 all_goals first|rfl|omega
theorem BM(a b:Vl)(h:Hp):aM Tryz.prog 100 [a.v,b.v] h (.int .i64 (sD a b)):=by
 refine aJ (fun L=>trivial) fun h' nx hh=>aB L.bAd fun hd=>?_;refine ZK ?_;have D1:=fun h=>iy EL EG a.k b.k h;have D2:=fun h=>iy zu Gl a.n b.n h;have D3:=fun h=>Dw a.s b.s h;have D4:=fun h=>Ce Cw (.tok (nx+17)) [tG a.k b.k,tG a.n b.n,AE a.s b.s] Zm h;rw[GM] at D4;refine aue Vl.v.eq_1 ?_;exact aC h' (leo hd) ⟨rfl,rfl⟩
theorem xK(n:Int)(h:Hp):aM Tryz.prog 143 [.int .i64 n] h (.bool (vH n)):=by
 refine aJ (fun L=>trivial) fun h' nx hh=>aB L.aYA fun hd=>?_;refine ZK ?_;unfold vH;by_cases h1:-2147483647≤n
 ·have h2:decide (-2147483647≤n)=true:=dct;refine aue h2 ?_;refine aC h' (leo hd) ⟨?_,rfl⟩;simp[h1]
 have h2:decide (-2147483647≤n)=false:=dcf;refine aue h2 ?_;refine aC h' (leo hd) ⟨?_,rfl⟩;simp[h1]
theorem vd(c:Nat)(h:Hp):aM Tryz.prog 206 [.int .u8 c] h (.bool (eE c)):=by
 refine aJ (fun L=>trivial) fun h' nx hh=>aB L.aN5 fun hd=>?_;refine ZK ?_;unfold eE;by_cases h1:(97:Int)≤c
 ·have h2:decide ((97:Int)≤c)=true:=dct;refine aue h2 ?_;refine aC h' (leo hd) ⟨?_,rfl⟩;have:97≤c:=or;simp[this];omega
 have h2:decide ((97:Int)≤c)=false:=dcf;refine aue h2 ?_;refine aC h' (leo hd) ⟨?_,rfl⟩;simp;omega
theorem zo(c:Nat)(h:Hp):aM Tryz.prog 205 [.int .i32 c] h (.bool (mC c)):=by
 refine aJ (fun L=>trivial) fun h' nx hh=>aB L.aOA fun hd=>?_;refine ZK ?_;unfold mC lM;cases h1:decide ((97:Int)≤c)<;>cases h2:decide ((c:Int)≤122)<;>cases h3:decide ((48:Int)≤c)<;>cases h4:decide ((c:Int)≤57)<;>
  (refine aue (e4 h1 h2 h3 h4) ?_
   refine aC h' (leo hd) ⟨?_,rfl⟩;simp only[decide_eq_true_eq,decide_eq_false_iff_not] at h1 h2 h3 h4;refine vb ?_;simp;try omega)
theorem mr(s:ByteArray)(h:Hp):aM Tryz.prog 144 [.str s] h (.bool (jV s)):=by
 refine aJ (fun L=>trivial) fun h' nx hh=>aB L.aX9 fun hd=>?_;refine ZK ?_;have C1:=fun h=>vd (byt s 0) h;have C2:=fun h=>yZ mC 205 [] (fun x _=>zo x Hp.none) s h;have hb:(s.data.toList.getD 0 0).toNat=byt s 0:=rfl;have hnil:(s.toList==(⟨#[]⟩:ByteArray).toList)=decide (s.size=0):=by
  rw[dV];congr 1;rw[eq_iff_iff];exact⟨fun e=>by rw[e];rfl,fun e=>by cases s with|mk d=>simp only[ByteArray.size] at e;rw[Kb e]⟩
 rw[s5] at C2;by_cases h0:s.size=0
 ·have g0:decide (s.size=0)=true:=dct;have:jV s=false:=by unfold jV;exact decide_eq_false or
  refine aue (e2 hnil g0) ?_;exact aC h' (leo hd) ⟨by rw[this]<;>rfl,rfl⟩
 have g0:decide (s.size=0)=false:=dcf;by_cases h1:32<s.size
 ·have g1:decide ((s.size:Int)≤32)=false:=dcf;have:jV s=false:=by unfold jV;exact decide_eq_false or
  refine aue (e3 hnil g0 g1) ?_;exact aC h' (leo hd) ⟨by rw[this]<;>rfl,rfl⟩
 have g1:decide ((s.size:Int)≤32)=true:=dct;have aAk:0<s.size:=or;cases h2:eE (byt s 0) with
 |false=>
  rw[h2] at C1;have:jV s=false:=by unfold jV;exact decide_eq_false (by simp[h2])
  refine aue (e5 hnil g0 g1 hb aAk) ?_;exact aC h' (leo hd) ⟨by rw[this]<;>rfl,rfl⟩
 |true=>
  rw[h2] at C1;have:jV s=decide (∀i,i<s.size→lM (byt s i)=true):=by
   unfold jV;congr 1;rw[eq_iff_iff];exact⟨fun k=>k.2.2.2,fun k=>⟨or,or,h2,k⟩⟩
  refine aue (e5 hnil g0 g1 hb aAk) ?_;refine aC h' (leo hd) ⟨?_,rfl⟩;rw[this];simp
theorem iP(x:Vl)(h:Hp):aM Tryz.prog 94 [x.v] h (.bool (bU x)):=by
 refine aJ (fun L=>trivial) fun h' nx hh=>aB L.aYD fun hd=>?_;refine ZK ?_;have C1:=fun h=>xK x.n h;have C2:=fun h=>mr x.s h;have hnil:(x.s.toList==(⟨#[]⟩:ByteArray).toList)=decide (x.s.size=0):=by
  rw[dV];congr 1;rw[eq_iff_iff];exact⟨fun e=>by rw[e];rfl,fun e=>by cases hs:x.s with|mk d=>rw[hs] at e;simp only[ByteArray.size] at e;rw[Kb e]⟩
 unfold bU;by_cases k1:x.k=1
 ·have g1:(x.k==1)=true:=bqt;by_cases k2:x.s.size=0
  ·have g2:decide (x.s.size=0)=true:=dct;refine aue (e4 Vl.v.eq_1 g1 hnil g2) ?_;refine aC h' (leo hd) ⟨?_,rfl⟩;simp[k1,k2]
  have g2:decide (x.s.size=0)=false:=dcf;refine aue (e4 Vl.v.eq_1 g1 hnil g2) ?_;refine aC h' (leo hd) ⟨?_,rfl⟩;simp[k1,k2]
 have g1:(x.k==1)=false:=bqf;by_cases k3:x.k=2
 ·have g3:(x.k==2)=true:=bqt;by_cases k2:x.n=0
  ·have g2:(x.n==0)=true:=bqt;refine aue (e4 Vl.v.eq_1 g1 g3 g2) ?_;refine aC h' (leo hd) ⟨?_,rfl⟩;simp[k3,k2]
  have g2:(x.n==0)=false:=bqf;refine aue (e4 Vl.v.eq_1 g1 g3 g2) ?_;refine aC h' (leo hd) ⟨?_,rfl⟩;simp[k3,k2]
 have g3:(x.k==2)=false:=bqf;refine aue (e3 Vl.v.eq_1 g1 g3) ?_;refine aC h' (leo hd) ⟨?_,rfl⟩;simp[k1,k3]
theorem DM(n:Int)(h:Hp):aM Tryz.prog 93 [.int .i64 n] h (.tup [(ofV n).1.v,dC (ofV n).2]):=by
 refine aJ (fun L=>⟨Vl.aAN L _,by unfold dC;split<;>simp[V.names],trivial⟩) fun h' nx hh=>aB L.bAg fun hd=>?_;refine ZK ?_;have C1:=fun h=>xK n h;unfold ofV;cases hb:vH n with
 |true=>
  rw[hb] at C1;refine au ?_;refine bC (by simp only[go_sem,reduceIte,jA,jB,jC,jD,reduceCtorEq,jE,jF]) h' (leo hd) ⟨?_,rfl⟩;refine Zn ?_;rfl
 |false=>
  rw[hb] at C1;refine au ?_;refine bC (by simp only[go_sem,reduceIte,jA,jB,jC,jD,reduceCtorEq,jE,jF]) h' (leo hd) ⟨?_,rfl⟩;refine Zn ?_;rfl
theorem zd(s:ByteArray)(hl:s.size≤9223372036854775807)(h:Hp):aM Tryz.prog 216 [.str s] h (.bool (jV s)):=by
 refine aJ (fun L=>trivial) fun h' nx hh=>aB L.aW9 fun hd=>?_;refine ZK ?_;refine au ?_
 refine aP (fun i:Nat=>aD 48 0 [(0, .str s),(3, .int .i64 i)])
  (fun i hp nx1=>i≤s.size∧hp=h'∧(∀j,j<i→lM (byt s j)=true)∧(0<i→eE (byt s 0)=true))
  (fun i=>s.size-i) 0 ⟨Ks _,rfl,fun j hj=>absurd hj or,fun h=>absurd h or⟩ (by simp only[WkL,aD,jH,jI,jJ,go_sem,reduceIte,jA,jB,jC,jD,reduceCtorEq,jE,jF]) ?_
 rintro i hp nx1 ⟨hi,rfl,aC9,aCS⟩;generalize hQ:aZ _ _ _ _ _=Q0;refine Zk ?_;rcases Kv i s.size with hlt|hge
 ·have hc:decide ((i:Int)<(s.size:Int))=true:=dct;have hw:IntKind.i64.wrap ((i:Int)+1)=((i+1:Nat):Int):=wrp;have hb:(s.data.toList.getD i 0).toNat=byt s i:=rfl;have hi0:((i:Int)==0)=decide (i=0):=by by_cases e:i=0<;>simp[e]
  obtain⟨c,hcq⟩:∃c,byt s i=c:=⟨_,rfl⟩;have bad:((eE c=false∧(i=0∨lM c=false)))→jV s=false:=fun k=>by
   unfold jV;refine decide_eq_false fun n=>?_;rcases k with⟨k1,rfl|k2⟩
   ·rw[hcq] at n;rw[n.2.2.1] at k1;cases k1
   have:=n.2.2.2 i hlt;rw[hcq,k2] at this;cases this
  have aZb:(eE c=true∨(i≠0∧lM c=true))→(∀j,j<i+1→lM (byt s j)=true)∧(0<i+1→eE (byt s 0)=true):=fun k=>by
   refine⟨fun j hj=>?_,fun _=>?_⟩
   ·rcases Kv j i with h|h
    ·exact aC9 j h
    have:j=i:=or;subst this;rw[hcq];rcases k with k|k
    ·simp only[eE,lM,decide_eq_true_eq] at k⊢;exact .inl k
    exact k.2
   rcases Nat.eq_zero_or_pos i with h|h
   ·subst h;rw[hcq];exact k.elim id fun k=>absurd rfl k.1
   exact aCS h
  cases h0:decide (i=0)<;>cases h1:decide ((97:Int)≤c)<;>cases h2:decide ((c:Int)≤122)<;>cases h3:decide ((48:Int)≤c)<;>cases h4:decide ((c:Int)≤57)<;>cases h5:((c:Int) != 95)<;>
   (have g:=e6 h0 h1 h2 h3 h4 h5
    simp only[decide_eq_true_eq,decide_eq_false_iff_not,bne_iff_ne,bne_eq_false_iff_eq,ne_eq] at g;try (exfalso;omega))
  all_goals refine aue (e11 hc hw hb hi0 hcq h0 h1 h2 h3 h4 (e2 h5 hlt)) ?_
  all_goals
   rw[←hQ]
   first
    |refine aF (i+1) or ⟨or,rfl,aZb (by simp only[eE,lM,decide_eq_true_eq];omega)⟩ (by simp only[WkL,aD,jH,jI,jJ,go_sem,reduceIte,jA,jB,jC,jD,reduceCtorEq,jE,jF])
    |(refine au ?_
      exact aC hp (leo hd) ⟨by rw[bad (by simp only[eE,lM,decide_eq_false_iff_not];omega)]<;>rfl,rfl⟩)
 have hc:decide ((i:Int)<(s.size:Int))=false:=dcf;have hi:i=s.size:=or;subst hi;refine aue hc ?_;rw[←hQ];have hn:jV s=(decide ((s.size:Int)≥1)&&decide ((s.size:Int)≤32)):=by
  rw[KK];simp only[jV,Bool.and_eq_true,decide_eq_true_eq];exact⟨fun k=>⟨or,or⟩,fun k=>⟨or,or,aCS or,aC9⟩⟩
 cases h1:decide ((s.size:Int)≥1) with
 |true=>
  have h1':decide (1≤(s.size:Int))=true:=h1;refine aue h1' ?_;refine aC hp (leo hd) ⟨?_,rfl⟩;rw[hn,h1,KA];rfl
 |false=>
  have h1':decide (1≤(s.size:Int))=false:=h1;refine aue h1' ?_;refine aC hp (leo hd) ⟨?_,rfl⟩;rw[hn,h1];rfl
theorem pf(x:Vl)(hl:x.s.size≤9223372036854775807)(h:Hp):aM Tryz.prog 160 [x.v] h (.bool (bU x)):=by
 refine aJ (fun L=>trivial) fun h' nx hh=>aB L.aZp fun hd=>?_;refine ZK ?_;have C1:=fun h=>zd x.s hl h;unfold bU vH;cases k1:(x.k==1) with
 |true=>
  have q1:x.k=1:=by simpa using k1
  cases k2:((x.s.size:Int)==0) with
  |true=>
   have q2:x.s.size=0:=by simpa using k2
   cases k3:decide (-2147483647≤x.n) with
   |true=>
    refine aue (e4 Vl.v.eq_1 k1 k2 k3) ?_;refine aC h' (leo hd) ⟨vb ?_,rfl⟩;simp only[decide_eq_true_eq] at k3;simp[q1,q2,k3]
   |false=>
    refine aue (e4 Vl.v.eq_1 k1 k2 k3) ?_;refine aC h' (leo hd) ⟨vb ?_,rfl⟩;simp only[decide_eq_false_iff_not] at k3;simp[q1,q2];omega
  |false=>
   have q2:x.s.size≠0:=by simpa using k2
   refine aue (e3 Vl.v.eq_1 k1 k2) ?_;refine aC h' (leo hd) ⟨vb ?_,rfl⟩;simp[q1,q2]
 |false=>
  have q1:x.k≠1:=by simpa using k1
  cases k2:(x.k==2) with
  |true=>
   have q2:x.k=2:=by simpa using k2
   cases k3:(x.n==0) with
   |true=>
    have q3:x.n=0:=by simpa using k3
    refine aue (e4 Vl.v.eq_1 k1 k2 k3) ?_;refine aC h' (leo hd) ⟨vb ?_,rfl⟩;simp[q2,q3]
   |false=>
    have q3:x.n≠0:=by simpa using k3
    refine aue (e4 Vl.v.eq_1 k1 k2 k3) ?_;refine aC h' (leo hd) ⟨vb ?_,rfl⟩;simp[q2,q3]
  |false=>
   have q2:x.k≠2:=by simpa using k2
   refine aue (e3 Vl.v.eq_1 k1 k2) ?_;refine aC h' (leo hd) ⟨vb ?_,rfl⟩;simp[q1,q2]
theorem ry(a b:Vl)(h:Hp):aM Tryz.prog 129 [a.v,b.v] h (.bool (Bo a b)):=by
 refine aJ (fun L=>trivial) fun h' nx hh=>aB L.bAH fun hd=>?_;refine ZK ?_;unfold Bo sD orC tG;cases k1:(a.k != b.k) with
 |true=>
  have q1:a.k≠b.k:=by simpa using k1
  refine aue (ee2 Vl.v.eq_1 k1) ?_;refine aC h' (leo hd) ⟨vb ?_,rfl⟩;simp only[decide_eq_true_eq];repeat' split
  all_goals omega
 |false=>
  have q1:a.k=b.k:=by simpa using k1
  cases k2:(a.n != b.n) with
  |true=>
   have q2:a.n≠b.n:=by simpa using k2
   refine aue (e3 Vl.v.eq_1 k1 k2) ?_;refine aC h' (leo hd) ⟨vb ?_,rfl⟩;simp only[decide_eq_true_eq];repeat' split
   all_goals omega
  |false=>
   have q2:a.n=b.n:=by simpa using k2
   refine aue (e3 Vl.v.eq_1 k1 k2) ?_;refine aC h' (leo hd) ⟨vb ?_,rfl⟩;simp only[i8,decide_eq_true_eq,q1,q2,Int.lt_irrefl,if_false,if_true];exact Iff.rfl
theorem Cf(n:Int)(h:Hp):aM Tryz.prog 17 [dC n] h (.int .i64 n):=by
 refine aJ (fun L=>trivial) fun h' nx hh=>aB L.g8z fun hd=>?_;refine ZK ?_;by_cases hn:n=0
 ·subst hn;refine aue Ao ?_;exact aC h' (leo hd) ⟨rfl,rfl⟩
 have e:dC n= .iface 93 (.int .i64 n):=by unfold dC;rw[if_neg hn]
 have e2:(n != 0)=true:=by simpa using hn
 refine aue (ee2 e e2) ?_;exact aC h' (leo hd) ⟨rfl,rfl⟩
end Go.Proofs.YtlhedpgobaellaaGreatDoor
namespace Go.Proofs.YtlhedpgobaellaaGreatDoor
open Go.RowKit
theorem g8{K:Ker}{h:Hp}(hr:Rel K h){n a:Nat}{k:Sh}{es:List V}{off len:Nat}{cv:Value}(hn:h n=some (.arr k es))(ha:¬K.live a)(hb0:off+len≤es.length)(hv:VR K (.rs n k off len) cv):
 ∃K',K'.w=K.w∧K.le K'∧(∀m,K'.live m→K.live m∨m=a)∧VR K' (.sl k .free ((es.drop off).take len)) cv∧Rel K' (h.del n):=by
 have hb:=hr.blk n _ hn;cases hb with
 |arr _ _ c T hh hcs himm hfit hcv=>
  cases hv with
  |rs _ _ _ _ cap hl hcap hm=>
   obtain⟨T',m,hm1,hm2⟩:=hm;have hcm:m=c.size:=by simp[World.shape?,hh] at hm1;exact hm1.2.symm
   subst hcm;have hblk:K.mu n<K.w.heap.size:=by
    rcases Kv (K.mu n) K.w.heap.size with hlt|hge
    ·exact hlt
    rw[Kw hge] at hh;exact absurd hh Zm
   have hle:K.le (K.aAH a (K.mu n) (es.length*k.size)):=K.aAT ha (by rw[himm];exact Ks _);have hmu:(K.aAH a (K.mu n) (es.length*k.size)).mu a=K.mu n:=by simp[Ker.aAH]
   have hrel:Rel (K.aAH a (K.mu n) (es.length*k.size)) ((h.del n).set a .tip):=hr.aAH hn ha (by rw[himm];exact Ks _) (.tip c T (by rw[hmu];exact hh) (by simp[Ker.aAH]) (by simp only[Ker.aAH,if_true];exact hcs));have hlen:((es.drop off).take len).length=len:=by simp;omega
   have hsz:(off+len)*k.size≤es.length*k.size:=Nat.mul_le_mul_right _ hb0;rw[KV] at hsz;have hget:∀i,i<len→((es.drop off).take len).getD i V.undef=es.getD (off+i) V.undef:=fun i hi=>by
    rw[Ka,Ka,List.getElem?_take_of_lt hi,List.getElem?_drop]
   refine⟨K.aAH a (K.mu n) (es.length*k.size),rfl,hle,fun m hm=>hm.symm,?_,hrel.weaken fun m b e=>?_⟩
   ·have:=VR.sl (K:=K.aAH a (K.mu n) (es.length*k.size)) k .free ((es.drop off).take len) (K.mu n) (off*k.size) cap (fun j=>c.getD (off*k.size+j) KU) hblk (fun e he=>hfit e (List.mem_of_mem_drop (Kz he)))
     (fun j hj=>by
       rw[hlen] at hj;show K.w.cell? _=_;simp only[KN,hh];rw[Kq,Ku or];rfl)
     (fun j hj=> .inr (by rw[hlen] at hj;simp only[Ker.aAH,if_true];omega))
     (fun i hi j hj=>by
       rw[hlen] at hi;rw[hget i hi];have:=(hcv (off+i) or j hj).mono hle;rwa [KV,Nat.add_assoc] at this) (by rw[hlen];exact hcap) Zm Zm
     (fun m hm=>by cases hm)
    rw[hlen] at this;exact this
   unfold Hp.del at e;unfold Hp.set Hp.del;by_cases e1:m=n
   ·rw[if_pos e1] at e;cases e
   rw[if_neg e1] at e;have hma:m≠a:=fun e2=>ha (e2▸hr.lt m b e);rw[if_neg hma,if_neg e1];exact e
def Ia(k:Sh)(m:Nat)(l:List V):V:=if l.isEmpty=true then .sl k .nil [] else .rs m k 0 l.length
structure Iw(h:Hp)(O:Nat)(k:Sh)(ν:Nat→Nat)(ls:List (List V))(j:Nat)(es:List V):Prop where
 blk:h O=some (.arr .leaf es)
 len:es.length=ls.length
 old:∀i (hi:i<ls.length) (hi':i<es.length),i<j→es[i]=lst k ls[i]
 new:∀i (hi:i<ls.length) (hi':i<es.length),j≤i→es[i]=Ia k (ν i) ls[i]
 mem:∀i (hi:i<ls.length),j≤i→ls[i]≠ []→h (ν i)=some (.arr k ls[i])∧ν i≠O
 apart:∀i i' (hi:i<ls.length) (hi':i'<ls.length),j≤i→i<i'→ls[i]≠ []→ls[i']≠ []→ν i≠ν i'
def V.aAs:V→V
 | .tup vs=> .tup (vs.map V.loose)
 |v=>v.loose
theorem VR.aAs{K:Ker}{v:V}{cv:Value}(r:VR K v cv):VR K v.aAs cv:=by
 cases v with
 |tup vs=>
  cases r with
  |tup _ ccs hl hv=>
   refine .tup _ ccs (by simpa using hl) fun i hi=>?_;have hi':i<vs.length:=by simpa using hi
   have:=hv i hi';simp only[Ka,List.getElem?_map,List.getElem?_eq_getElem hi',Option.map_some,KG] at this⊢;exact this.loose
 |_=>exact r.loose
theorem aR.aOv{P:Program}{f:FuncId}{args:List V}{h:Hp}{nx:Nat}{R R':V→Hp→Nat→Prop}(c:aR P f args h nx R)(hc:∀v h' nx',nx≤nx'→aS h' nx'→R v h' nx'→∃h2,h2.le h'∧R' v.aAs h2 nx'):aR P f args h nx R':=by
 refine⟨c.1,fun K cargs hl hr hv=>(c.2 K cargs hl hr hv).mono ?_⟩;rintro e w' ⟨K',v,cv,h',nx',rfl,he,hle,hvr,hrel,hlv,hnx,hR⟩;obtain⟨h2,q1,q2⟩:=hc v h' nx' hnx (fun m b hm=>(hlv m (hrel.lt m b hm)).1) hR;exact⟨K',v.aAs,cv,h2,nx',rfl,he,hle,hvr.aAs,hrel.weaken q1,hlv,hnx,q2⟩
theorem gJ{P:Program}{f:FuncId}{args:List V}{h:Hp}{v:V}(hv:∀L,v.names L)(hc:∀h' nx,h.has h'→aR P f args h' nx fun v' h'' _=>v'.aAs=v∧h'.le h''):aM P f args h v:=
 aJ hv fun h' nx hh=>(hc h' nx hh).aOv fun v' h'' nx' _ _ hq=>⟨h',hq.2,hq.1,rfl⟩
theorem fE.set{K:Ker}{sl:List V}{a:Act}(r:fE K sl a){t:Nat}{v:V}(hv:VR K v (a.tmps.getD t KU)):fE K (sl.set t v) a:=by
 refine⟨by rw[KL];exact r.1,fun u=>?_⟩;by_cases e:u=t
 ·subst e;by_cases hl:u<sl.length
  ·rw[Ka,List.getElem?_set_self hl];exact hv
  have:=r.2 u;rw[List.set_eq_of_length_le or];exact this
 have:=r.2 u;rw[Ka] at this⊢;rw[Kg (fun h=>e h.symm)];exact this
theorem lB{sl:List V}{h:Hp}{nx t n off len:Nat}{k:Sh}{es:List V}(ht:sl.getD t V.undef= .rs n k off len)(hn:h n=some (.arr k es))(hb:off+len≤es.length):
 tH ⟨sl,h,nx⟩ ⟨sl.set t (.sl k .free ((es.drop off).take len)),h.del n,nx+1⟩:=by
 intro K0 K nx0 a r;have hv:=r.aAD.2 t;rw[ht] at hv;have hfr:¬K.live nx:=fun hh=>KQ _ (r.live nx hh).1;obtain⟨K',q1,q2,q3,q4,q5⟩:=g8 r.rel hn hfr hb hv;refine⟨K',q1,r.le.trans q2,(r.aAD.mono q2).set q4,q5,fun m hm=>?_,KE r.nx,by rw[q1];exact r.defers⟩;rcases q3 m hm with hm|rfl
 ·have:=r.live m hm;exact⟨KF this.1,this.2⟩
 exact⟨KJ _, .inr r.nx⟩
theorem Ai{K:Ker}{h:Hp}(hr:Rel K h){n a i o:Nat}{k:Sh}{es:List V}{cv:Value}(hn:h n=some (.arr k es))(ha:¬K.live a)(hv:VR K (.ptr n k i o) cv):
 ∃K',K'.w=K.w∧K.le K'∧(∀m,K'.live m→K.live m∨m=a)∧VR K' (.ept k es i o) cv∧Rel K' (h.del n):=by
 have hb:=hr.blk n _ hn;cases hb with
 |arr _ _ c T hh hcs himm hfit hcv=>
  cases hv with
  |ptr _ _ _ _ hl=>
   have hblk:K.mu n<K.w.heap.size:=by
    rcases Kv (K.mu n) K.w.heap.size with hlt|hge
    ·exact hlt
    rw[Kw hge] at hh;exact absurd hh Zm
   have hle:K.le (K.aAH a (K.mu n) (es.length*k.size)):=K.aAT ha (by rw[himm];exact Ks _);have hmu:(K.aAH a (K.mu n) (es.length*k.size)).mu a=K.mu n:=by simp[Ker.aAH]
   have hrel:Rel (K.aAH a (K.mu n) (es.length*k.size)) ((h.del n).set a .tip):=hr.aAH hn ha (by rw[himm];exact Ks _) (.tip c T (by rw[hmu];exact hh) (by simp[Ker.aAH]) (by simp only[Ker.aAH,if_true];exact hcs));refine⟨K.aAH a (K.mu n) (es.length*k.size),rfl,hle,fun m hm=>hm.symm,?_,hrel.weaken fun m b e=>?_⟩
   ·have:=VR.ept (K:=K.aAH a (K.mu n) (es.length*k.size)) k es i o (K.mu n) 0 (fun j=>c.getD j KU) hblk hfit
     (fun j hj=>by
       show K.w.cell? _=_;simp only[KN,hh,KD];rw[Kq,Ku or];rfl)
     (fun j hj=> .inr (by simp only[Ker.aAH,if_true];omega))
     (fun i hi j hj=>(hcv i hi j hj).mono hle)
    rwa [KD] at this
   unfold Hp.del at e;unfold Hp.set Hp.del;by_cases e1:m=n
   ·rw[if_pos e1] at e;cases e
   rw[if_neg e1] at e;have hma:m≠a:=fun e2=>ha (e2▸hr.lt m b e);rw[if_neg hma,if_neg e1];exact e
theorem mO{sl:List V}{h:Hp}{nx t n i o:Nat}{k:Sh}{es:List V}(ht:sl.getD t V.undef= .ptr n k i o)(hn:h n=some (.arr k es)):
 tH ⟨sl,h,nx⟩ ⟨sl.set t (.ept k es i o),h.del n,nx+1⟩:=by
 intro K0 K nx0 a r;have hv:=r.aAD.2 t;rw[ht] at hv;have hfr:¬K.live nx:=fun hh=>KQ _ (r.live nx hh).1;obtain⟨K',q1,q2,q3,q4,q5⟩:=Ai r.rel hn hfr hv;refine⟨K',q1,r.le.trans q2,(r.aAD.mono q2).set q4,q5,fun m hm=>?_,KE r.nx,by rw[q1];exact r.defers⟩;rcases q3 m hm with hm|rfl
 ·have:=r.live m hm;exact⟨KF this.1,this.2⟩
 exact⟨KJ _, .inr r.nx⟩
theorem gsl(l:List V)(i j:Nat)(v d:V):(l.set i v).getD j d=if i=j∧j<l.length then v else l.getD j d:=by
 rw[Ka,Ka,List.getElem?_set];split
 ·rename_i e;subst e;split
  ·rename_i h;rw[if_pos ⟨rfl,h⟩];rfl
  rename_i h;rw[if_neg (fun k=>h k.2),List.getElem?_eq_none or]
 rename_i e;rw[if_neg (fun k=>e k.1)]
structure RG(F:List (Nat×Nat×V))(fix:List (Nat×V))(n:Nat)(D:Nat→Bool)(sl:List V):Prop where
 len:sl.length=n
 fx:∀p∈fix,sl.getD p.1 V.undef=p.2
 dn:∀f∈F,D f.1=true→sl.getD f.2.1 V.undef=f.2.2
theorem RG.slot{F:List (Nat×Nat×V)}{fix:List (Nat×V)}{n:Nat}{D:Nat→Bool}{sl:List V}(r:RG F fix n D sl)(i t:Nat)(v:V)(ht:t<n)(hF:∀f∈F,(f.1=i∨f.2.1=t)→f=(i,t,v))(hx:∀p∈fix,p.1≠t):
 RG F fix n (fun j=>if j=i then true else D j) (sl.set t v):=by
 obtain⟨len,fx,dn⟩:=r;refine⟨by rw[KL];exact len,fun p hp=>?_,fun f hf hd=>?_⟩
 ·rw[gsl,if_neg (fun e=>hx p hp e.1.symm)];exact fx p hp
 rw[gsl];by_cases e:t=f.2.1
 ·have:=hF f hf (.inr e.symm);subst this;rw[if_pos ⟨rfl,by rw[len];exact ht⟩]
 rw[if_neg (fun k=>e k.1)];by_cases e2:f.1=i
 ·have:=hF f hf (.inl e2);subst this;exact absurd rfl e
 rw[if_neg e2] at hd;exact dn f hf hd
theorem RG.none{F:List (Nat×Nat×V)}{fix:List (Nat×V)}{n:Nat}{D:Nat→Bool}{sl:List V}(r:RG F fix n D sl)(i:Nat)(hF:∀f∈F,f.1≠i):RG F fix n (fun j=>if j=i then true else D j) sl:=
 ⟨r.len,r.fx,fun f hf hd=>r.dn f hf (by rwa [if_neg (hF f hf)] at hd)⟩
end Go.Proofs.YtlhedpgobaellaaGreatDoor
