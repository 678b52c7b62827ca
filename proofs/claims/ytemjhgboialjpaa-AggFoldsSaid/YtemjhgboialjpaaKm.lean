/-
Texts of this proof,one behind the other. No conditions.
-/
import Derived.Shelf.SlSortCmp.WholeK
import Derived.Shelf.SlSortCmp.NoneTotal
import Derived.Shelf.SlSortCmp.Whole1
import Derived.Test.YtemjhgboialjpaaProg
import Derived.Test.YtemjhgboialjpaaKd
import Derived.Test.YtemjhgboialjpaaKk
import Derived.Test.YtemjhgboialjpaaKl
import Derived.Test.YtemjhgboialjpaaKe
import Derived.Test.YtemjhgboialjpaaKj
import Derived.Test.YtemjhgboialjpaaKh
set_option linter.unusedSimpArgs false
set_option linter.unusedVariables false
set_option linter.unusedSectionVars false
open Nat renaming reduceAdd→jA,reduceSub→jB,reduceLT→jC,reduceLeDiff→jD,reduceEqDiff→jE
open Int renaming reduceToNat→jF,toNat_natCast→jG,natCast_add→jH,natCast_one→jI,natCast_zero→jJ
open List renaming length_map→jK,length_cons→jL,length_nil→jM,replicate_succ→jN,replicate_zero→jO,cons_append→jP,nil_append→jQ
namespace Go.Proofs.Ytemjhgboialjpaa
open Go.Shelf
def xF:Go.Shelf.Ren:=⟨fun|6=>57|15=>69|14=>68|28=>82|29=>83|20=>74|21=>75|22=>76|23=>77|24=>78|25=>79|26=>80|27=>81|46=>92|47=>93|48=>94|49=>95|50=>96|57=>100|n=>n,fun|22=>22|24=>27|25=>49|3=>3|39=>95|0=>0|53=>109|55=>111|4=>4|46=>102|45=>101|50=>106|5=>5|9=>9|66=>117|70=>121|76=>125|77=>126|n=>n,fun|n=>n⟩
theorem aCF:Go.Proofs.SlLaysF0.n6 Try.prog xF:={
 mixed:=by kernel_rfl
 f6:=⟨Try.f57.name,by decide,Try.func57.trans (congrArg some (by kernel_rfl))⟩
 f14:=⟨Try.f68.name,by decide,Try.func68.trans (congrArg some (by kernel_rfl))⟩
 f15:=Try.func69.trans (congrArg some (by kernel_rfl))
 f20:=⟨Try.f74.name,by decide,Try.func74.trans (congrArg some (by kernel_rfl))⟩
 f21:=⟨Try.f75.name,by decide,Try.func75.trans (congrArg some (by kernel_rfl))⟩
 f22:=⟨Try.f76.name,by decide,Try.func76.trans (congrArg some (by kernel_rfl))⟩
 f23:=⟨Try.f77.name,by decide,Try.func77.trans (congrArg some (by kernel_rfl))⟩
 f24:=⟨Try.f78.name,by decide,Try.func78.trans (congrArg some (by kernel_rfl))⟩
 f25:=⟨Try.f79.name,by decide,Try.func79.trans (congrArg some (by kernel_rfl))⟩
 f26:=⟨Try.f80.name,by decide,Try.func80.trans (congrArg some (by kernel_rfl))⟩
 f27:=⟨Try.f81.name,by decide,Try.func81.trans (congrArg some (by kernel_rfl))⟩
 f28:=Try.func82.trans (congrArg some (by kernel_rfl))
 f29:=Try.func83.trans (congrArg some (by kernel_rfl))
 f46:=⟨Try.f92.name,by decide,Try.func92.trans (congrArg some (by kernel_rfl))⟩
 f47:=Try.func93.trans (congrArg some (by kernel_rfl))
 f48:=Try.func94.trans (congrArg some (by kernel_rfl))
 f49:=⟨Try.f95.name,by decide,Try.func95.trans (congrArg some (by kernel_rfl))⟩
 f50:=⟨Try.f96.name,by decide,Try.func96.trans (congrArg some (by kernel_rfl))⟩
 f57:=⟨Try.f100.name,by decide,Try.func100.trans (congrArg some (by kernel_rfl))⟩
 t0:=Try.underlying0
 a0:=Try.isAgg0
 z0:=Try.sizeOf0
 v0:=Try.zeroValue0
 t3:=Try.underlying3
 a3:=Try.isAgg3
 z3:=Try.sizeOf3
 v3:=Try.zeroValue3
 t4:=Try.underlying4
 a4:=Try.isAgg4
 z4:=Try.sizeOf4
 v4:=Try.zeroValue4
 t5:=Try.underlying5
 a5:=Try.isAgg5
 z5:=Try.sizeOf5
 v5:=Try.zeroValue5
 t9:=Try.underlying9
 a9:=Try.isAgg9
 z9:=Try.sizeOf9
 v9:=Try.zeroValue9
 t22:=Try.underlying22
 a22:=Try.isAgg22
 z22:=Try.sizeOf22
 v22:=Try.zeroValue22
 t25:=Try.underlying49
 a25:=Try.isAgg49
 z25:=Try.sizeOf49
 v25:=Try.zeroValue49
 t39:=Try.underlying95
 a39:=Try.isAgg95
 z39:=Try.sizeOf95
 v39:=Try.zeroValue95
 t45:=Try.underlying101
 a45:=Try.isAgg101
 z45:=Try.sizeOf101
 v45:=Try.zeroValue101
 t46:=Try.underlying102
 a46:=Try.isAgg102
 z46:=Try.sizeOf102
 v46:=Try.zeroValue102
 t50:=Try.underlying106
 a50:=Try.isAgg106
 z50:=Try.sizeOf106
 v50:=Try.zeroValue106
 t53:=Try.underlying109
 a53:=Try.isAgg109
 z53:=Try.sizeOf109
 v53:=Try.zeroValue109
 t55:=Try.underlying111
 a55:=Try.isAgg111
 z55:=Try.sizeOf111
 v55:=Try.zeroValue111
 t66:=Try.underlying117
 a66:=Try.isAgg117
 z66:=Try.sizeOf117
 v66:=Try.zeroValue117
 t70:=Try.underlying121
 a70:=Try.isAgg121
 z70:=Try.sizeOf121
 v70:=Try.zeroValue121
 t76:=Try.underlying125
 a76:=Try.isAgg125
 z76:=Try.sizeOf125
 v76:=Try.zeroValue125
 t77:=Try.underlying126
 a77:=Try.isAgg126
 z77:=Try.sizeOf126
 v77:=Try.zeroValue126}
def xG:Go.Shelf.Ren:=⟨fun|6=>63|15=>69|14=>71|28=>82|29=>83|20=>84|21=>85|22=>86|23=>87|24=>88|25=>89|26=>90|27=>91|46=>97|47=>93|48=>94|49=>98|50=>99|57=>101|n=>n,fun|22=>36|24=>38|25=>42|3=>3|39=>95|0=>0|53=>109|55=>111|4=>4|46=>102|45=>101|50=>106|5=>5|9=>9|66=>117|70=>121|76=>125|77=>126|n=>n,fun|n=>n⟩
theorem aCG:Go.Proofs.SlLaysF.n6 Try.prog xG:={
 mixed:=by kernel_rfl
 f6:=⟨Try.f63.name,by decide,Try.func63.trans (congrArg some (by kernel_rfl))⟩
 f14:=⟨Try.f71.name,by decide,Try.func71.trans (congrArg some (by kernel_rfl))⟩
 f15:=Try.func69.trans (congrArg some (by kernel_rfl))
 f20:=⟨Try.f84.name,by decide,Try.func84.trans (congrArg some (by kernel_rfl))⟩
 f21:=⟨Try.f85.name,by decide,Try.func85.trans (congrArg some (by kernel_rfl))⟩
 f22:=⟨Try.f86.name,by decide,Try.func86.trans (congrArg some (by kernel_rfl))⟩
 f23:=⟨Try.f87.name,by decide,Try.func87.trans (congrArg some (by kernel_rfl))⟩
 f24:=⟨Try.f88.name,by decide,Try.func88.trans (congrArg some (by kernel_rfl))⟩
 f25:=⟨Try.f89.name,by decide,Try.func89.trans (congrArg some (by kernel_rfl))⟩
 f26:=⟨Try.f90.name,by decide,Try.func90.trans (congrArg some (by kernel_rfl))⟩
 f27:=⟨Try.f91.name,by decide,Try.func91.trans (congrArg some (by kernel_rfl))⟩
 f28:=Try.func82.trans (congrArg some (by kernel_rfl))
 f29:=Try.func83.trans (congrArg some (by kernel_rfl))
 f46:=⟨Try.f97.name,by decide,Try.func97.trans (congrArg some (by kernel_rfl))⟩
 f47:=Try.func93.trans (congrArg some (by kernel_rfl))
 f48:=Try.func94.trans (congrArg some (by kernel_rfl))
 f49:=⟨Try.f98.name,by decide,Try.func98.trans (congrArg some (by kernel_rfl))⟩
 f50:=⟨Try.f99.name,by decide,Try.func99.trans (congrArg some (by kernel_rfl))⟩
 f57:=⟨Try.f101.name,by decide,Try.func101.trans (congrArg some (by kernel_rfl))⟩
 t0:=Try.underlying0
 a0:=Try.isAgg0
 z0:=Try.sizeOf0
 v0:=Try.zeroValue0
 t3:=Try.underlying3
 a3:=Try.isAgg3
 z3:=Try.sizeOf3
 v3:=Try.zeroValue3
 t4:=Try.underlying4
 a4:=Try.isAgg4
 z4:=Try.sizeOf4
 v4:=Try.zeroValue4
 t5:=Try.underlying5
 a5:=Try.isAgg5
 z5:=Try.sizeOf5
 v5:=Try.zeroValue5
 t9:=Try.underlying9
 a9:=Try.isAgg9
 z9:=Try.sizeOf9
 v9:=Try.zeroValue9
 t22:=Try.underlying36
 a22:=Try.isAgg36
 z22:=Try.sizeOf36
 v22:=Try.zeroValue36
 a24:=Try.isAgg38
 z24:=Try.sizeOf38
 t25:=Try.underlying42
 a25:=Try.isAgg42
 z25:=Try.sizeOf42
 v25:=Try.zeroValue42
 t39:=Try.underlying95
 a39:=Try.isAgg95
 z39:=Try.sizeOf95
 v39:=Try.zeroValue95
 t45:=Try.underlying101
 a45:=Try.isAgg101
 z45:=Try.sizeOf101
 v45:=Try.zeroValue101
 t46:=Try.underlying102
 a46:=Try.isAgg102
 z46:=Try.sizeOf102
 v46:=Try.zeroValue102
 t50:=Try.underlying106
 a50:=Try.isAgg106
 z50:=Try.sizeOf106
 v50:=Try.zeroValue106
 t53:=Try.underlying109
 a53:=Try.isAgg109
 z53:=Try.sizeOf109
 v53:=Try.zeroValue109
 t55:=Try.underlying111
 a55:=Try.isAgg111
 z55:=Try.sizeOf111
 v55:=Try.zeroValue111
 t66:=Try.underlying117
 a66:=Try.isAgg117
 z66:=Try.sizeOf117
 v66:=Try.zeroValue117
 t70:=Try.underlying121
 a70:=Try.isAgg121
 z70:=Try.sizeOf121
 v70:=Try.zeroValue121
 t76:=Try.underlying125
 a76:=Try.isAgg125
 z76:=Try.sizeOf125
 v76:=Try.zeroValue125
 t77:=Try.underlying126
 a77:=Try.isAgg126
 z77:=Try.sizeOf126
 v77:=Try.zeroValue126}
end Go.Proofs.Ytemjhgboialjpaa
namespace Go.Proofs.Ytemjhgboialjpaa
open Go.RowKit Go.Sort
attribute [local irreducible] IntKind.wrap
theorem aL.frz{P:Program}{f:FuncId}{args:List V}{h:Hp}{nx:Nat}{R:V→Hp→Nat→Prop}{R':V→Hp→Prop}(c:aL P f args h nx R)
 (hc:∀v h' nx',R v h' nx'→R' v h'∨∃k id es m,v= .rs id k 0 m∧nx≤id∧m≤es.length∧h'=h.set id (.arr k es)∧R' (.sl k .free (es.take m)) h):aL P f args h nx fun v h' _=>R' v h':=by
 refine⟨c.1,fun K cargs hl hr hv=>(c.2 K cargs hl hr hv).mono ?_⟩
 rintro e w' ⟨K',v,cv,h',nx',rfl,he,hle,hvr,hrel,hlv,hnx,hR⟩
 rcases hc v h' nx' hR with h1|⟨k,id,es,m,rfl,hid,hm,rfl,h1⟩
 ·exact⟨K',v,cv,h',nx',rfl,he,hle,hvr,hrel,hlv,hnx,h1⟩
 have hfr:¬K'.live nx':=fun hh=>Nat.lt_irrefl _ (hlv nx' hh).1
 have hset:(h.set id (.arr k es)) id=some (.arr k es):=by simp[Hp.set]
 obtain⟨K'',q1,q2,q3,q4,q5⟩:=lZ hrel hset hfr (by omega) hvr
 have hnone:h id=none:=by
  cases hd:h id with
  |none=>rfl
  |some b=>exact absurd (hl id (hr.lt id b hd)) (by omega)
 have hh:(h.set id (.arr k es)).del id=h:=by
  funext x
  unfold Hp.set Hp.del
  by_cases e1:x=id
  ·subst e1;simp[hnone]
  simp[e1]
 rw[hh] at q5
 rw[List.drop_zero] at q4
 refine⟨K'',_,cv,_,nx'+1,q1,he,hle.trans q2,q4,q5,fun m hm=>?_,by omega,h1⟩
 rcases q3 m hm with hm|rfl
 ·exact⟨by have:=(hlv m hm).1;omega,(hlv m hm).2⟩
 exact⟨by omega, .inr hnx⟩
theorem aBm:aG Try.prog 20=some (LB.AggSet (.agg 3) 37 36 38 39):=by kernel_rfl
theorem aBp:aG Try.prog 38=some (LB.CompactFunc (.agg 3) (.agg [.int .i64 0, .int .i64 0, .str ⟨#[]⟩])):=by kernel_rfl
theorem vP:aG Try.prog 36=some (LB.SortedFunc (.agg 3) 56 57):=by kernel_rfl
theorem tZ:aG Try.prog 56=some (LB.Collect (.agg 3) 67):=by kernel_rfl
theorem pZ:aG Try.prog 67=some (LB.AppendSeq (.agg 3) (.agg [.int .i64 0, .int .i64 0, .str ⟨#[]⟩]) 32):=by kernel_rfl
theorem vN:aG Try.prog 37=some (LB.Values (.agg 3) 58):=by kernel_rfl
theorem rR:aG Try.prog 58=some (LB.ValuesIt (.agg 3) (.agg [.int .i64 0, .int .i64 0, .str ⟨#[]⟩])):=by kernel_rfl
theorem aBn:aG Try.prog 25=some (LB.AggSet .leaf 46 45 47 48):=by kernel_rfl
theorem aBq:aG Try.prog 47=some (LB.CompactFunc .leaf (.sl (.agg 3) .nil [])):=by kernel_rfl
theorem vQ:aG Try.prog 45=some (LB.SortedFunc .leaf 62 63):=by kernel_rfl
theorem uA:aG Try.prog 62=some (LB.Collect .leaf 70):=by kernel_rfl
theorem qA:aG Try.prog 70=some (LB.AppendSeqL 24):=by kernel_rfl
theorem vO:aG Try.prog 46=some (LB.Values .leaf 64):=by kernel_rfl
theorem rS:aG Try.prog 64=some LB.ValuesItL:=by kernel_rfl
theorem xH(a b:Vl)(h:Hp)(n:Nat)(hn:h n=some (.arr .leaf [.fn (.func 21) [] []])):bJ Try.prog 39 [a.v,b.v, .ptr n .leaf 0 0] h (.bool (decide (cG a b=0))):=by
 refine aU (fun L=>trivial) fun h' nx hh=>aD L.agg_set_api_Value_1_low fun hd=>?_
 simp only[List.length_cons,List.length_nil,Nat.reduceAdd,Nat.reduceSub,List.replicate_succ,List.replicate_zero,List.cons_append,List.nil_append,V.undef]
 have hn1:=hh _ _ hn rfl
 have hn2:n<nx:=hd _ _ hn1
 have hk:=fun h=>nP a b h
 refine aue (e4 Vl.v.eq_1 hn1 hn2 Vl.fits_v) ?_
 refine cW rfl (hk _) rfl (aQ _) ?_
 simp only[go_sem,reduceIte,Nat.reduceAdd,Nat.reduceSub,Nat.reduceLT,Nat.reduceLeDiff,reduceCtorEq,Nat.reduceEqDiff,Int.reduceToNat]
 refine au ?_
 refine aC h' (leo hd) ⟨vb ?_,rfl⟩
 simp
theorem xI(a b:TR)(hl:a.2.length≤1000000000)(h:Hp)(n:Nat)(hn:h n=some (.arr .leaf [.fn (.func 14) [] []])):bJ Try.prog 48 [a.v,b.v, .ptr n .leaf 0 0] h (.bool (decide (eY a.2 b.2=0))):=by
 refine aU (fun L=>trivial) fun h' nx hh=>aD L.agg_set_api_Tuple_1_low fun hd=>?_
 simp only[List.length_cons,List.length_nil,Nat.reduceAdd,Nat.reduceSub,List.replicate_succ,List.replicate_zero,List.cons_append,List.nil_append,V.undef]
 have hn1:=hh _ _ hn rfl
 have hn2:n<nx:=hd _ _ hn1
 have hk:=fun h=>nQ a.1 a.2 b.2 hl b.v h (.inl ⟨b.1,rfl⟩)
 refine aue (e2 hn1 hn2) ?_
 refine cW rfl (hk _) rfl (aQ _) ?_
 simp only[go_sem,reduceIte,Nat.reduceAdd,Nat.reduceSub,Nat.reduceLT,Nat.reduceLeDiff,reduceCtorEq,Nat.reduceEqDiff,Int.reduceToNat]
 refine au ?_
 refine aC h' (leo hd) ⟨vb ?_,rfl⟩
 simp
theorem vS{k:Sh}(o:Own)(l:List V):∃o',(V.sl k o l).loose= .sl k o' l:=by cases o<;>exact⟨_,rfl⟩
theorem aAa(o:Own)(l:List Vl)(hl:l.length≤1000000)(h:Hp):bJ Try.prog 20 [vls o l, .fn (.func 21) [] []] h (lst (.agg 3) ((cC cG l).map Vl.v)):=by
 obtain⟨o',ho'⟩:=vS (k:= .agg 3) o (l.map Vl.v)
 refine aU (fun L=>nX (fun L=>fX (fun x=>Vl.names_v L x) _) L) fun h' nx hh=>?_
 refine((sF Vl.v aBm aBp rfl Vl.fits_v cG o l hl
  (fun h=>pF vN o (l.map Vl.v) (fun L=>fX (fun x=>Vl.names_v L x) _) h)
  (fun h nx=>by
    rw[ho']
    exact nS Vl.v aCF Vl.fits_v (by intro w;exact Try.isAgg27 w) (by intro w;exact Try.sizeOf27 w) (by kernel_rfl) vP tZ pZ rfl (by omega) rfl _ _ Hp.none l
     (tM Vl.v Vl.fits_v rR rfl o' l (by omega)) (by omega) cG c3V.swo _ [] (fun x y=>by simpa using nP x y Hp.none) h nx (bO _))
  (fun x y hb b e=>xH x y hb b e) h' nx).frz (R':=fun v' h''=>v'=lst (.agg 3) ((cC cG l).map Vl.v)∧h''=h') ?_)
 rintro v h3 nx3 ⟨ys,hp,hs,hr⟩
 have hc:cpt (fun x y=>decide (cG x y=0)) ys=cC cG l:=by
  have:=zK c3V id ys (by unfold dW at hs;exact hs.imp fun{x y} h=>by simpa [ltOf] using h)
  simp only[List.map_id,id] at this
  rw[this]
  exact vC c3V fun z=>hp.mem_iff
 rcases hr with⟨rfl,rfl,rfl⟩|⟨hne,id,es,m,hid,rfl,hm,rfl,htk⟩
 ·exact .inl ⟨rfl,rfl⟩
 refine .inr ⟨_,id,es,m,rfl,hid,hm,rfl,?_,rfl⟩
 rw[htk,hc]
 have:cC cG l≠ []:=fun h=>hne ((mL c3V l).1 h)
 revert this
 cases cC cG l with
 |nil=>exact fun h=>absurd rfl h
 |cons a b=>exact fun _=>rfl
abbrev TS:Type:={p:TR // p.2.length≤1000000}
instance:Inhabited TS:=⟨⟨(.nil,[]),by simp⟩⟩
theorem aCQ(l:List TR)(h:∀p∈l,p.2.length≤1000000):∃xs:List TS,xs.map (·.1)=l:=by
 induction l with
 |nil=>exact⟨[],rfl⟩
 |cons p l ih=>
  obtain⟨xs,rfl⟩:=ih fun q hq=>h q (by simp[hq])
  exact⟨⟨p,h p (by simp)⟩::xs,rfl⟩
theorem lR(o:Own)(l:List TR)(hl:l.length≤1000000)(hok:∀p∈l,p.2.length≤1000000∧p.ok)(h':Hp)(nx:Nat):aL Try.prog 25 [tps o l, .fn (.func 14) [] []] h' nx fun v h'' _=>
 ∃zs:List TR,aO zs=cC eY (aO l)∧(∀z∈zs,z∈l)∧((zs=[]∧v= .sl .leaf .nil []∧h''=h')∨(zs≠ []∧∃id es,nx≤id∧v= .rs id .leaf 0 zs.length∧zs.length≤es.length∧h''=h'.set id (.arr .leaf es)∧es.take zs.length=zs.map TR.v)):=by
 obtain⟨xs,rfl⟩:=aCQ l fun p hp=>(hok p hp).1
 obtain⟨o',ho'⟩:=vS (k:= .leaf) o (xs.map fun x=>x.1.v)
 have hok':∀x∈xs,x.1.ok:=fun x hx=>(hok x.1 (List.mem_map.2 ⟨x,hx,rfl⟩)).2
 have hn:∀L,bM L (xs.map fun x=>x.1.v):=fun L=>by
  clear hl hok ho'
  induction xs with
  |nil=>trivial
  |cons x xs ih=>exact⟨TR.names (hok' x (by simp)) L,ih fun y hy=>hok' y (by simp[hy])⟩
 have hm:tps o (xs.map (·.1))= .sl .leaf o (xs.map fun x:TS=>x.1.v):=by simp[tps,List.map_map,Function.comp_def]
 rw[hm]
 have hsw:SWO (ltOf fun x y:TS=>eY x.1.2 y.1.2):=pI (fun x:TS=>x.1.2) c3T.swo
 refine((sF (fun x:TS=>x.1.v) aBn aBq rfl (fun x=>rfl) (fun x y=>eY x.1.2 y.1.2) o xs (by simpa using hl)
  (fun h=>pF vO o _ hn h)
  (fun h nx=>by
    rw[ho']
    exact nR (fun x:TS=>x.1.v) aCG (fun x=>rfl) (by kernel_rfl) vQ uA qA (by omega) rfl _ _ Hp.none xs
     (rO (fun x:TS=>x.1.v) (fun x=>rfl) rS o' xs (by simp at hl;omega)) (by simp at hl;omega) (fun x y=>eY x.1.2 y.1.2) hsw _ [] (fun x y=>by
       have hb:=x.2
       exact nQ x.1.1 x.1.2 y.1.2 (by omega) y.1.v Hp.none (.inl ⟨y.1.1,rfl⟩)) h nx (bO _))
  (fun x y hb b e=>xI x.1 y.1 (by have:=x.2;omega) hb b e) h' nx).mono ?_)
 rintro v h3 nx3 _ ⟨ys,hp,hs,hr⟩
 have hc:(cpt (fun x y:TS=>decide (eY x.1.2 y.1.2=0)) ys).map (fun x=>x.1.2)=cC eY (xs.map fun x=>x.1.2):=by
  rw[zK c3T (fun x:TS=>x.1.2) ys (by unfold dW at hs;exact hs.imp fun{x y} h=>by simpa [ltOf] using h)]
  exact vC c3T fun z=>(hp.map _).mem_iff
 have hsub:∀z∈cpt (fun x y:TS=>decide (eY x.1.2 y.1.2=0)) ys,z∈xs:=fun z hz=>hp.mem_iff.1 ((aCn _ ys).subset hz)
 generalize cpt (fun x y:TS=>decide (eY x.1.2 y.1.2=0)) ys=zs at hc hsub hr
 refine⟨zs.map (·.1),by simp only[aO,List.map_map,Function.comp_def];exact hc,fun z hz=>by
  obtain⟨y,hy,rfl⟩:=List.mem_map.1 hz
  exact List.mem_map.2 ⟨y,hsub y hy,rfl⟩,?_⟩
 rcases hr with⟨rfl,rfl,rfl⟩|⟨hne,id,es,m,hid,rfl,hm,rfl,htk⟩
 ·refine .inl ⟨?_,rfl,rfl⟩
  have:zs=[]:=by simpa [cC] using hc
  rw[this];rfl
 have hml:m=zs.length:=by have:=congrArg List.length htk;simp at this;omega
 subst hml
 refine .inr ⟨fun h=>?_,id,es,hid,by simp,by simpa using hm,rfl,by simpa [List.map_map,Function.comp_def] using htk⟩
 have h0:zs=[]:=by simpa using h
 rw[h0] at hc
 exact hne (by have:=(mL c3T _).1 hc.symm;simpa using this)
end Go.Proofs.Ytemjhgboialjpaa
namespace Go.Proofs.Ytemjhgboialjpaa
open Go.RowKit Go.Sort
attribute [local irreducible] IntKind.wrap
theorem lJ:aG Try.prog 19=some (LB.ContainsFunc (.agg 3) 35):=by kernel_rfl
theorem pX:aG Try.prog 35=some (LB.IndexFunc (.agg 3)):=by kernel_rfl
theorem pY:aG Try.prog 49=some (LB.Clone (.agg 3) 32):=by kernel_rfl
theorem yG(x:Vl)(h:Hp):bJ Try.prog 16 [x.v] h (.bool (!cT x)):=by
 refine aU (fun L=>trivial) fun h' nx hh=>aD L.agg_Fold_1_low fun hd=>?_
 simp only[jL,jM,jA,jB,jN,jO,jP,jQ,V.undef]
 have C1:=fun h=>uX x h
 refine aue (e2 Vl.v.eq_1 Vl.fits_v) ?_
 exact aC h' (leo hd) ⟨rfl,rfl⟩
theorem yF(x:Vl)(h:Hp):bJ Try.prog 18 [x.v] h (.bool (x.k != 1)):=by
 refine aU (fun L=>trivial) fun h' nx hh=>aD L.agg_Fold_2_low fun hd=>?_
 simp only[jL,jM,jA,jB,jN,jO,jP,jQ,V.undef]
 refine aue Vl.v.eq_1 ?_
 exact aC h' (leo hd) ⟨rfl,rfl⟩
theorem sD(l:List Vl)(i:Nat)(h:i<l.length):gI (l.take (i+1))=gI (l.take i)+l[i].n:=by
 rw[List.take_succ_eq_append_getElem h]
 simp only[gI,List.map_append,List.sum_append,List.map_cons,List.map_nil,List.sum_cons,List.sum_nil,Int.add_zero]
set_option maxHeartbeats 2000000 in
theorem sZ(g:Int)(o:Own)(l:List Vl)(hl:l.length≤1000000)(h:Hp):bJ Try.prog 7 [.int .i64 g,vls o l] h (.tup [(dL g l).1.v,oY (dL g l).2]):=by
 refine aU (fun L=>⟨Vl.names_v L _,by unfold oY;split<;>simp[V.names],trivial⟩) fun h' nx hh=>aD L.agg_Fold_low fun hd=>?_
 simp only[jL,jM,jA,jB,jN,jO,jP,jQ,V.undef]
 have C1:=fun h=>hT Vl.v Vl.fits_v lJ pX (fun x=> !cT x) o l 16 [] h (fun x _=>yG x h) (by omega)
 have C2:=fun h=>hT Vl.v Vl.fits_v lJ pX (fun x=>x.k != 1) o l 18 [] h (fun x _=>yF x h) (by omega)
 have C3:=fun h=>aAa o l hl h
 have hml:(l.map Vl.v).length=l.length:=jK ..
 unfold dL
 by_cases h1:g<1
 ·have c1:decide (g<1)=true:=dct
  refine aue c1 ?_
  refine aM (by simp only[go_sem,reduceIte,jA,jB,jC,jD,reduceCtorEq,jE,jF]) h' (leo hd) ⟨?_,rfl⟩
  simp only[go_sem,reduceIte,jA,jB,jC,jD,reduceCtorEq,jE,jF]
  rw[if_pos (.inl h1)];rfl
 have c1:decide (g<1)=false:=dcf
 by_cases h2:4<g
 ·have c2:decide (4<g)=true:=dct
  refine aue (e2 c1 c2) ?_
  refine aM (by simp only[go_sem,reduceIte,jA,jB,jC,jD,reduceCtorEq,jE,jF]) h' (leo hd) ⟨?_,rfl⟩
  simp only[go_sem,reduceIte,jA,jB,jC,jD,reduceCtorEq,jE,jF]
  rw[if_pos (.inr h2)];rfl
 have c2:decide (4<g)=false:=dcf
 rw[if_neg (by omega)]
 by_cases h3:l=[]
 ·have c3:((l.length:Int)==0)=true:=by rw[h3];rfl
  refine aue (e4 c1 c2 c3 hml) ?_
  refine aM (by simp only[go_sem,reduceIte,jA,jB,jC,jD,reduceCtorEq,jE,jF]) h' (leo hd) ⟨?_,rfl⟩
  simp only[go_sem,reduceIte,jA,jB,jC,jD,reduceCtorEq,jE,jF]
  rw[if_pos h3];rfl
 have c3:((l.length:Int)==0)=false:=bqf (by have:=List.length_pos_iff.2 h3;omega)
 rw[if_neg h3]
 cases h4:l.any fun x=> !cT x with
 |true=>
  rw[h4] at C1
  have:¬∀x∈l,cT x=true:=fun k=>by
   obtain⟨x,hx,hx2⟩:=List.any_eq_true.1 h4
   simp[k x hx] at hx2
  refine aue (e4 c1 c2 c3 hml) ?_
  refine aM (by simp only[go_sem,reduceIte,jA,jB,jC,jD,reduceCtorEq,jE,jF]) h' (leo hd) ⟨?_,rfl⟩
  simp only[go_sem,reduceIte,jA,jB,jC,jD,reduceCtorEq,jE,jF]
  rw[if_pos this];rfl
 |false=>
 rw[h4] at C1
 have hright:∀x∈l,cT x=true:=fun x hx=>by
  have:=(List.any_eq_false.1 h4) x hx
  simpa using this
 rw[if_neg (fun k=>k hright)]
 obtain⟨s,hs⟩:∃s,cC cG l=s:=⟨_,rfl⟩
 have hsl:s.length≤l.length:=by rw[←hs];exact iY l
 have hsn:s≠ []:=fun e=>h3 ((mL c3V l).1 (hs.trans e))
 have hsp:0<s.length:=List.length_pos_iff.2 hsn
 have hsr:∀x∈s,cT x=true:=fun x hx=>hright x (((cK c3V l).2 x).1 (hs▸hx))
 rw[hs] at C3⊢
 obtain⟨os,hos⟩:=xS (.agg 3) (s.map Vl.v)
 rw[hos] at C3
 have hms:(s.map Vl.v).length=s.length:=jK ..
 by_cases h5:g=2∧¬∀x∈l,x.k=1
 ·have c4:(g==2)=true:=bqt h5.1
  have:(l.any fun x=>x.k != 1)=true:=by
   cases k:l.any fun x=>x.k != 1 with
   |true=>rfl
   |false=>exact absurd (fun x hx=>by simpa using(List.any_eq_false.1 k) x hx) h5.2
  rw[this] at C2
  refine aue (e5 c1 c2 c3 hml c4) ?_
  refine aM (by simp only[go_sem,reduceIte,jA,jB,jC,jD,reduceCtorEq,jE,jF]) h' (leo hd) ⟨?_,rfl⟩
  simp only[go_sem,reduceIte,jA,jB,jC,jD,reduceCtorEq,jE,jF]
  rw[if_pos h5];rfl
 rw[if_neg h5]
 by_cases g1:g=1
 ·subst g1
  have C4:=fun h=>uY s.length h
  have c5:((1:Int)==2)=false:=by decide
  have c6:((1:Int)==1)=true:=by decide
  refine aue (e8 c1 c2 c3 hml c5 c6 hms Vl.fits_v) ?_
  refine aM (by simp only[Vl.fits_v,aJ (Vl.fits_v _),go_sem,reduceIte,jA,jB,jC,jD,reduceCtorEq,jE,jF]) h' (leo hd) ⟨?_,rfl⟩
  simp only[Vl.fits_v,aJ (Vl.fits_v _),go_sem,reduceIte,jA,jB,jC,jD,reduceCtorEq,jE,jF]
 have c6:(g==1)=false:=bqf
 rw[if_neg g1]
 --the sum's test of symbols
 have c7:g=2→(l.any fun x=>x.k != 1)=false:=fun e=>by
  cases k:l.any fun x=>x.k != 1 with
  |false=>rfl
  |true=>
   obtain⟨x,hx,hx2⟩:=List.any_eq_true.1 k
   refine absurd ⟨e,fun q=>?_⟩ h5
   simp[q x hx] at hx2
 by_cases g3:g=3
 ·subst g3
  have c5:((3:Int)==2)=false:=by decide
  have c8:((3:Int)==3)=true:=by decide
  have hg0:(s.map Vl.v).getD 0 (.tup [])=(s.headD eC).v:=by
   cases s with
   |nil=>exact absurd rfl hsn
   |cons x s=>rfl
  refine aue (e11 c1 c2 c3 hml c5 c6 hms Vl.fits_v c8 hg0 hsp) ?_
  refine aM (by simp only[Vl.fits_v,aJ (Vl.fits_v _),go_sem,reduceIte,jA,jB,jC,jD,reduceCtorEq,jE,jF]) h' (leo hd) ⟨?_,rfl⟩
  simp only[Vl.fits_v,aJ (Vl.fits_v _),go_sem,reduceIte,jA,jB,jC,jD,reduceCtorEq,jE,jF]
  rfl
 have c8:(g==3)=false:=bqf
 rw[if_neg g3]
 by_cases g4:g=4
 ·subst g4
  have c5:((4:Int)==2)=false:=by decide
  have c9:((4:Int)==4)=true:=by decide
  have hlt:s.length-1<s.length:=by omega
  have hw:IntKind.i64.wrap ((s.length:Int)-1)=((s.length-1:Nat):Int):=wrp
  have hg0:(s.map Vl.v).getD (s.length-1) (.tup [])=(s.getLastD eC).v:=by
   rw[aV Vl.v s _ hlt]
   rw[List.getLastD_eq_getLast?,List.getLast?_eq_getElem?,List.getElem?_eq_getElem hlt];rfl
  refine aue (e14 c1 c2 c3 hml c5 c6 hms Vl.fits_v c8 hg0 hlt hw c9 jG) ?_
  refine aM (by simp only[Vl.fits_v,aJ (Vl.fits_v _),go_sem,reduceIte,jA,jB,jC,jD,reduceCtorEq,jE,jF]) h' (leo hd) ⟨?_,rfl⟩
  simp only[Vl.fits_v,aJ (Vl.fits_v _),go_sem,reduceIte,jA,jB,jC,jD,reduceCtorEq,jE,jF]
  rfl
 have c9:(g==4)=false:=bqf
 rw[if_neg g4]
 have g2:g=2:=by omega
 have c5:(g==2)=true:=bqt
 rw[c7 g2] at C2
 refine aue (e10 c1 c2 c3 hml c5 c6 hms Vl.fits_v c8 c9) ?_
 clear C1 C2 C3
 refine bP (fun i:Nat=>aI 81 0 [(4, .ptr nx (.agg 3) 0 0),(9, .int .i64 (gI (s.take i))),(66, .sl (.agg 3) os (s.map Vl.v)),(67, .int .i64 s.length),(68, .int .i64 i)])
  (fun i hp nx1=>i≤s.length∧nx+1≤nx1∧aX hp nx1∧Hp.same nx h' hp∧hp nx=some (.arr (.agg 3) [zvl]))
  (fun i=>s.length-i) 0 ⟨Nat.zero_le _,by first|omega|(dsimp only;omega),dmo hd,kep Hp.same.rfl',by simp[Hp.set,zvl,Vl.v]⟩ (by simp only[WkL,aI,jH,jI,jJ,List.take_zero,gI,List.map_nil,List.sum_nil,go_sem,reduceIte,jA,jB,jC,jD,reduceCtorEq,jE,jF]) ?_
 rintro i hp nx1 ⟨hi,hnx,hdm,hsm,hbx⟩
 generalize hQ:cA _ _ _ _ _=Q0
 simp only[aI,go_sem,reduceIte,jA,jB,jC,jD,reduceCtorEq,jE,jF]
 have hbound:∀i,i≤s.length→-2147483647000000≤gI (s.take i)∧gI (s.take i)≤2147483647000000:=fun i hi=>by
  have:=lQ (s.take i) fun x hx=>mQ (hsr x (List.mem_of_mem_take hx))
  rw[List.length_take,Nat.min_eq_left hi] at this
  omega
 rcases Nat.lt_or_ge i s.length with hlt|hge
 ·have hc:decide ((i:Int)<(s.length:Int))=true:=dct
  have hg:(s.map Vl.v).getD i (.tup [])= .agg [.int .i64 s[i].k, .int .i64 s[i].n, .str s[i].s]:=aV Vl.v s i hlt
  have hw:IntKind.i64.wrap ((i:Int)+1)=((i+1:Nat):Int):=wrp
  have hb1:=hbound i hi
  have hb2:=hbound (i+1) hlt
  rw[sD s i hlt] at hb2
  have hw2:IntKind.i64.wrap (gI (s.take i)+s[i].n)=gI (s.take (i+1)):=by rw[sD s i hlt];exact wrp
  refine aue (e8 hc hg hw hlt hw2 (@jK Vl V) jG Vl.fits_v) ?_
  rw[←hQ]
  refine aS (i+1) (by omega) ⟨hlt,by omega,dmo hdm,kep hsm,?_⟩ (by simp only[WkL,aI,jH,jI,jJ,hw,hw2,go_sem,reduceIte,jA,jB,jC,jD,reduceCtorEq,jE,jF])
  simp only[Hp.set_app]
  repeat rw[if_neg (by omega)]
  exact hbx
 have hc:decide ((i:Int)<(s.length:Int))=false:=dcf
 have hie:i=s.length:=by omega
 have hb1:=hbound i hi
 subst hie
 rw[List.take_length] at hb1⊢
 have C1:=fun h=>uY (gI s) h
 have hzf:V.fits (.agg 3) zvl=true:=rfl
 have hlt0:nx<nx1:=by omega
 refine aue hc ?_
 rw[←hQ]
 refine aue (e4 hbx hlt0 Vl.fits_v hzf) ?_
 refine aM (by simp only[Vl.fits_v,aJ (Vl.fits_v _),aN hzf (Vl.fits_v _),go_sem,reduceIte,jA,jB,jC,jD,reduceCtorEq,jE,jF]) h' (lef hd (hsm.le hd (Hp.le_refl _))) ⟨?_,rfl⟩
 simp only[Vl.fits_v,aJ (Vl.fits_v _),aN hzf (Vl.fits_v _),go_sem,reduceIte,jA,jB,jC,jD,reduceCtorEq,jE,jF]
theorem aBP(o:Own)(t:List Vl)(hl:t.length≤1000000)(ho:o≠ .nil)(hne:t≠ [])(h:Hp)(nx:Nat):aL Try.prog 26 [vls o t] h nx fun v h' _=>∃id,nx≤id∧v= .rs id (.agg 3) 0 t.length∧h'=h.set id (.arr (.agg 3) (t.map Vl.v)):=by
 refine aD L.tuple_Copy_low fun hd=>?_
 simp only[jL,jM,jA,jB,jN,jO,jP,jQ,V.undef]
 refine au ?_
 refine bC ((aAM pY (by omega) o (t.map Vl.v) (by simp;omega) ho (by simpa using hne) _ _).mono ?_)
 rintro v h2 nx2 _ ⟨id,hid,rfl,rfl⟩
 unfold dN
 simp only[go_sem,reduceIte,jA,jB,jC,jD,reduceCtorEq,jE,jF]
 refine au ?_
 exact aC _ (Hp.le_refl _) ⟨id,hid,by simp only[jK,go_sem,reduceIte,jA,jB,jC,jD,reduceCtorEq,jE,jF],rfl⟩
theorem aAJ(p:TR)(hl:p.2.length≤1000000)(hok:p.ok)(h:Hp):bJ Try.prog 26 [p.v] h p.v:=by
 obtain⟨o,t⟩:=p
 dsimp only at hl
 have hlo:(V.sl (.agg 3) o (t.map Vl.v)).loose=V.sl (.agg 3) o (t.map Vl.v):=by
  rcases hok with⟨h1,h2⟩|h1
  ·dsimp only at h1 h2;subst h1 h2;rfl
  dsimp only at h1;subst h1;rfl
 refine aU (fun L=>TR.names hok L) fun h' nx hh=>aD L.tuple_Copy_low fun hd=>?_
 simp only[jL,jM,jA,jB,jN,jO,jP,jQ,V.undef]
 have C1:=fun h=>yT pY (by omega) o (t.map Vl.v) (by simp;omega) (fun e=>by
  rcases hok with⟨_,h2⟩|h1
  ·dsimp only at h2;rw[h2];rfl
  dsimp only at h1;rw[h1] at e;cases e) (fun L=>fX (fun x=>Vl.names_v L x) _) h
 rw[hlo] at C1
 refine aue TR.v.eq_1 ?_
 exact aC h' (leo hd) ⟨rfl,rfl⟩
theorem kZ(o:Own)(t:List Vl)(hl:t.length≤1000000)(ho:o≠ .nil)(c:Nat)(hc:c<t.length)(h:Hp)(nx:Nat):aL Try.prog 27 [vls o t, .int .i64 c] h nx fun v h' _=>∃id,nx≤id∧v= .rs id (.agg 3) 0 (bV c t).length∧h'=h.set id (.arr (.agg 3) ((bV c t).map Vl.v++[zvl])):=by
 refine aD L.agg_without_low fun hd=>?_
 simp only[jL,jM,jA,jB,jN,jO,jP,jQ,V.undef]
 refine au ?_
 refine bC ((aBP o t hl ho (by rintro rfl;simp at hc) _ _).mono ?_)
 rintro v h2 nx2 hnx2 ⟨id,hid,rfl,rfl⟩
 unfold dN
 simp only[go_sem,reduceIte,jA,jB,jC,jD,reduceCtorEq,jE,jF]
 have hw:IntKind.i64.wrap ((c:Int)+1)=((c+1:Nat):Int):=wrp
 refine aue hw ?_
 have hml:t.length=(t.map Vl.v).length:=(jK ..).symm
 rw[hml]
 refine bC ((uL id (t.map Vl.v) c _ _ (by simp[Hp.set]) (by simpa using hc)).mono ?_)
 rintro v h3 nx3 hnx3 ⟨rfl,rfl⟩
 unfold dN
 simp only[go_sem,reduceIte,jA,jB,jC,jD,reduceCtorEq,jE,jF]
 refine au ?_
 refine aC (h.set id (.arr (.agg 3) ((bV c t).map Vl.v++[zvl]))) ?_ ⟨id,hid,?_,rfl⟩
 ·rw[tR]
  have:(t.map Vl.v).take c++(t.map Vl.v).drop (c+1)++[zvl]=(bV c t).map Vl.v++[zvl]:=by
   rw[bV,List.eraseIdx_eq_take_drop_succ,List.map_append,List.map_take,List.map_drop]
  rw[this]
  exact Hp.le_refl _
 simp only[bV,List.length_eraseIdx,if_pos hc,jK,go_sem,reduceIte,jA,jB,jC,jD,reduceCtorEq,jE,jF]
theorem tK(o:Own)(t:List Vl)(hl:t.length≤1000000)(ho:o≠ .nil)(c:Nat)(hc:c<t.length)(h:Hp):bJ Try.prog 27 [vls o t, .int .i64 c] h (vls .free (bV c t)):=by
 refine aU (fun L=>nO _ (by simp) L) fun h' nx hh=>((kZ o t hl ho c hc h' nx).frz (R':=fun v' h''=>v'=vls .free (bV c t)∧h''=h') ?_)
 rintro v h2 nx2 ⟨id,hid,rfl,rfl⟩
 refine .inr ⟨_,id,_,_,rfl,hid,by simp,rfl,?_,rfl⟩
 rw[List.take_left' (by simp)]
end Go.Proofs.Ytemjhgboialjpaa
