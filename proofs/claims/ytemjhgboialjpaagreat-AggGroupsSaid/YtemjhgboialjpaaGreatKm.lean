/-
Texts of this proof,one behind the other. No conditions.
-/
import Derived.Shelf.SlSortCmp.WholeK
import Derived.Shelf.SlSortCmp.NoneTotal
import Derived.Shelf.SlSortCmp.Whole1
import Derived.Test.YtemjhgboialjpaaGreatProg
import Derived.Test.YtemjhgboialjpaaGreatKd
import Derived.Test.YtemjhgboialjpaaGreatKk
import Derived.Test.YtemjhgboialjpaaGreatKl
import Derived.Test.YtemjhgboialjpaaGreatKe
import Derived.Test.YtemjhgboialjpaaGreatKj
import Derived.Test.YtemjhgboialjpaaGreatKh
set_option linter.unusedSimpArgs false
set_option linter.unusedVariables false
set_option linter.unusedSectionVars false
open Nat renaming reduceAdd→jA,reduceSub→jB,reduceLT→jC,reduceLeDiff→jD,reduceEqDiff→jE
open Int renaming reduceToNat→jF,toNat_natCast→jG,natCast_add→jH,natCast_one→jI,natCast_zero→jJ
open List renaming length_map→jK,length_cons→jL,length_nil→jM,replicate_succ→jN,replicate_zero→jO,cons_append→jP,nil_append→jQ
namespace Go.Proofs.YtemjhgboialjpaaGreat
open Go.Shelf
def zA:Go.Shelf.Ren:=⟨fun|6=>209|15=>201|14=>239|28=>235|29=>236|20=>266|21=>267|22=>268|23=>269|24=>270|25=>271|26=>272|27=>273|46=>297|47=>261|48=>262|49=>298|50=>299|57=>308|n=>n,fun|22=>105|24=>109|25=>198|3=>3|39=>290|0=>0|53=>318|55=>320|4=>4|46=>312|45=>311|50=>236|5=>5|9=>9|66=>338|70=>342|76=>364|77=>365|n=>n,fun|n=>n⟩
theorem aDJ:Go.Proofs.SlLaysF0.n6 Tryz.prog zA:={
 mixed:=by kernel_rfl
 f6:=⟨Tryz.f209.name,by decide,Tryz.func209.trans (congrArg some (by kernel_rfl))⟩
 f14:=⟨Tryz.f239.name,by decide,Tryz.func239.trans (congrArg some (by kernel_rfl))⟩
 f15:=Tryz.func201.trans (congrArg some (by kernel_rfl))
 f20:=⟨Tryz.f266.name,by decide,Tryz.func266.trans (congrArg some (by kernel_rfl))⟩
 f21:=⟨Tryz.f267.name,by decide,Tryz.func267.trans (congrArg some (by kernel_rfl))⟩
 f22:=⟨Tryz.f268.name,by decide,Tryz.func268.trans (congrArg some (by kernel_rfl))⟩
 f23:=⟨Tryz.f269.name,by decide,Tryz.func269.trans (congrArg some (by kernel_rfl))⟩
 f24:=⟨Tryz.f270.name,by decide,Tryz.func270.trans (congrArg some (by kernel_rfl))⟩
 f25:=⟨Tryz.f271.name,by decide,Tryz.func271.trans (congrArg some (by kernel_rfl))⟩
 f26:=⟨Tryz.f272.name,by decide,Tryz.func272.trans (congrArg some (by kernel_rfl))⟩
 f27:=⟨Tryz.f273.name,by decide,Tryz.func273.trans (congrArg some (by kernel_rfl))⟩
 f28:=Tryz.func235.trans (congrArg some (by kernel_rfl))
 f29:=Tryz.func236.trans (congrArg some (by kernel_rfl))
 f46:=⟨Tryz.f297.name,by decide,Tryz.func297.trans (congrArg some (by kernel_rfl))⟩
 f47:=Tryz.func261.trans (congrArg some (by kernel_rfl))
 f48:=Tryz.func262.trans (congrArg some (by kernel_rfl))
 f49:=⟨Tryz.f298.name,by decide,Tryz.func298.trans (congrArg some (by kernel_rfl))⟩
 f50:=⟨Tryz.f299.name,by decide,Tryz.func299.trans (congrArg some (by kernel_rfl))⟩
 f57:=⟨Tryz.f308.name,by decide,Tryz.func308.trans (congrArg some (by kernel_rfl))⟩
 t0:=Tryz.underlying0
 a0:=Tryz.isAgg0
 z0:=Tryz.sizeOf0
 v0:=Tryz.zeroValue0
 t3:=Tryz.underlying3
 a3:=Tryz.isAgg3
 z3:=Tryz.sizeOf3
 v3:=Tryz.zeroValue3
 t4:=Tryz.underlying4
 a4:=Tryz.isAgg4
 z4:=Tryz.sizeOf4
 v4:=Tryz.zeroValue4
 t5:=Tryz.underlying5
 a5:=Tryz.isAgg5
 z5:=Tryz.sizeOf5
 v5:=Tryz.zeroValue5
 t9:=Tryz.underlying9
 a9:=Tryz.isAgg9
 z9:=Tryz.sizeOf9
 v9:=Tryz.zeroValue9
 t22:=Tryz.underlying105
 a22:=Tryz.isAgg105
 z22:=Tryz.sizeOf105
 v22:=Tryz.zeroValue105
 t25:=Tryz.underlying198
 a25:=Tryz.isAgg198
 z25:=Tryz.sizeOf198
 v25:=Tryz.zeroValue198
 t39:=Tryz.underlying290
 a39:=Tryz.isAgg290
 z39:=Tryz.sizeOf290
 v39:=Tryz.zeroValue290
 t45:=Tryz.underlying311
 a45:=Tryz.isAgg311
 z45:=Tryz.sizeOf311
 v45:=Tryz.zeroValue311
 t46:=Tryz.underlying312
 a46:=Tryz.isAgg312
 z46:=Tryz.sizeOf312
 v46:=Tryz.zeroValue312
 t50:=Tryz.underlying236
 a50:=Tryz.isAgg236
 z50:=Tryz.sizeOf236
 v50:=Tryz.zeroValue236
 t53:=Tryz.underlying318
 a53:=Tryz.isAgg318
 z53:=Tryz.sizeOf318
 v53:=Tryz.zeroValue318
 t55:=Tryz.underlying320
 a55:=Tryz.isAgg320
 z55:=Tryz.sizeOf320
 v55:=Tryz.zeroValue320
 t66:=Tryz.underlying338
 a66:=Tryz.isAgg338
 z66:=Tryz.sizeOf338
 v66:=Tryz.zeroValue338
 t70:=Tryz.underlying342
 a70:=Tryz.isAgg342
 z70:=Tryz.sizeOf342
 v70:=Tryz.zeroValue342
 t76:=Tryz.underlying364
 a76:=Tryz.isAgg364
 z76:=Tryz.sizeOf364
 v76:=Tryz.zeroValue364
 t77:=Tryz.underlying365
 a77:=Tryz.isAgg365
 z77:=Tryz.sizeOf365
 v77:=Tryz.zeroValue365}
def zB:Go.Shelf.Ren:=⟨fun|6=>161|15=>201|14=>200|28=>235|29=>236|20=>227|21=>228|22=>229|23=>230|24=>231|25=>232|26=>233|27=>234|46=>260|47=>261|48=>262|49=>263|50=>264|57=>296|n=>n,fun|22=>22|24=>106|25=>113|3=>3|39=>290|0=>0|53=>318|55=>320|4=>4|46=>312|45=>311|50=>236|5=>5|9=>9|66=>338|70=>342|76=>364|77=>365|n=>n,fun|n=>n⟩
theorem aDK:Go.Proofs.SlLaysF.n6 Tryz.prog zB:={
 mixed:=by kernel_rfl
 f6:=⟨Tryz.f161.name,by decide,Tryz.func161.trans (congrArg some (by kernel_rfl))⟩
 f14:=⟨Tryz.f200.name,by decide,Tryz.func200.trans (congrArg some (by kernel_rfl))⟩
 f15:=Tryz.func201.trans (congrArg some (by kernel_rfl))
 f20:=⟨Tryz.f227.name,by decide,Tryz.func227.trans (congrArg some (by kernel_rfl))⟩
 f21:=⟨Tryz.f228.name,by decide,Tryz.func228.trans (congrArg some (by kernel_rfl))⟩
 f22:=⟨Tryz.f229.name,by decide,Tryz.func229.trans (congrArg some (by kernel_rfl))⟩
 f23:=⟨Tryz.f230.name,by decide,Tryz.func230.trans (congrArg some (by kernel_rfl))⟩
 f24:=⟨Tryz.f231.name,by decide,Tryz.func231.trans (congrArg some (by kernel_rfl))⟩
 f25:=⟨Tryz.f232.name,by decide,Tryz.func232.trans (congrArg some (by kernel_rfl))⟩
 f26:=⟨Tryz.f233.name,by decide,Tryz.func233.trans (congrArg some (by kernel_rfl))⟩
 f27:=⟨Tryz.f234.name,by decide,Tryz.func234.trans (congrArg some (by kernel_rfl))⟩
 f28:=Tryz.func235.trans (congrArg some (by kernel_rfl))
 f29:=Tryz.func236.trans (congrArg some (by kernel_rfl))
 f46:=⟨Tryz.f260.name,by decide,Tryz.func260.trans (congrArg some (by kernel_rfl))⟩
 f47:=Tryz.func261.trans (congrArg some (by kernel_rfl))
 f48:=Tryz.func262.trans (congrArg some (by kernel_rfl))
 f49:=⟨Tryz.f263.name,by decide,Tryz.func263.trans (congrArg some (by kernel_rfl))⟩
 f50:=⟨Tryz.f264.name,by decide,Tryz.func264.trans (congrArg some (by kernel_rfl))⟩
 f57:=⟨Tryz.f296.name,by decide,Tryz.func296.trans (congrArg some (by kernel_rfl))⟩
 t0:=Tryz.underlying0
 a0:=Tryz.isAgg0
 z0:=Tryz.sizeOf0
 v0:=Tryz.zeroValue0
 t3:=Tryz.underlying3
 a3:=Tryz.isAgg3
 z3:=Tryz.sizeOf3
 v3:=Tryz.zeroValue3
 t4:=Tryz.underlying4
 a4:=Tryz.isAgg4
 z4:=Tryz.sizeOf4
 v4:=Tryz.zeroValue4
 t5:=Tryz.underlying5
 a5:=Tryz.isAgg5
 z5:=Tryz.sizeOf5
 v5:=Tryz.zeroValue5
 t9:=Tryz.underlying9
 a9:=Tryz.isAgg9
 z9:=Tryz.sizeOf9
 v9:=Tryz.zeroValue9
 t22:=Tryz.underlying22
 a22:=Tryz.isAgg22
 z22:=Tryz.sizeOf22
 v22:=Tryz.zeroValue22
 a24:=Tryz.isAgg106
 z24:=Tryz.sizeOf106
 t25:=Tryz.underlying113
 a25:=Tryz.isAgg113
 z25:=Tryz.sizeOf113
 v25:=Tryz.zeroValue113
 t39:=Tryz.underlying290
 a39:=Tryz.isAgg290
 z39:=Tryz.sizeOf290
 v39:=Tryz.zeroValue290
 t45:=Tryz.underlying311
 a45:=Tryz.isAgg311
 z45:=Tryz.sizeOf311
 v45:=Tryz.zeroValue311
 t46:=Tryz.underlying312
 a46:=Tryz.isAgg312
 z46:=Tryz.sizeOf312
 v46:=Tryz.zeroValue312
 t50:=Tryz.underlying236
 a50:=Tryz.isAgg236
 z50:=Tryz.sizeOf236
 v50:=Tryz.zeroValue236
 t53:=Tryz.underlying318
 a53:=Tryz.isAgg318
 z53:=Tryz.sizeOf318
 v53:=Tryz.zeroValue318
 t55:=Tryz.underlying320
 a55:=Tryz.isAgg320
 z55:=Tryz.sizeOf320
 v55:=Tryz.zeroValue320
 t66:=Tryz.underlying338
 a66:=Tryz.isAgg338
 z66:=Tryz.sizeOf338
 v66:=Tryz.zeroValue338
 t70:=Tryz.underlying342
 a70:=Tryz.isAgg342
 z70:=Tryz.sizeOf342
 v70:=Tryz.zeroValue342
 t76:=Tryz.underlying364
 a76:=Tryz.isAgg364
 z76:=Tryz.sizeOf364
 v76:=Tryz.zeroValue364
 t77:=Tryz.underlying365
 a77:=Tryz.isAgg365
 z77:=Tryz.sizeOf365
 v77:=Tryz.zeroValue365}
end Go.Proofs.YtemjhgboialjpaaGreat
namespace Go.Proofs.YtemjhgboialjpaaGreat
open Go.RowKit Go.Sort
attribute [local irreducible] IntKind.wrap
theorem aP.frz{P:Program}{f:FuncId}{args:List V}{h:Hp}{nx:Nat}{R:V→Hp→Nat→Prop}{R':V→Hp→Prop}(c:aP P f args h nx R)
 (hc:∀v h' nx',R v h' nx'→R' v h'∨∃k id es m,v= .rs id k 0 m∧nx≤id∧m≤es.length∧h'=h.set id (.arr k es)∧R' (.sl k .free (es.take m)) h):aP P f args h nx fun v h' _=>R' v h':=by
 refine⟨c.1,fun K cargs hl hr hv=>(c.2 K cargs hl hr hv).mono ?_⟩
 rintro e w' ⟨K',v,cv,h',nx',rfl,he,hle,hvr,hrel,hlv,hnx,hR⟩
 rcases hc v h' nx' hR with h1|⟨k,id,es,m,rfl,hid,hm,rfl,h1⟩
 ·exact⟨K',v,cv,h',nx',rfl,he,hle,hvr,hrel,hlv,hnx,h1⟩
 have hfr:¬K'.live nx':=fun hh=>Nat.lt_irrefl _ (hlv nx' hh).1
 have hset:(h.set id (.arr k es)) id=some (.arr k es):=by simp[Hp.set]
 obtain⟨K'',q1,q2,q3,q4,q5⟩:=mU hrel hset hfr (by omega) hvr
 have hnone:h id=none:=by
  cases hd:h id with
  |none=>rfl
  |some b=>exact absurd (hl id (hr.lt id b hd)) (by omega)
 have hh:(h.set id (.arr k es)).del id=h:=by
  funext x
  unfold Hp.set Hp.del
  by_cases e1:x=id
  ·subst e1;simp[hnone]
  simp[e1]
 rw[hh] at q5
 rw[List.drop_zero] at q4
 refine⟨K'',_,cv,_,nx'+1,q1,he,hle.trans q2,q4,q5,fun m hm=>?_,by omega,h1⟩
 rcases q3 m hm with hm|rfl
 ·exact⟨by have:=(hlv m hm).1;omega,(hlv m hm).2⟩
 exact⟨by omega, .inr hnx⟩
theorem aCn:aH Tryz.prog 116=some (LB.AggSet (.agg 3) 171 170 172 173):=by kernel_rfl
theorem aCq:aH Tryz.prog 172=some (LB.CompactFunc (.agg 3) (.agg [.int .i64 0, .int .i64 0, .str ⟨#[]⟩])):=by kernel_rfl
theorem xM:aH Tryz.prog 170=some (LB.SortedFunc (.agg 3) 208 209):=by kernel_rfl
theorem vT:aH Tryz.prog 208=some (LB.Collect (.agg 3) 238):=by kernel_rfl
theorem qZ:aH Tryz.prog 238=some (LB.AppendSeq (.agg 3) (.agg [.int .i64 0, .int .i64 0, .str ⟨#[]⟩]) 32):=by kernel_rfl
theorem xK:aH Tryz.prog 171=some (LB.Values (.agg 3) 210):=by kernel_rfl
theorem sO:aH Tryz.prog 210=some (LB.ValuesIt (.agg 3) (.agg [.int .i64 0, .int .i64 0, .str ⟨#[]⟩])):=by kernel_rfl
theorem aCo:aH Tryz.prog 54=some (LB.AggSet .leaf 105 104 106 107):=by kernel_rfl
theorem aCr:aH Tryz.prog 106=some (LB.CompactFunc .leaf (.sl (.agg 3) .nil [])):=by kernel_rfl
theorem xN:aH Tryz.prog 104=some (LB.SortedFunc .leaf 160 161):=by kernel_rfl
theorem vU:aH Tryz.prog 160=some (LB.Collect .leaf 199):=by kernel_rfl
theorem rA:aH Tryz.prog 199=some (LB.AppendSeqL 24):=by kernel_rfl
theorem xL:aH Tryz.prog 105=some (LB.Values .leaf 162):=by kernel_rfl
theorem sP:aH Tryz.prog 162=some LB.ValuesItL:=by kernel_rfl
theorem zD(a b:Vl)(h:Hp)(n:Nat)(hn:h n=some (.arr .leaf [.fn (.func 109) [] []])):bH Tryz.prog 173 [a.v,b.v, .ptr n .leaf 0 0] h (.bool (decide (cQ a b=0))):=by
 refine aT (fun L=>trivial) fun h' nx hh=>aF L.agg_set_api_Value_1_low fun hd=>?_
 simp only[List.length_cons,List.length_nil,Nat.reduceAdd,Nat.reduceSub,List.replicate_succ,List.replicate_zero,List.cons_append,List.nil_append,V.undef]
 have hn1:=hh _ _ hn rfl
 have hn2:n<nx:=hd _ _ hn1
 have hk:=fun h=>oP a b h
 refine aue (e4 Vl.v.eq_1 hn1 hn2 Vl.fits_v) ?_
 refine dB rfl (hk _) rfl (aV _) ?_
 simp only[go_sem,reduceIte,Nat.reduceAdd,Nat.reduceSub,Nat.reduceLT,Nat.reduceLeDiff,reduceCtorEq,Nat.reduceEqDiff,Int.reduceToNat]
 refine au ?_
 refine aD h' (leo hd) ⟨vb ?_,rfl⟩
 simp
theorem zF(a b:TR)(hl:a.2.length≤1000000000)(h:Hp)(n:Nat)(hn:h n=some (.arr .leaf [.fn (.func 55) [] []])):bH Tryz.prog 107 [a.v,b.v, .ptr n .leaf 0 0] h (.bool (decide (bS a.2 b.2=0))):=by
 refine aT (fun L=>trivial) fun h' nx hh=>aF L.agg_set_api_Tuple_1_low fun hd=>?_
 simp only[List.length_cons,List.length_nil,Nat.reduceAdd,Nat.reduceSub,List.replicate_succ,List.replicate_zero,List.cons_append,List.nil_append,V.undef]
 have hn1:=hh _ _ hn rfl
 have hn2:n<nx:=hd _ _ hn1
 have hk:=fun h=>oQ a.1 a.2 b.2 hl b.v h (.inl ⟨b.1,rfl⟩)
 refine aue (e2 hn1 hn2) ?_
 refine dB rfl (hk _) rfl (aV _) ?_
 simp only[go_sem,reduceIte,Nat.reduceAdd,Nat.reduceSub,Nat.reduceLT,Nat.reduceLeDiff,reduceCtorEq,Nat.reduceEqDiff,Int.reduceToNat]
 refine au ?_
 refine aD h' (leo hd) ⟨vb ?_,rfl⟩
 simp
theorem xP{k:Sh}(o:Own)(l:List V):∃o',(V.sl k o l).loose= .sl k o' l:=by cases o<;>exact⟨_,rfl⟩
theorem aAY(o:Own)(l:List Vl)(hl:l.length≤1000000)(h:Hp):bH Tryz.prog 116 [vls o l, .fn (.func 109) [] []] h (lst (.agg 3) ((bT cQ l).map Vl.v)):=by
 obtain⟨o',ho'⟩:=xP (k:= .agg 3) o (l.map Vl.v)
 refine aT (fun L=>iM (fun L=>gG (fun x=>Vl.names_v L x) _) L) fun h' nx hh=>?_
 refine((tE Vl.v aCn aCq rfl Vl.fits_v cQ o l hl
  (fun h=>qD xK o (l.map Vl.v) (fun L=>gG (fun x=>Vl.names_v L x) _) h)
  (fun h nx=>by
    rw[ho']
    exact oS Vl.v aDJ Vl.fits_v (by intro w;exact Tryz.isAgg109 w) (by intro w;exact Tryz.sizeOf109 w) (by kernel_rfl) xM vT qZ rfl (by omega) rfl _ _ Hp.none l
     (vG Vl.v Vl.fits_v sO rfl o' l (by omega)) (by omega) cQ c3V.swo _ [] (fun x y=>by simpa using oP x y Hp.none) h nx (bW _))
  (fun x y hb b e=>zD x y hb b e) h' nx).frz (R':=fun v' h''=>v'=lst (.agg 3) ((bT cQ l).map Vl.v)∧h''=h') ?_)
 rintro v h3 nx3 ⟨ys,hp,hs,hr⟩
 have hc:cpt (fun x y=>decide (cQ x y=0)) ys=bT cQ l:=by
  have:=aAH c3V id ys (by unfold eE at hs;exact hs.imp fun{x y} h=>by simpa [ltOf] using h)
  simp only[List.map_id,id] at this
  rw[this]
  exact wX c3V fun z=>hp.mem_iff
 rcases hr with⟨rfl,rfl,rfl⟩|⟨hne,id,es,m,hid,rfl,hm,rfl,htk⟩
 ·exact .inl ⟨rfl,rfl⟩
 refine .inr ⟨_,id,es,m,rfl,hid,hm,rfl,?_,rfl⟩
 rw[htk,hc]
 have:bT cQ l≠ []:=fun h=>hne ((nG c3V l).1 h)
 revert this
 cases bT cQ l with
 |nil=>exact fun h=>absurd rfl h
 |cons a b=>exact fun _=>rfl
abbrev TS:Type:={p:TR // p.2.length≤1000000}
instance:Inhabited TS:=⟨⟨(.nil,[]),by simp⟩⟩
theorem aDT(l:List TR)(h:∀p∈l,p.2.length≤1000000):∃xs:List TS,xs.map (·.1)=l:=by
 induction l with
 |nil=>exact⟨[],rfl⟩
 |cons p l ih=>
  obtain⟨xs,rfl⟩:=ih fun q hq=>h q (by simp[hq])
  exact⟨⟨p,h p (by simp)⟩::xs,rfl⟩
theorem mM(o:Own)(l:List TR)(hl:l.length≤1000000)(hok:∀p∈l,p.2.length≤1000000∧p.ok)(h':Hp)(nx:Nat):aP Tryz.prog 54 [tps o l, .fn (.func 55) [] []] h' nx fun v h'' _=>
 ∃zs:List TR,aK zs=bT bS (aK l)∧(∀z∈zs,z∈l)∧((zs=[]∧v= .sl .leaf .nil []∧h''=h')∨(zs≠ []∧∃id es,nx≤id∧v= .rs id .leaf 0 zs.length∧zs.length≤es.length∧h''=h'.set id (.arr .leaf es)∧es.take zs.length=zs.map TR.v)):=by
 obtain⟨xs,rfl⟩:=aDT l fun p hp=>(hok p hp).1
 obtain⟨o',ho'⟩:=xP (k:= .leaf) o (xs.map fun x=>x.1.v)
 have hok':∀x∈xs,x.1.ok:=fun x hx=>(hok x.1 (List.mem_map.2 ⟨x,hx,rfl⟩)).2
 have hn:∀L,bQ L (xs.map fun x=>x.1.v):=fun L=>by
  clear hl hok ho'
  induction xs with
  |nil=>trivial
  |cons x xs ih=>exact⟨TR.names (hok' x (by simp)) L,ih fun y hy=>hok' y (by simp[hy])⟩
 have hm:tps o (xs.map (·.1))= .sl .leaf o (xs.map fun x:TS=>x.1.v):=by simp[tps,List.map_map,Function.comp_def]
 rw[hm]
 have hsw:SWO (ltOf fun x y:TS=>bS x.1.2 y.1.2):=qG (fun x:TS=>x.1.2) c3T.swo
 refine((tE (fun x:TS=>x.1.v) aCo aCr rfl (fun x=>rfl) (fun x y=>bS x.1.2 y.1.2) o xs (by simpa using hl)
  (fun h=>qD xL o _ hn h)
  (fun h nx=>by
    rw[ho']
    exact oR (fun x:TS=>x.1.v) aDK (fun x=>rfl) (by kernel_rfl) xN vU rA (by omega) rfl _ _ Hp.none xs
     (sL (fun x:TS=>x.1.v) (fun x=>rfl) sP o' xs (by simp at hl;omega)) (by simp at hl;omega) (fun x y=>bS x.1.2 y.1.2) hsw _ [] (fun x y=>by
       have hb:=x.2
       exact oQ x.1.1 x.1.2 y.1.2 (by omega) y.1.v Hp.none (.inl ⟨y.1.1,rfl⟩)) h nx (bW _))
  (fun x y hb b e=>zF x.1 y.1 (by have:=x.2;omega) hb b e) h' nx).mono ?_)
 rintro v h3 nx3 _ ⟨ys,hp,hs,hr⟩
 have hc:(cpt (fun x y:TS=>decide (bS x.1.2 y.1.2=0)) ys).map (fun x=>x.1.2)=bT bS (xs.map fun x=>x.1.2):=by
  rw[aAH c3T (fun x:TS=>x.1.2) ys (by unfold eE at hs;exact hs.imp fun{x y} h=>by simpa [ltOf] using h)]
  exact wX c3T fun z=>(hp.map _).mem_iff
 have hsub:∀z∈cpt (fun x y:TS=>decide (bS x.1.2 y.1.2=0)) ys,z∈xs:=fun z hz=>hp.mem_iff.1 ((aDq _ ys).subset hz)
 generalize cpt (fun x y:TS=>decide (bS x.1.2 y.1.2=0)) ys=zs at hc hsub hr
 refine⟨zs.map (·.1),by simp only[aK,List.map_map,Function.comp_def];exact hc,fun z hz=>by
  obtain⟨y,hy,rfl⟩:=List.mem_map.1 hz
  exact List.mem_map.2 ⟨y,hsub y hy,rfl⟩,?_⟩
 rcases hr with⟨rfl,rfl,rfl⟩|⟨hne,id,es,m,hid,rfl,hm,rfl,htk⟩
 ·refine .inl ⟨?_,rfl,rfl⟩
  have:zs=[]:=by simpa [bT] using hc
  rw[this];rfl
 have hml:m=zs.length:=by have:=congrArg List.length htk;simp at this;omega
 subst hml
 refine .inr ⟨fun h=>?_,id,es,hid,by simp,by simpa using hm,rfl,by simpa [List.map_map,Function.comp_def] using htk⟩
 have h0:zs=[]:=by simpa using h
 rw[h0] at hc
 exact hne (by have:=(nG c3T _).1 hc.symm;simpa using this)
end Go.Proofs.YtemjhgboialjpaaGreat
namespace Go.Proofs.YtemjhgboialjpaaGreat
open Go.RowKit Go.Sort
attribute [local irreducible] IntKind.wrap
theorem mC:aH Tryz.prog 115=some (LB.ContainsFunc (.agg 3) 169):=by kernel_rfl
theorem qX:aH Tryz.prog 169=some (LB.IndexFunc (.agg 3)):=by kernel_rfl
theorem qY:aH Tryz.prog 110=some (LB.Clone (.agg 3) 32):=by kernel_rfl
theorem aAd(x:Vl)(h:Hp):bH Tryz.prog 112 [x.v] h (.bool (!cY x)):=by
 refine aT (fun L=>trivial) fun h' nx hh=>aF L.agg_Fold_1_low fun hd=>?_
 simp only[jL,jM,jA,jB,jN,jO,jP,jQ,V.undef]
 have C1:=fun h=>wS x h
 refine aue (e2 Vl.v.eq_1 Vl.fits_v) ?_
 exact aD h' (leo hd) ⟨rfl,rfl⟩
theorem aAc(x:Vl)(h:Hp):bH Tryz.prog 114 [x.v] h (.bool (x.k != 1)):=by
 refine aT (fun L=>trivial) fun h' nx hh=>aF L.agg_Fold_2_low fun hd=>?_
 simp only[jL,jM,jA,jB,jN,jO,jP,jQ,V.undef]
 refine aue Vl.v.eq_1 ?_
 exact aD h' (leo hd) ⟨rfl,rfl⟩
theorem tC(l:List Vl)(i:Nat)(h:i<l.length):gS (l.take (i+1))=gS (l.take i)+l[i].n:=by
 rw[List.take_succ_eq_append_getElem h]
 simp only[gS,List.map_append,List.sum_append,List.map_cons,List.map_nil,List.sum_cons,List.sum_nil,Int.add_zero]
set_option maxHeartbeats 2000000 in
theorem aBF(g:Int)(o:Own)(l:List Vl)(hl:l.length≤1000000)(h:Hp):bH Tryz.prog 59 [.int .i64 g,vls o l] h (.tup [(cH g l).1.v,pU (cH g l).2]):=by
 refine aT (fun L=>⟨Vl.names_v L _,by unfold pU;split<;>simp[V.names],trivial⟩) fun h' nx hh=>aF L.agg_Fold_low fun hd=>?_
 simp only[jL,jM,jA,jB,jN,jO,jP,jQ,V.undef]
 have C1:=fun h=>iN Vl.v Vl.fits_v mC qX (fun x=> !cY x) o l 112 [] h (fun x _=>aAd x h) (by omega)
 have C2:=fun h=>iN Vl.v Vl.fits_v mC qX (fun x=>x.k != 1) o l 114 [] h (fun x _=>aAc x h) (by omega)
 have C3:=fun h=>aAY o l hl h
 have hml:(l.map Vl.v).length=l.length:=jK ..
 unfold cH
 by_cases h1:g<1
 ·have c1:decide (g<1)=true:=dct
  refine aue c1 ?_
  refine aQ (by simp only[go_sem,reduceIte,jA,jB,jC,jD,reduceCtorEq,jE,jF]) h' (leo hd) ⟨?_,rfl⟩
  simp only[go_sem,reduceIte,jA,jB,jC,jD,reduceCtorEq,jE,jF]
  rw[if_pos (.inl h1)];rfl
 have c1:decide (g<1)=false:=dcf
 by_cases h2:4<g
 ·have c2:decide (4<g)=true:=dct
  refine aue (e2 c1 c2) ?_
  refine aQ (by simp only[go_sem,reduceIte,jA,jB,jC,jD,reduceCtorEq,jE,jF]) h' (leo hd) ⟨?_,rfl⟩
  simp only[go_sem,reduceIte,jA,jB,jC,jD,reduceCtorEq,jE,jF]
  rw[if_pos (.inr h2)];rfl
 have c2:decide (4<g)=false:=dcf
 rw[if_neg (by omega)]
 by_cases h3:l=[]
 ·have c3:((l.length:Int)==0)=true:=by rw[h3];rfl
  refine aue (e4 c1 c2 c3 hml) ?_
  refine aQ (by simp only[go_sem,reduceIte,jA,jB,jC,jD,reduceCtorEq,jE,jF]) h' (leo hd) ⟨?_,rfl⟩
  simp only[go_sem,reduceIte,jA,jB,jC,jD,reduceCtorEq,jE,jF]
  rw[if_pos h3];rfl
 have c3:((l.length:Int)==0)=false:=bqf (by have:=List.length_pos_iff.2 h3;omega)
 rw[if_neg h3]
 cases h4:l.any fun x=> !cY x with
 |true=>
  rw[h4] at C1
  have:¬∀x∈l,cY x=true:=fun k=>by
   obtain⟨x,hx,hx2⟩:=List.any_eq_true.1 h4
   simp[k x hx] at hx2
  refine aue (e4 c1 c2 c3 hml) ?_
  refine aQ (by simp only[go_sem,reduceIte,jA,jB,jC,jD,reduceCtorEq,jE,jF]) h' (leo hd) ⟨?_,rfl⟩
  simp only[go_sem,reduceIte,jA,jB,jC,jD,reduceCtorEq,jE,jF]
  rw[if_pos this];rfl
 |false=>
 rw[h4] at C1
 have hright:∀x∈l,cY x=true:=fun x hx=>by
  have:=(List.any_eq_false.1 h4) x hx
  simpa using this
 rw[if_neg (fun k=>k hright)]
 obtain⟨s,hs⟩:∃s,bT cQ l=s:=⟨_,rfl⟩
 have hsl:s.length≤l.length:=by rw[←hs];exact dV l
 have hsn:s≠ []:=fun e=>h3 ((nG c3V l).1 (hs.trans e))
 have hsp:0<s.length:=List.length_pos_iff.2 hsn
 have hsr:∀x∈s,cY x=true:=fun x hx=>hright x (((bO c3V l).2 x).1 (hs▸hx))
 rw[hs] at C3⊢
 obtain⟨os,hos⟩:=iV (.agg 3) (s.map Vl.v)
 rw[hos] at C3
 have hms:(s.map Vl.v).length=s.length:=jK ..
 by_cases h5:g=2∧¬∀x∈l,x.k=1
 ·have c4:(g==2)=true:=bqt h5.1
  have:(l.any fun x=>x.k != 1)=true:=by
   cases k:l.any fun x=>x.k != 1 with
   |true=>rfl
   |false=>exact absurd (fun x hx=>by simpa using(List.any_eq_false.1 k) x hx) h5.2
  rw[this] at C2
  refine aue (e5 c1 c2 c3 hml c4) ?_
  refine aQ (by simp only[go_sem,reduceIte,jA,jB,jC,jD,reduceCtorEq,jE,jF]) h' (leo hd) ⟨?_,rfl⟩
  simp only[go_sem,reduceIte,jA,jB,jC,jD,reduceCtorEq,jE,jF]
  rw[if_pos h5];rfl
 rw[if_neg h5]
 by_cases g1:g=1
 ·subst g1
  have C4:=fun h=>wT s.length h
  have c5:((1:Int)==2)=false:=by decide
  have c6:((1:Int)==1)=true:=by decide
  refine aue (e8 c1 c2 c3 hml c5 c6 hms Vl.fits_v) ?_
  refine aQ (by simp only[Vl.fits_v,aL (Vl.fits_v _),go_sem,reduceIte,jA,jB,jC,jD,reduceCtorEq,jE,jF]) h' (leo hd) ⟨?_,rfl⟩
  simp only[Vl.fits_v,aL (Vl.fits_v _),go_sem,reduceIte,jA,jB,jC,jD,reduceCtorEq,jE,jF]
 have c6:(g==1)=false:=bqf
 rw[if_neg g1]
 --the sum's test of symbols
 have c7:g=2→(l.any fun x=>x.k != 1)=false:=fun e=>by
  cases k:l.any fun x=>x.k != 1 with
  |false=>rfl
  |true=>
   obtain⟨x,hx,hx2⟩:=List.any_eq_true.1 k
   refine absurd ⟨e,fun q=>?_⟩ h5
   simp[q x hx] at hx2
 by_cases g3:g=3
 ·subst g3
  have c5:((3:Int)==2)=false:=by decide
  have c8:((3:Int)==3)=true:=by decide
  have hg0:(s.map Vl.v).getD 0 (.tup [])=(s.headD dF).v:=by
   cases s with
   |nil=>exact absurd rfl hsn
   |cons x s=>rfl
  refine aue (e11 c1 c2 c3 hml c5 c6 hms Vl.fits_v c8 hg0 hsp) ?_
  refine aQ (by simp only[Vl.fits_v,aL (Vl.fits_v _),go_sem,reduceIte,jA,jB,jC,jD,reduceCtorEq,jE,jF]) h' (leo hd) ⟨?_,rfl⟩
  simp only[Vl.fits_v,aL (Vl.fits_v _),go_sem,reduceIte,jA,jB,jC,jD,reduceCtorEq,jE,jF]
  rfl
 have c8:(g==3)=false:=bqf
 rw[if_neg g3]
 by_cases g4:g=4
 ·subst g4
  have c5:((4:Int)==2)=false:=by decide
  have c9:((4:Int)==4)=true:=by decide
  have hlt:s.length-1<s.length:=by omega
  have hw:IntKind.i64.wrap ((s.length:Int)-1)=((s.length-1:Nat):Int):=wrp
  have hg0:(s.map Vl.v).getD (s.length-1) (.tup [])=(s.getLastD dF).v:=by
   rw[aO Vl.v s _ hlt]
   rw[List.getLastD_eq_getLast?,List.getLast?_eq_getElem?,List.getElem?_eq_getElem hlt];rfl
  refine aue (e14 c1 c2 c3 hml c5 c6 hms Vl.fits_v c8 hg0 hlt hw c9 jG) ?_
  refine aQ (by simp only[Vl.fits_v,aL (Vl.fits_v _),go_sem,reduceIte,jA,jB,jC,jD,reduceCtorEq,jE,jF]) h' (leo hd) ⟨?_,rfl⟩
  simp only[Vl.fits_v,aL (Vl.fits_v _),go_sem,reduceIte,jA,jB,jC,jD,reduceCtorEq,jE,jF]
  rfl
 have c9:(g==4)=false:=bqf
 rw[if_neg g4]
 have g2:g=2:=by omega
 have c5:(g==2)=true:=bqt
 rw[c7 g2] at C2
 refine aue (e10 c1 c2 c3 hml c5 c6 hms Vl.fits_v c8 c9) ?_
 clear C1 C2 C3
 refine aY (fun i:Nat=>aC 81 0 [(4, .ptr nx (.agg 3) 0 0),(9, .int .i64 (gS (s.take i))),(66, .sl (.agg 3) os (s.map Vl.v)),(67, .int .i64 s.length),(68, .int .i64 i)])
  (fun i hp nx1=>i≤s.length∧nx+1≤nx1∧aX hp nx1∧Hp.same nx h' hp∧hp nx=some (.arr (.agg 3) [zvl]))
  (fun i=>s.length-i) 0 ⟨Nat.zero_le _,by first|omega|(dsimp only;omega),dmo hd,kep Hp.same.rfl',by simp[Hp.set,zvl,Vl.v]⟩ (by simp only[WkL,aC,jH,jI,jJ,List.take_zero,gS,List.map_nil,List.sum_nil,go_sem,reduceIte,jA,jB,jC,jD,reduceCtorEq,jE,jF]) ?_
 rintro i hp nx1 ⟨hi,hnx,hdm,hsm,hbx⟩
 generalize hQ:bU _ _ _ _ _=Q0
 simp only[aC,go_sem,reduceIte,jA,jB,jC,jD,reduceCtorEq,jE,jF]
 have hbound:∀i,i≤s.length→-2147483647000000≤gS (s.take i)∧gS (s.take i)≤2147483647000000:=fun i hi=>by
  have:=mL (s.take i) fun x hx=>nL (hsr x (List.mem_of_mem_take hx))
  rw[List.length_take,Nat.min_eq_left hi] at this
  omega
 rcases Nat.lt_or_ge i s.length with hlt|hge
 ·have hc:decide ((i:Int)<(s.length:Int))=true:=dct
  have hg:(s.map Vl.v).getD i (.tup [])= .agg [.int .i64 s[i].k, .int .i64 s[i].n, .str s[i].s]:=aO Vl.v s i hlt
  have hw:IntKind.i64.wrap ((i:Int)+1)=((i+1:Nat):Int):=wrp
  have hb1:=hbound i hi
  have hb2:=hbound (i+1) hlt
  rw[tC s i hlt] at hb2
  have hw2:IntKind.i64.wrap (gS (s.take i)+s[i].n)=gS (s.take (i+1)):=by rw[tC s i hlt];exact wrp
  refine aue (e8 hc hg hw hlt hw2 (@jK Vl V) jG Vl.fits_v) ?_
  rw[←hQ]
  refine aM (i+1) (by omega) ⟨hlt,by omega,dmo hdm,kep hsm,?_⟩ (by simp only[WkL,aC,jH,jI,jJ,hw,hw2,go_sem,reduceIte,jA,jB,jC,jD,reduceCtorEq,jE,jF])
  simp only[Hp.set_app]
  repeat rw[if_neg (by omega)]
  exact hbx
 have hc:decide ((i:Int)<(s.length:Int))=false:=dcf
 have hie:i=s.length:=by omega
 have hb1:=hbound i hi
 subst hie
 rw[List.take_length] at hb1⊢
 have C1:=fun h=>wT (gS s) h
 have hzf:V.fits (.agg 3) zvl=true:=rfl
 have hlt0:nx<nx1:=by omega
 refine aue hc ?_
 rw[←hQ]
 refine aue (e4 hbx hlt0 Vl.fits_v hzf) ?_
 refine aQ (by simp only[Vl.fits_v,aL (Vl.fits_v _),aN hzf (Vl.fits_v _),go_sem,reduceIte,jA,jB,jC,jD,reduceCtorEq,jE,jF]) h' (lef hd (hsm.le hd (Hp.le_refl _))) ⟨?_,rfl⟩
 simp only[Vl.fits_v,aL (Vl.fits_v _),aN hzf (Vl.fits_v _),go_sem,reduceIte,jA,jB,jC,jD,reduceCtorEq,jE,jF]
theorem aCQ(o:Own)(t:List Vl)(hl:t.length≤1000000)(ho:o≠ .nil)(hne:t≠ [])(h:Hp)(nx:Nat):aP Tryz.prog 56 [vls o t] h nx fun v h' _=>∃id,nx≤id∧v= .rs id (.agg 3) 0 t.length∧h'=h.set id (.arr (.agg 3) (t.map Vl.v)):=by
 refine aF L.tuple_Copy_low fun hd=>?_
 simp only[jL,jM,jA,jB,jN,jO,jP,jQ,V.undef]
 refine au ?_
 refine bD ((aBN qY (by omega) o (t.map Vl.v) (by simp;omega) ho (by simpa using hne) _ _).mono ?_)
 rintro v h2 nx2 _ ⟨id,hid,rfl,rfl⟩
 unfold dK
 simp only[go_sem,reduceIte,jA,jB,jC,jD,reduceCtorEq,jE,jF]
 refine au ?_
 exact aD _ (Hp.le_refl _) ⟨id,hid,by simp only[jK,go_sem,reduceIte,jA,jB,jC,jD,reduceCtorEq,jE,jF],rfl⟩
theorem aBK(p:TR)(hl:p.2.length≤1000000)(hok:p.ok)(h:Hp):bH Tryz.prog 56 [p.v] h p.v:=by
 obtain⟨o,t⟩:=p
 dsimp only at hl
 have hlo:(V.sl (.agg 3) o (t.map Vl.v)).loose=V.sl (.agg 3) o (t.map Vl.v):=by
  rcases hok with⟨h1,h2⟩|h1
  ·dsimp only at h1 h2;subst h1 h2;rfl
  dsimp only at h1;subst h1;rfl
 refine aT (fun L=>TR.names hok L) fun h' nx hh=>aF L.tuple_Copy_low fun hd=>?_
 simp only[jL,jM,jA,jB,jN,jO,jP,jQ,V.undef]
 have C1:=fun h=>aAr qY (by omega) o (t.map Vl.v) (by simp;omega) (fun e=>by
  rcases hok with⟨_,h2⟩|h1
  ·dsimp only at h2;rw[h2];rfl
  dsimp only at h1;rw[h1] at e;cases e) (fun L=>gG (fun x=>Vl.names_v L x) _) h
 rw[hlo] at C1
 refine aue TR.v.eq_1 ?_
 exact aD h' (leo hd) ⟨rfl,rfl⟩
theorem lV(o:Own)(t:List Vl)(hl:t.length≤1000000)(ho:o≠ .nil)(c:Nat)(hc:c<t.length)(h:Hp)(nx:Nat):aP Tryz.prog 57 [vls o t, .int .i64 c] h nx fun v h' _=>∃id,nx≤id∧v= .rs id (.agg 3) 0 (aU c t).length∧h'=h.set id (.arr (.agg 3) ((aU c t).map Vl.v++[zvl])):=by
 refine aF L.agg_without_low fun hd=>?_
 simp only[jL,jM,jA,jB,jN,jO,jP,jQ,V.undef]
 refine au ?_
 refine bD ((aCQ o t hl ho (by rintro rfl;simp at hc) _ _).mono ?_)
 rintro v h2 nx2 hnx2 ⟨id,hid,rfl,rfl⟩
 unfold dK
 simp only[go_sem,reduceIte,jA,jB,jC,jD,reduceCtorEq,jE,jF]
 have hw:IntKind.i64.wrap ((c:Int)+1)=((c+1:Nat):Int):=wrp
 refine aue hw ?_
 have hml:t.length=(t.map Vl.v).length:=(jK ..).symm
 rw[hml]
 refine bD ((wI id (t.map Vl.v) c _ _ (by simp[Hp.set]) (by simpa using hc)).mono ?_)
 rintro v h3 nx3 hnx3 ⟨rfl,rfl⟩
 unfold dK
 simp only[go_sem,reduceIte,jA,jB,jC,jD,reduceCtorEq,jE,jF]
 refine au ?_
 refine aD (h.set id (.arr (.agg 3) ((aU c t).map Vl.v++[zvl]))) ?_ ⟨id,hid,?_,rfl⟩
 ·rw[vL]
  have:(t.map Vl.v).take c++(t.map Vl.v).drop (c+1)++[zvl]=(aU c t).map Vl.v++[zvl]:=by
   rw[aU,List.eraseIdx_eq_take_drop_succ,List.map_append,List.map_take,List.map_drop]
  rw[this]
  exact Hp.le_refl _
 simp only[aU,List.length_eraseIdx,if_pos hc,jK,go_sem,reduceIte,jA,jB,jC,jD,reduceCtorEq,jE,jF]
theorem vD(o:Own)(t:List Vl)(hl:t.length≤1000000)(ho:o≠ .nil)(c:Nat)(hc:c<t.length)(h:Hp):bH Tryz.prog 57 [vls o t, .int .i64 c] h (vls .free (aU c t)):=by
 refine aT (fun L=>kZ _ (by simp) L) fun h' nx hh=>((lV o t hl ho c hc h' nx).frz (R':=fun v' h''=>v'=vls .free (aU c t)∧h''=h') ?_)
 rintro v h2 nx2 ⟨id,hid,rfl,rfl⟩
 refine .inr ⟨_,id,_,_,rfl,hid,by simp,rfl,?_,rfl⟩
 rw[List.take_left' (by simp)]
end Go.Proofs.YtemjhgboialjpaaGreat
