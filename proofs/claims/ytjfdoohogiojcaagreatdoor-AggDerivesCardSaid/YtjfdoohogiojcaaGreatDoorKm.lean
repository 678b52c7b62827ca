/-
Texts of this proof,one behind the other. No conditions.
-/
import Derived.Shelf.SlSortCmp.WholeK
import Derived.Shelf.SlSortCmp.NoneTotal
import Derived.Shelf.SlSortCmp.Whole1
import Derived.Test.YtjfdoohogiojcaaGreatDoorProg
import Derived.Test.YtjfdoohogiojcaaGreatDoorKd
import Derived.Test.YtjfdoohogiojcaaGreatDoorKl
import Derived.Test.YtjfdoohogiojcaaGreatDoorKg
import Derived.Test.YtjfdoohogiojcaaGreatDoorKcb
import Derived.Laws.IdiomCopy
import Derived.Test.YtjfdoohogiojcaaGreatDoorKe
import Derived.Test.YtjfdoohogiojcaaGreatDoorChecked
import Derived.Shelf.RegionOpenPlain
import Derived.WalkKit
import Derived.Deep.LoopGhost
import Derived.Deep.RegionLaw
import Derived.Lib.Walk
import Derived.Sort.WalkB12
import Derived.Lib.Overlaps
import Derived.Laws.Externs
open Go.Proofs.YtjfdoohogiojcaaGreatDoor.Vl renaming aAA→Ka,v→Kb,aAI→Ke
open Go.Proofs.YtjfdoohogiojcaaGreatDoor.V renaming undef→Kc,fits→Kf
open List renaming getD_eq_getElem?_getD→Kd,take_succ_eq_append_getElem→Kg,getElem?_eq_getElem→Kh,getElem?_append_right→Kj,getElem?_append_left→Kk,length_cons→Kp,filter_cons_of_pos→Kq,drop_of_length_le→Ks,eraseIdx_eq_take_drop_succ→Kt,mem_of_mem_take→Kv,length_eraseIdx→Kw,mem_append→Kx,take_zero→Ky,getElem?_drop→Kz,drop_eq_getElem_cons→KD,filter_congr→KE,filter_cons_of_neg→KH,nil_append→KI,drop_zero→KM,mem_of_mem_drop→KN,mem_append_left→KO,replicate_succ→KP,replicate_zero→KQ,getElem?_range→KR,take_succ_cons→KS,length_pos_iff→KT,getElem?_take→KU,filter_filter→KV,mem_map→KW,map_map→KX,append_assoc→KY,getElem?_map→KZ,any_eq_false→Qa,cons_append→Qb,getElem_mem→Qe,length_take→Qf,take_length→Qg,any_eq_true→Qh,length_nil→Qj,take_left'→Ql,append_nil→Qm,map_append→Qp,map_nil→Qt,sum_nil→Qu,length→Qv,range→Qz
open Array renaming getD_eq_getD_getElem?→Ki
open Go.Builtin renaming append_→Km,copy_→Ku,lenOf→Qi
open Nat renaming mul_le_mul_right→Ko,reduceAdd→KA,reduceSub→KB,lt_or_ge→KF,zero_mul→KG,add_mul→KK,le_refl→KL,reduceLeDiff→Qc,reduceEqDiff→Qd,min_eq_left→Qo,reduceLT→Qq,zero_add→Qr,min_def→Qw
open Function renaming comp_def→KC
open Go renaming undef→KJ
open Int renaming reduceToNat→Qk
set_option linter.unusedSimpArgs false
set_option linter.unusedVariables false
set_option linter.unusedSectionVars false
set_option maxHeartbeats 8000000
open Nat renaming reduceAdd→jA,reduceSub→jB,reduceLT→jC,reduceLeDiff→jD,reduceEqDiff→jE
open Int renaming reduceToNat→jF,toNat_natCast→jG,natCast_add→jH,natCast_one→jI,natCast_zero→jJ
open List renaming length_map→jK,length_cons→jL,length_nil→jM,replicate_succ→jN,replicate_zero→jO,cons_append→jP,nil_append→jQ
namespace Go.Proofs.YtjfdoohogiojcaaGreatDoor
open Go.Shelf
def mw:Go.Shelf.Ren:=⟨fun|6=>114|15=>102|14=>132|28=>127|29=>128|20=>143|21=>144|22=>145|23=>146|24=>147|25=>148|26=>149|27=>150|46=>160|47=>137|48=>138|49=>161|50=>162|57=>173|n=>n,fun|22=>54|24=>58|25=>114|3=>3|39=>161|0=>0|53=>185|55=>187|4=>4|46=>178|45=>177|50=>182|5=>5|9=>9|66=>199|70=>203|76=>220|77=>221|n=>n,fun|n=>n⟩
theorem AK:Go.Proofs.SlLaysF0.n6 Tryz.prog mw:={
 mixed:=Zz
 f6:=⟨Tryz.f114.name,ZM,Tryz.func114.trans (congrArg some Zz)⟩
 f14:=⟨Tryz.f132.name,ZM,Tryz.func132.trans (congrArg some Zz)⟩
 f15:=Tryz.func102.trans (congrArg some Zz)
 f20:=⟨Tryz.f143.name,ZM,Tryz.func143.trans (congrArg some Zz)⟩
 f21:=⟨Tryz.f144.name,ZM,Tryz.func144.trans (congrArg some Zz)⟩
 f22:=⟨Tryz.f145.name,ZM,Tryz.func145.trans (congrArg some Zz)⟩
 f23:=⟨Tryz.f146.name,ZM,Tryz.func146.trans (congrArg some Zz)⟩
 f24:=⟨Tryz.f147.name,ZM,Tryz.func147.trans (congrArg some Zz)⟩
 f25:=⟨Tryz.f148.name,ZM,Tryz.func148.trans (congrArg some Zz)⟩
 f26:=⟨Tryz.f149.name,ZM,Tryz.func149.trans (congrArg some Zz)⟩
 f27:=⟨Tryz.f150.name,ZM,Tryz.func150.trans (congrArg some Zz)⟩
 f28:=Tryz.func127.trans (congrArg some Zz)
 f29:=Tryz.func128.trans (congrArg some Zz)
 f46:=⟨Tryz.f160.name,ZM,Tryz.func160.trans (congrArg some Zz)⟩
 f47:=Tryz.func137.trans (congrArg some Zz)
 f48:=Tryz.func138.trans (congrArg some Zz)
 f49:=⟨Tryz.f161.name,ZM,Tryz.func161.trans (congrArg some Zz)⟩
 f50:=⟨Tryz.f162.name,ZM,Tryz.func162.trans (congrArg some Zz)⟩
 f57:=⟨Tryz.f173.name,ZM,Tryz.func173.trans (congrArg some Zz)⟩
 t0:=Tryz.underlying0
 a0:=Tryz.isAgg0
 z0:=Tryz.sizeOf0
 v0:=Tryz.zeroValue0
 t3:=Tryz.underlying3
 a3:=Tryz.isAgg3
 z3:=Tryz.sizeOf3
 v3:=Tryz.zeroValue3
 t4:=Tryz.underlying4
 a4:=Tryz.isAgg4
 z4:=Tryz.sizeOf4
 v4:=Tryz.zeroValue4
 t5:=Tryz.underlying5
 a5:=Tryz.isAgg5
 z5:=Tryz.sizeOf5
 v5:=Tryz.zeroValue5
 t9:=Tryz.underlying9
 a9:=Tryz.isAgg9
 z9:=Tryz.sizeOf9
 v9:=Tryz.zeroValue9
 t22:=Tryz.underlying54
 a22:=Tryz.isAgg54
 z22:=Tryz.sizeOf54
 v22:=Tryz.zeroValue54
 t25:=Tryz.underlying114
 a25:=Tryz.isAgg114
 z25:=Tryz.sizeOf114
 v25:=Tryz.zeroValue114
 t39:=Tryz.underlying161
 a39:=Tryz.isAgg161
 z39:=Tryz.sizeOf161
 v39:=Tryz.zeroValue161
 t45:=Tryz.underlying177
 a45:=Tryz.isAgg177
 z45:=Tryz.sizeOf177
 v45:=Tryz.zeroValue177
 t46:=Tryz.underlying178
 a46:=Tryz.isAgg178
 z46:=Tryz.sizeOf178
 v46:=Tryz.zeroValue178
 t50:=Tryz.underlying182
 a50:=Tryz.isAgg182
 z50:=Tryz.sizeOf182
 v50:=Tryz.zeroValue182
 t53:=Tryz.underlying185
 a53:=Tryz.isAgg185
 z53:=Tryz.sizeOf185
 v53:=Tryz.zeroValue185
 t55:=Tryz.underlying187
 a55:=Tryz.isAgg187
 z55:=Tryz.sizeOf187
 v55:=Tryz.zeroValue187
 t66:=Tryz.underlying199
 a66:=Tryz.isAgg199
 z66:=Tryz.sizeOf199
 v66:=Tryz.zeroValue199
 t70:=Tryz.underlying203
 a70:=Tryz.isAgg203
 z70:=Tryz.sizeOf203
 v70:=Tryz.zeroValue203
 t76:=Tryz.underlying220
 a76:=Tryz.isAgg220
 z76:=Tryz.sizeOf220
 v76:=Tryz.zeroValue220
 t77:=Tryz.underlying221
 a77:=Tryz.isAgg221
 z77:=Tryz.sizeOf221
 v77:=Tryz.zeroValue221}
def my:Go.Shelf.Ren:=⟨fun|6=>72|15=>102|14=>101|28=>127|29=>128|20=>119|21=>120|22=>121|23=>122|24=>123|25=>124|26=>125|27=>126|46=>136|47=>137|48=>138|49=>139|50=>140|57=>156|n=>n,fun|22=>44|24=>55|25=>87|3=>3|39=>161|0=>0|53=>185|55=>187|4=>4|46=>178|45=>177|50=>182|5=>5|9=>9|66=>199|70=>203|76=>220|77=>221|n=>n,fun|n=>n⟩
theorem AL:Go.Proofs.SlLaysF.n6 Tryz.prog my:={
 mixed:=Zz
 f6:=⟨Tryz.f72.name,ZM,Tryz.func72.trans (congrArg some Zz)⟩
 f14:=⟨Tryz.f101.name,ZM,Tryz.func101.trans (congrArg some Zz)⟩
 f15:=Tryz.func102.trans (congrArg some Zz)
 f20:=⟨Tryz.f119.name,ZM,Tryz.func119.trans (congrArg some Zz)⟩
 f21:=⟨Tryz.f120.name,ZM,Tryz.func120.trans (congrArg some Zz)⟩
 f22:=⟨Tryz.f121.name,ZM,Tryz.func121.trans (congrArg some Zz)⟩
 f23:=⟨Tryz.f122.name,ZM,Tryz.func122.trans (congrArg some Zz)⟩
 f24:=⟨Tryz.f123.name,ZM,Tryz.func123.trans (congrArg some Zz)⟩
 f25:=⟨Tryz.f124.name,ZM,Tryz.func124.trans (congrArg some Zz)⟩
 f26:=⟨Tryz.f125.name,ZM,Tryz.func125.trans (congrArg some Zz)⟩
 f27:=⟨Tryz.f126.name,ZM,Tryz.func126.trans (congrArg some Zz)⟩
 f28:=Tryz.func127.trans (congrArg some Zz)
 f29:=Tryz.func128.trans (congrArg some Zz)
 f46:=⟨Tryz.f136.name,ZM,Tryz.func136.trans (congrArg some Zz)⟩
 f47:=Tryz.func137.trans (congrArg some Zz)
 f48:=Tryz.func138.trans (congrArg some Zz)
 f49:=⟨Tryz.f139.name,ZM,Tryz.func139.trans (congrArg some Zz)⟩
 f50:=⟨Tryz.f140.name,ZM,Tryz.func140.trans (congrArg some Zz)⟩
 f57:=⟨Tryz.f156.name,ZM,Tryz.func156.trans (congrArg some Zz)⟩
 t0:=Tryz.underlying0
 a0:=Tryz.isAgg0
 z0:=Tryz.sizeOf0
 v0:=Tryz.zeroValue0
 t3:=Tryz.underlying3
 a3:=Tryz.isAgg3
 z3:=Tryz.sizeOf3
 v3:=Tryz.zeroValue3
 t4:=Tryz.underlying4
 a4:=Tryz.isAgg4
 z4:=Tryz.sizeOf4
 v4:=Tryz.zeroValue4
 t5:=Tryz.underlying5
 a5:=Tryz.isAgg5
 z5:=Tryz.sizeOf5
 v5:=Tryz.zeroValue5
 t9:=Tryz.underlying9
 a9:=Tryz.isAgg9
 z9:=Tryz.sizeOf9
 v9:=Tryz.zeroValue9
 t22:=Tryz.underlying44
 a22:=Tryz.isAgg44
 z22:=Tryz.sizeOf44
 v22:=Tryz.zeroValue44
 a24:=Tryz.isAgg55
 z24:=Tryz.sizeOf55
 t25:=Tryz.underlying87
 a25:=Tryz.isAgg87
 z25:=Tryz.sizeOf87
 v25:=Tryz.zeroValue87
 t39:=Tryz.underlying161
 a39:=Tryz.isAgg161
 z39:=Tryz.sizeOf161
 v39:=Tryz.zeroValue161
 t45:=Tryz.underlying177
 a45:=Tryz.isAgg177
 z45:=Tryz.sizeOf177
 v45:=Tryz.zeroValue177
 t46:=Tryz.underlying178
 a46:=Tryz.isAgg178
 z46:=Tryz.sizeOf178
 v46:=Tryz.zeroValue178
 t50:=Tryz.underlying182
 a50:=Tryz.isAgg182
 z50:=Tryz.sizeOf182
 v50:=Tryz.zeroValue182
 t53:=Tryz.underlying185
 a53:=Tryz.isAgg185
 z53:=Tryz.sizeOf185
 v53:=Tryz.zeroValue185
 t55:=Tryz.underlying187
 a55:=Tryz.isAgg187
 z55:=Tryz.sizeOf187
 v55:=Tryz.zeroValue187
 t66:=Tryz.underlying199
 a66:=Tryz.isAgg199
 z66:=Tryz.sizeOf199
 v66:=Tryz.zeroValue199
 t70:=Tryz.underlying203
 a70:=Tryz.isAgg203
 z70:=Tryz.sizeOf203
 v70:=Tryz.zeroValue203
 t76:=Tryz.underlying220
 a76:=Tryz.isAgg220
 z76:=Tryz.sizeOf220
 v76:=Tryz.zeroValue220
 t77:=Tryz.underlying221
 a77:=Tryz.isAgg221
 z77:=Tryz.sizeOf221
 v77:=Tryz.zeroValue221}
end Go.Proofs.YtjfdoohogiojcaaGreatDoor
namespace Go.Proofs.YtjfdoohogiojcaaGreatDoor
open Go.RowKit Go.Sort
attribute [local irreducible] IntKind.wrap
theorem aX.frz{P:Program}{f:FuncId}{args:List V}{h:Hp}{nx:Nat}{R:V→Hp→Nat→Prop}{R':V→Hp→Prop}(c:aX P f args h nx R)
 (hc:∀v h' nx',R v h' nx'→R' v h'∨∃k id es m,v= .rs id k 0 m∧nx≤id∧m≤es.length∧h'=h.set id (.arr k es)∧R' (.sl k .free (es.take m)) h):aX P f args h nx fun v h' _=>R' v h':=by
 refine⟨c.1,fun K cargs hl hr hv=>(c.2 K cargs hl hr hv).mono ?_⟩;rintro e w' ⟨K',v,cv,h',nx',rfl,he,hle,hvr,hrel,hlv,hnx,hR⟩;rcases hc v h' nx' hR with h1|⟨k,id,es,m,rfl,hid,hm,rfl,h1⟩
 ·exact⟨K',v,cv,h',nx',rfl,he,hle,hvr,hrel,hlv,hnx,h1⟩
 have hfr:¬K'.live nx':=fun hh=>Nat.lt_irrefl _ (hlv nx' hh).1;have aAO:(h.set id (.arr k es)) id=some (.arr k es):=by simp[Hp.set]
 obtain⟨K'',q1,q2,q3,q4,q5⟩:=rE hrel aAO hfr or hvr;have aAb:h id=none:=by
  cases hd:h id with
  |none=>rfl
  |some b=>exact absurd (hl id (hr.lt id b hd)) or
 have hh:(h.set id (.arr k es)).del id=h:=by
  funext x;unfold Hp.set Hp.del;by_cases e1:x=id
  ·subst e1;simp[aAb]
  simp[e1]
 rw[hh] at q5;rw[KM] at q4;refine⟨K'',_,cv,_,nx'+1,q1,he,hle.trans q2,q4,q5,fun m hm=>?_,or,h1⟩;rcases q3 m hm with hm|rfl
 ·exact⟨by have:=(hlv m hm).1;omega,(hlv m hm).2⟩
 exact⟨or, .inr hnx⟩
theorem xi:aF Tryz.prog 60=some (LB.aEc (.agg 3) 90 89 91 92):=Zz
theorem xu:aF Tryz.prog 91=some (LB.aAY (.agg 3) (.agg [.int .i64 0, .int .i64 0, .str ⟨#[]⟩])):=Zz
theorem jm:aF Tryz.prog 89=some (LB.aAr (.agg 3) 113 114):=Zz
theorem fg:aF Tryz.prog 113=some (LB.Collect (.agg 3) 131):=Zz
theorem xT:aF Tryz.prog 131=some (LB.aA2 (.agg 3) (.agg [.int .i64 0, .int .i64 0, .str ⟨#[]⟩]) 32):=Zz
theorem jk:aF Tryz.prog 90=some (LB.aEM (.agg 3) 115):=Zz
theorem aa:aF Tryz.prog 115=some (LB.aC9 (.agg 3) (.agg [.int .i64 0, .int .i64 0, .str ⟨#[]⟩])):=Zz
theorem xj:aF Tryz.prog 23=some (LB.aEc .leaf 42 41 43 44):=Zz
theorem xv:aF Tryz.prog 43=some (LB.aAY .leaf (.sl (.agg 3) .nil [])):=Zz
theorem jn:aF Tryz.prog 41=some (LB.aAr .leaf 71 72):=Zz
theorem fh:aF Tryz.prog 71=some (LB.Collect .leaf 100):=Zz
theorem xU:aF Tryz.prog 100=some (LB.aAs 24):=Zz
theorem jl:aF Tryz.prog 42=some (LB.aEM .leaf 73):=Zz
theorem ab:aF Tryz.prog 73=some LB.aCK:=Zz
theorem ni(a b:Vl)(h:Hp)(n:Nat)(hn:h n=some (.arr .leaf [.fn (.func 46) [] []])):aO Tryz.prog 92 [a.v,b.v, .ptr n .leaf 0 0] h (.bool (decide (dQ a b=0))):=by
 refine aI (fun L=>trivial) fun h' nx hh=>aB L.aSP fun hd=>?_;simp only[Kp,Qj,KA,KB,KP,KQ,Qb,KI,Kc];have hn1:=hh _ _ hn rfl;have hn2:n<nx:=hd _ _ hn1;have hk:=fun h=>tH a b h;refine aue (e4 Vl.v.eq_1 hn1 hn2 Ka) ?_;refine dB rfl (hk _) rfl (aM _) ?_;simp only[go_sem,reduceIte,KA,KB,Qq,Qc,reduceCtorEq,Qd,Qk];refine au ?_;refine aC h' (leo hd) ⟨vb ?_,rfl⟩;simp
theorem nj(a b:TR)(hl:a.2.length≤1000000000)(h:Hp)(n:Nat)(hn:h n=some (.arr .leaf [.fn (.func 24) [] []])):aO Tryz.prog 44 [a.v,b.v, .ptr n .leaf 0 0] h (.bool (decide (bK a.2 b.2=0))):=by
 refine aI (fun L=>trivial) fun h' nx hh=>aB L.aTK fun hd=>?_;simp only[Kp,Qj,KA,KB,KP,KQ,Qb,KI,Kc];have hn1:=hh _ _ hn rfl;have hn2:n<nx:=hd _ _ hn1;have hk:=fun h=>tJ a.1 a.2 b.2 hl b.v h (.inl ⟨b.1,rfl⟩);refine aue (e2 hn1 hn2) ?_;refine dB rfl (hk _) rfl (aM _) ?_;simp only[go_sem,reduceIte,KA,KB,Qq,Qc,reduceCtorEq,Qd,Qk];refine au ?_;refine aC h' (leo hd) ⟨vb ?_,rfl⟩;simp
theorem jp{k:Sh}(o:Own)(l:List V):∃o',(V.sl k o l).loose= .sl k o' l:=by cases o<;>exact⟨_,rfl⟩
theorem si(o:Own)(l:List Vl)(hl:l.length≤1000000)(h:Hp):aO Tryz.prog 60 [vls o l, .fn (.func 46) [] []] h (lst (.agg 3) ((bL dQ l).map Kb)):=by
 obtain⟨o',ho'⟩:=jp (k:= .agg 3) o (l.map Kb);refine aI (fun L=>gS (fun L=>cN (fun x=>Ke L x) _) L) fun h' nx hh=>?_
 refine((bf Kb xi xu rfl Ka dQ o l hl
  (fun h=>wK jk o (l.map Kb) (fun L=>cN (fun x=>Ke L x) _) h)
  (fun h nx=>by
    rw[ho']
    exact tL Kb AK Ka (by intro w;exact Tryz.isAgg58 w) (by intro w;exact Tryz.sizeOf58 w) Zz jm fg xT rfl or rfl _ _ Hp.none l
     (dr Kb Ka aa rfl o' l or) or dQ c3V.swo _ [] (fun x y=>by simpa using tH x y Hp.none) h nx (bD _))
  (fun x y hb b e=>ni x y hb b e) h' nx).frz (R':=fun v' h''=>v'=lst (.agg 3) ((bL dQ l).map Kb)∧h''=h') ?_)
 rintro v h3 nx3 ⟨ys,hp,hs,hr⟩;have hc:cpt (fun x y=>decide (dQ x y=0)) ys=bL dQ l:=by
  have:=ro c3V id ys (by unfold fU at hs;exact hs.imp fun{x y} h=>by simpa [ltOf] using h);simp only[List.map_id,id] at this;rw[this];exact io c3V fun z=>hp.mem_iff
 rcases hr with⟨rfl,rfl,rfl⟩|⟨hne,id,es,m,hid,rfl,hm,rfl,htk⟩
 ·exact .inl ⟨rfl,rfl⟩
 refine .inr ⟨_,id,es,m,rfl,hid,hm,rfl,?_,rfl⟩;rw[htk,hc];have:bL dQ l≠ []:=fun h=>hne ((rV c3V l).1 h);revert this;cases bL dQ l with
 |nil=>exact fun h=>absurd rfl h
 |cons a b=>exact fun _=>rfl
abbrev TS:Type:={p:TR // p.2.length≤1000000}
instance:Inhabited TS:=⟨⟨(.nil,[]),Zm⟩⟩
theorem A3(l:List TR)(h:∀p∈l,p.2.length≤1000000):∃xs:List TS,xs.map (·.1)=l:=by
 induction l with
 |nil=>exact⟨[],rfl⟩
 |cons p l ih=>
  obtain⟨xs,rfl⟩:=ih fun q hq=>h q (by simp[hq]);exact⟨⟨p,h p Zm⟩::xs,rfl⟩
theorem mW(o:Own)(l:List TR)(hl:l.length≤1000000)(hok:∀p∈l,p.2.length≤1000000∧p.ok)(h':Hp)(nx:Nat):aX Tryz.prog 23 [tps o l, .fn (.func 24) [] []] h' nx fun v h'' _=>
 ∃zs:List TR,aS zs=bL bK (aS l)∧(∀z∈zs,z∈l)∧((zs=[]∧v= .sl .leaf .nil []∧h''=h')∨(zs≠ []∧∃id es,nx≤id∧v= .rs id .leaf 0 zs.length∧zs.length≤es.length∧h''=h'.set id (.arr .leaf es)∧es.take zs.length=zs.map TR.v)):=by
 obtain⟨xs,rfl⟩:=A3 l fun p hp=>(hok p hp).1;obtain⟨o',ho'⟩:=jp (k:= .leaf) o (xs.map fun x=>x.1.v);have aCb:∀x∈xs,x.1.ok:=fun x hx=>(hok x.1 (KW.2 ⟨x,hx,rfl⟩)).2;have hn:∀L,bM L (xs.map fun x=>x.1.v):=fun L=>by
  clear hl hok ho';induction xs with
  |nil=>trivial
  |cons x xs ih=>exact⟨TR.names (aCb x Zm) L,ih fun y hy=>aCb y (by simp[hy])⟩
 have hm:tps o (xs.map (·.1))= .sl .leaf o (xs.map fun x:TS=>x.1.v):=by simp[tps,KX,KC]
 rw[hm];have hsw:SWO (ltOf fun x y:TS=>bK x.1.2 y.1.2):=wP (fun x:TS=>x.1.2) c3T.swo
 refine((bf (fun x:TS=>x.1.v) xj xv rfl (fun x=>rfl) (fun x y=>bK x.1.2 y.1.2) o xs (by simpa using hl)
  (fun h=>wK jl o _ hn h)
  (fun h nx=>by
    rw[ho']
    exact tK (fun x:TS=>x.1.v) AL (fun x=>rfl) Zz jn fh xU or rfl _ _ Hp.none xs
     (zW (fun x:TS=>x.1.v) (fun x=>rfl) ab o' xs (by simp at hl;omega)) (by simp at hl;omega) (fun x y=>bK x.1.2 y.1.2) hsw _ [] (fun x y=>by
       have hb:=x.2;exact tJ x.1.1 x.1.2 y.1.2 or y.1.v Hp.none (.inl ⟨y.1.1,rfl⟩)) h nx (bD _))
  (fun x y hb b e=>nj x.1 y.1 (by have:=x.2;omega) hb b e) h' nx).mono ?_)
 rintro v h3 nx3 _ ⟨ys,hp,hs,hr⟩;have hc:(cpt (fun x y:TS=>decide (bK x.1.2 y.1.2=0)) ys).map (fun x=>x.1.2)=bL bK (xs.map fun x=>x.1.2):=by
  rw[ro c3T (fun x:TS=>x.1.2) ys (by unfold fU at hs;exact hs.imp fun{x y} h=>by simpa [ltOf] using h)];exact io c3T fun z=>(hp.map _).mem_iff
 have aKV:∀z∈cpt (fun x y:TS=>decide (bK x.1.2 y.1.2=0)) ys,z∈xs:=fun z hz=>hp.mem_iff.1 ((Ap _ ys).subset hz);generalize cpt (fun x y:TS=>decide (bK x.1.2 y.1.2=0)) ys=zs at hc aKV hr;refine⟨zs.map (·.1),by simp only[aS,KX,KC];exact hc,fun z hz=>by
  obtain⟨y,hy,rfl⟩:=KW.1 hz;exact KW.2 ⟨y,aKV y hy,rfl⟩,?_⟩
 rcases hr with⟨rfl,rfl,rfl⟩|⟨hne,id,es,m,hid,rfl,hm,rfl,htk⟩
 ·refine .inl ⟨?_,rfl,rfl⟩;have:zs=[]:=by simpa [bL] using hc
  rw[this];rfl
 have hml:m=zs.length:=by have:=congrArg Qv htk;simp at this;omega
 subst hml;refine .inr ⟨fun h=>?_,id,es,hid,Zm,by simpa using hm,rfl,by simpa [KX,KC] using htk⟩;have h0:zs=[]:=by simpa using h
 rw[h0] at hc;exact hne (by have:=(rV c3T _).1 hc.symm;simpa using this)
end Go.Proofs.YtjfdoohogiojcaaGreatDoor
namespace Go.Proofs.YtjfdoohogiojcaaGreatDoor
open Go.RowKit
variable{P:Program}{K:Ker}{h:Hp}{k:Sh}
def mT(es:List V)(o:Nat)(ys:List V):List V:=es.take o++ys++es.drop (o+ys.length)
theorem zJ{es ys:List V}{o:Nat}(hle:o+ys.length≤es.length):(mT es o ys).length=es.length:=by simp[mT];omega
theorem zi{es ys:List V}{o:Nat}(hle:o+ys.length≤es.length)(q:Nat):(mT es o ys).getD q Kc=if q<o then es.getD q Kc else if q<o+ys.length then ys.getD (q-o) Kc else es.getD q Kc:=by
 simp only[mT,Kd,KY];have htk:(es.take o).length=o:=by simp;omega
 by_cases e1:q<o
 ·rw[if_pos e1,Kk (by rw[htk];exact e1),KU,if_pos e1]
 rw[if_neg e1,Kj (by rw[htk];omega),htk];by_cases e2:q<o+ys.length
 ·rw[if_pos e2,Kk or]
 rw[if_neg e2,Kj or,Kz];have:o+ys.length+(q-o-ys.length)=q:=or;rw[this]
def nH(K:Ker)(k:Sh)(ys:List V)(cs:List Value):Prop:=cs.length=ys.length*k.size∧(∀y∈ys,y.fits k=true)∧∀i,i<ys.length→∀j,j<k.size→VR K ((ys.getD i Kc).cell j) (cs.getD (i*k.size+j) KJ)
theorem nH.one{ys:List V}{cs:List Value}(c:nH K k ys cs):∀u∈cs,u.oneCell'=true:=by
 obtain⟨hcl,hfy,hv⟩:=c;intro u hu;obtain⟨q,hq,rfl⟩:=List.getElem_of_mem hu;rw[hcl] at hq;obtain⟨d1,d2,d3⟩:=pW hq;have h1:=hv _ d1 _ d2;rw[d3,Kd (l:=cs),Kh (by rw[hcl];exact hq)] at h1;have hm:ys.getD (q / k.size) Kc∈ys:=by rw[Kd,Kh d1];exact Qe _
 have h2:=hfy _ hm;refine VR.aA3 h1 ?_;cases k with
 |leaf=>
  have hz:q % Sh.leaf.size=0:=by simp[Sh.size,Nat.mod_one]
  rw[hz];rw[Kf] at h2;generalize ys.getD (q / Sh.leaf.size) Kc=y at h2;cases y<;>first|rfl|(simp[V.aAE] at h2)
 |agg n=>
  generalize ys.getD (q / (Sh.agg n).size) Kc=y at h2;cases y with
  |agg cs2=>
   simp only[Kf,Bool.and_eq_true,decide_eq_true_eq,List.all_eq_true] at h2;show(cs2.getD _ Kc).aAE=true;have hlt:q % (Sh.agg n).size<cs2.length:=by rw[h2.1];exact d2
   rw[Kd,Kh hlt];exact h2.2 _ (Qe _)
  |_=>simp[Kf] at h2
theorem nH.mono{K K':Ker}(hle:K.le K'){ys:List V}{cs:List Value}(c:nH K k ys cs):nH K' k ys cs:=⟨c.1,c.2.1,fun i hi j hj=>(c.2.2 i hi j hj).mono hle⟩
theorem lR(hr:Rel K h){n o:Nat}{es ys:List V}(hn:h n=some (.arr k es))(hle:o+ys.length≤es.length){cs:List Value}(c:nH K k ys cs):
 ∃K',(storeCells ⟨K.mu n,o*k.size,none⟩ cs 0).run P K.w= .ok () K'.w∧K.le K'∧K'.live=K.live∧K'.mu=K.mu∧(∀b,K'.w.shape? b=K.w.shape? b)∧Rel K' (h.set n (.arr k (mT es o ys))):=by
 have aCx:=c.one;obtain⟨hcl,hfy,hv⟩:=c;have hbr:=hr.blk n _ hn;cases hbr with
 |arr _ _ c T hh hcs aAg aAG hvs=>
  have aBl:o*k.size+ys.length*k.size≤es.length*k.size:=by rw[←KK];exact Ko _ hle
  have hst:=run_storeCells_at P (K.mu n) (o*k.size) T cs 0 c K.w hh (by rw[hcl];omega) aCx;simp only[Nat.add_zero,hcl] at hst;generalize hc':(c.toList.take (o*k.size)++cs++c.toList.drop (o*k.size+ys.length*k.size)).toArray=c' at hst;have aBC:c'.size=c.size:=by rw[←hc'];simp only[List.size_toArray,List.length_append,Qf,List.length_drop,Array.length_toList,hcl];omega
  have aA5:=K.aBk (K.mu n) c' c T hh aBC (hr.base n _ hn) (fun o ho=>by rw[aAg] at ho;omega);have hlen:=zJ hle;refine⟨K.row (K.mu n) c',hst,aA5,rfl,rfl,fun b=>rU K.w _ c' c T (0,0) hh aBC b,?_⟩;refine hr.row hn c' c T hh aBC (fun o ho=>by rw[aAg] at ho;omega) (.arr k _ c' T ?_ (by rw[hlen,aBC];exact hcs) aAg ?_ ?_)
  ·show(K.w.setRow (K.mu n) c').heap[K.mu n]?=_;exact setRow_heap K.w (K.mu n) c c' T (0,0) hh
  ·intro x hx;rcases Kx.1 hx with hx|hx
   ·rcases Kx.1 hx with hx|hx
    ·exact aAG x (Kv hx)
    exact hfy x hx
   exact aAG x (KN hx)
  intro q hq j hj;rw[hlen] at hq;have aEv:=cE hj hq;have aCz:c'[q*k.size+j]?=if q<o then c[q*k.size+j]? else if q<o+ys.length then cs[(q-o)*k.size+j]? else c[q*k.size+j]?:=by
   rw[←hc'];simp only[List.getElem?_toArray,KY];by_cases e1:q<o
   ·have h1:=cE hj e1;rw[if_pos e1,Kk (by simp;omega),KU,if_pos h1];simp
   rw[if_neg e1];have h1:o*k.size≤q*k.size:=Ko _ or;have aKV:q*k.size-o*k.size=(q-o)*k.size:=(Nat.sub_mul _ _ _).symm;have htk:(c.toList.take (o*k.size)).length=o*k.size:=by simp;omega
   rw[Kj (by rw[htk];omega),htk];by_cases e2:q<o+ys.length
   ·have h2:=cE (k:=k.size) (i:=q-o) (n:=ys.length) hj or;rw[if_pos e2,Kk (by rw[hcl];omega)];have:q*k.size+j-o*k.size=(q-o)*k.size+j:=or;rw[this]
   have h2:(o+ys.length)*k.size≤q*k.size:=Ko _ or;rw[KK] at h2;rw[if_neg e2,Kj (by rw[hcl];omega),hcl,Kz];have:o*k.size+ys.length*k.size+(q*k.size+j-o*k.size-ys.length*k.size)=q*k.size+j:=or;rw[this];simp
  rw[zi hle,Ki,aCz];by_cases e1:q<o
  ·rw[if_pos e1,if_pos e1,←Ki];exact(hvs q hq j hj).mono aA5
  rw[if_neg e1,if_neg e1];by_cases e2:q<o+ys.length
  ·rw[if_pos e2,if_pos e2,←Kd];exact(hv _ or j hj).mono aA5
  rw[if_neg e2,if_neg e2,←Ki];exact(hvs q hq j hj).mono aA5
theorem qB(hr:Rel K h){n o m:Nat}{es:List V}(hn:h n=some (.arr k es))(hle:o+m≤es.length):
 ∃cs,nH K k ((es.drop o).take m) cs∧cs.length=m*k.size∧∀j u,cs[j]?=some u→K.w.cell? ⟨K.mu n,o*k.size+j,none⟩=some u:=by
 have hbr:=hr.blk n _ hn;cases hbr with
 |arr _ _ c T hh hcs aAg aAG hvs=>
  have aBl:o*k.size+m*k.size≤es.length*k.size:=by rw[←KK];exact Ko _ hle
  have hml:((es.drop o).take m).length=m:=by simp;omega
  refine⟨(Qz (m*k.size)).map fun j=>c.getD (o*k.size+j) KJ,⟨by rw[hml];simp,fun y hy=>aAG y (KN (Kv hy)),fun i hi j hj=>?_⟩,Zm,fun j u hu=>?_⟩
  ·rw[hml] at hi;have h1:=cE hj hi;have h2:=hvs (o+i) or j hj;have e1:((es.drop o).take m).getD i Kc=es.getD (o+i) Kc:=by rw[Kd,Kd,List.getElem?_take_of_lt hi,Kz]
   have e2:((Qz (m*k.size)).map fun j=>c.getD (o*k.size+j) KJ).getD (i*k.size+j) KJ=c.getD ((o+i)*k.size+j) KJ:=by
    rw[Kd,KZ,KR h1,KK,Nat.add_assoc];rfl
   rw[e1,e2];exact h2
  rw[KZ] at hu;have hj:j<m*k.size:=by
   rcases KF j (m*k.size) with h|h
   ·exact h
   rw[List.getElem?_eq_none (by simpa using h)] at hu;cases hu
  rw[KR hj] at hu;have hu:c.getD (o*k.size+j) KJ=u:=by simpa using hu
  simp only[World.cell?,hh,Option.isSome_none,Bool.false_eq_true,if_false];rw[←hu,Ki,Array.getElem?_eq_getElem or];rfl
theorem wW(w:World)(dT sT ty elem:TypeId)(i:TypeInfo)(b o aQy aT6:Nat)(a:Addr)(aKm aQK m:Nat)(cs:List Value){w':World}
 (hu:P.underlying dT=some (.slice elem)) (hi:P.info? elem=some i) (hm:m=Nat.min aKm aQy) (hn:cs.length=m*i.size)
 (aK0:∀j v,cs[j]?=some v→w.cell? (a.add j)=some v) (hst:(storeCells ⟨b,o,none⟩ cs 0).run P w= .ok () w'):
 (Ku #[dT,sT] ty #[.slice (some ⟨b,o,none⟩) aQy aT6, .slice (some a) aKm aQK]).run P w= .ok (goInt m) w':=by
 have hl:=run_firstCells_some (P:=P) w i.size m a aKm aQK cs hn aK0;simp[Ku,run_underlying hu,Qi,sizeOf,typeInfo,hi,←hm,hl,hst]
theorem rY(w:World)(t t' ty e e':TypeId)(i:TypeInfo)(b o n cap:Nat)(a:Addr)(m c:Nat)(cs:List Value){w':World}
 (hu:P.underlying t=some (.slice e)) (hu':P.underlying t'=some (.slice e')) (hi:P.info? e=some i) (hn:cs.length=m*i.size) (hroom:n+m≤cap)
 (aK0:∀j v,cs[j]?=some v→w.cell? (a.add j)=some v) (hst:(storeCells ⟨b,o+n*i.size,none⟩ cs 0).run P w= .ok () w'):
 (Km #[t,t'] ty #[.slice (some ⟨b,o,none⟩) n cap, .slice (some a) m c]).run P w= .ok (.slice (some ⟨b,o,none⟩) (n+m) cap) w':=by
 have hl:=run_firstCells_some (P:=P) w i.size m a m c cs hn aK0;simp[Km,run_underlying hu,run_underlying hu',sizeOf,typeInfo,hi,Qi,hroom,hl,Addr.add_lit,hst]
theorem rP{ops:Array Oper}{o:Oper}{a:Act}{w:World}{K:Act→World→Prop}{Q:Exit→Act→World→Prop}{E:Prop}(bi:Builtin)
 (hg:o.guard=none) (xs:Array Operand) (ts:Array TypeId) (hop:o.op=Op.call {callee:=Callee.builtin bi,args:=xs,argTypes:=ts})
 (F:Sem Value) (hF:∀cs,builtin bi ts o.type cs (xs.map a.eval)=(do pure (.value (←F)))) {v':Value} {w':World} (hr:F.run P w= .ok v' w') (hK:K (a.put o.dst v') w'):
 if Region.wanted o (yielded ops a.tmps)=true then Oper.wp P o a w K Q else E:=by
 have hw:Region.wanted o (yielded ops a.tmps)=true:=by simp[Region.wanted,hg]
 rw[if_pos hw];unfold Oper.wp;simp[execOp,hop,resolve,invoke,hF,hr,Result.andThen];exact hK
theorem nR{ops:Array Oper}{rest:List Oper}{o:Oper}{a:Act}{w:World}{Q:Exit→Act→World→Prop}(bi:Builtin)
 (hg:o.guard=none) (xs:Array Operand) (ts:Array TypeId) (hop:o.op=Op.call {callee:=Callee.builtin bi,args:=xs,argTypes:=ts})
 (F:Sem Value) (hF:∀cs,builtin bi ts o.type cs (xs.map a.eval)=(do pure (.value (←F)))) {v':Value} {w':World} (hr:F.run P w= .ok v' w') (hK:wpList P ops Q rest (a.put o.dst v') w'):wpList P ops Q (o::rest) a w:=
 wpList_plain hg fun _ hk=>by
  unfold Oper.wp;simp[execOp,hop,resolve,invoke,hF,hr,Result.andThen];exact hk _ _ hK
end Go.Proofs.YtjfdoohogiojcaaGreatDoor
namespace Go.Proofs.YtjfdoohogiojcaaGreatDoor
open Go.RowKit Go.Shelf Go.Lib Go.Sort
theorem Ax:∃i,Tryz.prog.info? 58=some i∧i.size=3∧i.zero=some (.agg #[.int .i64 0, .int .i64 0, .string ⟨#[]⟩]):=by
 have h1:(Tryz.prog.info? 58).map (·.size)=some 3:=Zz;have h2:(Tryz.prog.info? 58).bind (·.zero)=some (.agg #[.int .i64 0, .int .i64 0, .string ⟨#[]⟩]):=Zz;obtain⟨i,hi,h3⟩:=Option.map_eq_some_iff.1 h1;rw[hi] at h2;exact⟨i,hi,h3,h2⟩
def zvl:V:=(⟨0,0,⟨#[]⟩⟩:Vl).v
theorem AF(K:Ker):VR K zvl (.agg #[.int .i64 0, .int .i64 0, .string ⟨#[]⟩]):=by
 refine .agg _ _ rfl fun i hi=>?_;have:i=0∨i=1∨i=2:=by simp at hi;omega
 rcases this with rfl|rfl|rfl
 ·exact .int _ _
 ·exact .int _ _
 exact .str _
set_option maxHeartbeats 4000000 in
set_option maxRecDepth 1000000 in
theorem zc(b L cap i j:Nat)(hij:j=i+1)(hj:j≤L)(hcap:L≤cap)(w w1 w2:World)
 (hap:∀(ty:TypeId) (A:Addr) (c:Nat),A=⟨b,j*3,none⟩∨L=j→(Km #[55,55] ty #[.slice (some ⟨b,0,none⟩) i cap, .slice (some A) (L-j) c]).run Tryz.prog w.drew= .ok (.slice (some ⟨b,0,none⟩) (i+(L-j)) cap) w1)
 (hcl:∀ty,(Builtin.clear_ #[55] ty #[.slice (some ⟨b,(i+(L-j))*3,none⟩) (L-(i+(L-j))) (cap-(i+(L-j)))]).run Tryz.prog w1= .ok (.tuple #[]) w2):
 Calls Tryz.prog 55 #[.slice (some ⟨b,0,none⟩) L cap, .int .i64 i, .int .i64 j] w fun e w'=>e= .returned (.slice (some ⟨b,0,none⟩) (i+(L-j)) cap)∧w'=w2:=by
 have hne:¬(i:Int)=(j:Int):=or;have hic:i≤cap:=or;have hjc:j≤cap:=or;obtain⟨A,hA,hap⟩:∃A:Addr,(if cap=j then some (⟨b,0,none⟩:Addr) else some ⟨b,j*3,none⟩)=some A∧Hid (∀(ty:TypeId) (c:Nat),(Km #[55,55] ty #[.slice (some ⟨b,0,none⟩) i cap, .slice (some A) (L-j) c]).run Tryz.prog w.drew= .ok (.slice (some ⟨b,0,none⟩) (i+(L-j)) cap) w1):=by
  by_cases h:cap=j
  ·exact⟨⟨b,0,none⟩,by simp[h],fun ty c=>hap ty _ c (.inr or)⟩
  exact⟨⟨b,j*3,none⟩,by simp[h],fun ty c=>hap ty _ c (.inl rfl)⟩
 have mixed:Tryz.prog.follows .mixedOrders=true:=Zz;have hle:i≤j:=or;have hlt:i<L:=or;have hLi:¬L=i:=or;have hci:¬cap=i:=or;have hcm:¬cap=i+(L-j):=or;have hml:i+(L-j)≤L:=or;clear hij
 go_enter Tryz.func55,Tryz.ntmps55
 go_wp2_with fail
 go_region_law_o (refine rP .append rfl #[.tmp 22, .tmp 25] _ rfl _ (fun _=>rfl) (by simpa [Act.eval,Act.put] using hap.out _ _) ?_)
 go_wp2
 go_ret
 exact⟨rfl,rfl⟩
theorem dy(h:Hp)(n:Nat)(a b:Blk):(h.set n a).set n b=h.set n b:=by
 funext x;unfold Hp.set;split<;>rfl
theorem wN{K:Ker}{a b c:V}{cargs:Array Value}(hv:VRs K [a,b,c] cargs):∃x y z,cargs=#[x,y,z]∧VR K a x∧VR K b y∧VR K c z:=by
 obtain⟨hsz,hv⟩:=hv;have hsz:cargs.size=3:=by simpa using hsz.symm
 have h0:=hv 0 Zm;have h1:=hv 1 Zm;have h2:=hv 2 Zm;refine⟨_,_,_,?_,h0,h1,h2⟩;apply Array.ext
 ·simp[hsz]
 intro i hi _;have:i=0∨i=1∨i=2:=or;rcases this with rfl|rfl|rfl<;>simp[Array.getD,hsz]
set_option maxHeartbeats 1000000 in
set_option maxRecDepth 100000 in
theorem gn(n:Nat)(es:List V)(i:Nat)(h:Hp)(nx:Nat)(hn:h n=some (.arr (.agg 3) es))(hi:i<es.length):
 aX Tryz.prog 55 [.rs n (.agg 3) 0 es.length, .int .i64 i, .int .i64 (i+1:Nat)] h nx fun v h' _=>v= .rs n (.agg 3) 0 (es.length-1)∧h'=h.set n (.arr (.agg 3) (es.take i++es.drop (i+1)++[zvl])):=by
 refine⟨Zz,fun K cargs hlv hr hv=>?_⟩;obtain⟨x,y,z,rfl,v1,v2,v3⟩:=wN hv;obtain⟨i0,hi0,hs0,hz0⟩:=Ax;cases v2;cases v3;cases v1 with
 |rs _ _ _ _ cap hl hcap hm=>
  have hlt:=(hr.blk n _ hn).lt_size;obtain⟨cs,hc,hcl,hcr⟩:=qB hr.drew hn (o:=i+1) (m:=es.length-(i+1)) or;have hty:(es.drop (i+1)).take (es.length-(i+1))=es.drop (i+1):=List.take_of_length_le Zm;rw[hty] at hc;have hyl:(es.drop (i+1)).length=es.length-(i+1):=Zm;have hbl:=zJ (es:=es) (o:=i) (ys:=es.drop (i+1)) or;obtain⟨K1,q1,q2,q3,q4,q5,q6⟩:=lR (P:=Tryz.prog) hr.drew hn (o:=i) (ys:=es.drop (i+1)) or hc;have hn1:(h.set n (.arr (.agg 3) (mT es i (es.drop (i+1))))) n=some (.arr (.agg 3) (mT es i (es.drop (i+1)))):=by simp[Hp.set]
  have hK1:K.le K1:=K.le_drew.trans q2;have hmu1:K1.mu n=K.mu n:=hK1.mu n hl;obtain⟨T,m,hsh,hmm⟩:=hm;have vr1:VR K1 (.rs n (.agg 3) (es.length-1) 1) (.slice (some ⟨K1.mu n,(es.length-1)*3,none⟩) 1 (cap-(es.length-1))):=
   .rs n (.agg 3) (es.length-1) 1 (cap-(es.length-1)) (hK1.live n hl) or ⟨T,m,by rw[hmu1,hK1.shape _ hlt];exact hsh,by rw[←hmm];congr 1;omega⟩
  obtain⟨K2,c1,c2,c3,c4⟩:=sU (P:=Tryz.prog) q6 hn1 (off:=es.length-1) (ln:=1) or vr1 Tryz.underlying55 hi0 hz0 (AF K1) rfl 0;have e1:i+(es.length-(i+1))=es.length-1:=or;have e2:es.length-(es.length-1)=1:=or;refine(zc (K.mu n) es.length cap i (i+1) rfl or hcap K.w K1.w K2.w (fun ty A c hA=>?_) (fun ty=>?_)).mono ?_
  ·refine rY (P:=Tryz.prog) K.w.drew _ _ ty _ _ i0 (K.mu n) 0 i cap A (es.length-(i+1)) c cs Tryz.underlying55 Tryz.underlying55 hi0 (by rw[hcl,hs0];rfl) or (fun j u hj=>?_) ?_
   ·rcases hA with rfl|hA
    ·rw[Addr.add_lit];exact hcr j u hj
    have:cs=[]:=List.length_eq_zero_iff.1 (by rw[hcl,show es.length-(i+1)=0 by omega,KG]);rw[this] at hj;cases hj
   rw[hs0,Qr];exact q1
  ·rw[e1,e2,←hmu1];exact c1
  rintro e w' ⟨rfl,rfl⟩;have hK2:=hK1.trans c2;have vr:VR K (.rs n (.agg 3) 0 (es.length-1)) (.slice (some ⟨K.mu n,0,none⟩) (es.length-1) cap):=by
   have:=VR.rs (K:=K) n (.agg 3) 0 (es.length-1) cap hl or ⟨T,m,hsh,hmm⟩;rwa [KG] at this
  refine⟨K2,_,_,_,nx,rfl,rfl,hK2,by rw[e1];exact vr.mono hK2,?_,fun m hm=>?_,KL _,rfl,rfl⟩
  ·rw[dy] at c4;have:(mT es i (es.drop (i+1))).take (es.length-1)++List.replicate 1 zvl++(mT es i (es.drop (i+1))).drop (es.length-1+1)=es.take i++es.drop (i+1)++[zvl]:=by
    have hd:(mT es i (es.drop (i+1))).drop (es.length-1+1)=[]:=Ks or;have ht:(mT es i (es.drop (i+1))).take (es.length-1)=es.take i++es.drop (i+1):=by unfold mT;exact Ql (by simp;omega)
    rw[hd,ht,Qm];rfl
   rw[this] at c4;exact c4
  have h1:=c3 m hm;rw[q3] at h1;exact⟨hlv m h1, .inl h1⟩
set_option maxHeartbeats 4000000 in
set_option maxRecDepth 1000000 in
theorem Ai(b n cap i:Nat)(va:Addr)(vc:Nat)(hi:i<n)(hcap:n+1≤cap)(hn63:n≤1000000)(w w1 w2:World)
 (hov:∀lb cb,(callFunc 62 #[.slice (some va) 1 vc, .slice (some ⟨b,(i+1)*3,none⟩) lb cb]).run Tryz.prog w= .ok (.value (.bool false)) w)
 (hcp1:∀ty dc sc,(Ku #[55,55] ty #[.slice (some ⟨b,(i+1)*3,none⟩) (n+1-(i+1)) dc, .slice (some ⟨b,i*3,none⟩) (n+1-i) sc]).run Tryz.prog w.drew= .ok (goInt ((n-i:Nat):Int)) w1)
 (hcp2:∀ty dc,(Ku #[55,54] ty #[.slice (some ⟨b,i*3,none⟩) (n+1-i) dc, .slice (some va) 1 vc]).run Tryz.prog w1= .ok (goInt 1) w2):
 Calls Tryz.prog 34 #[.slice (some ⟨b,0,none⟩) n cap, .int .i64 i, .slice (some va) 1 vc] w fun e w'=>e= .returned (.slice (some ⟨b,0,none⟩) (n+1) cap)∧w'=w2:=by
 have mixed:Tryz.prog.follows .mixedOrders=true:=Zz;have hne:¬(i:Int)=(n:Int):=or;have hw1:IntKind.i64.wrap ((n:Int)+1)=(n:Int)+1:=by rw[IntKind.wrap_i64];omega
 have hw2:IntKind.i64.wrap ((i:Int)+1)=(i:Int)+1:=by rw[IntKind.wrap_i64];omega
 have hb1:(0:Int)≤(i:Int)+1:=or;have hb2:(0:Int)≤(n:Int)+1:=or;have hin:i≤n:=or;have ht1:((i:Int)+1).toNat=i+1:=or;have ht2:((n:Int)+1).toNat=n+1:=or;have hc1:¬(cap=i+1):=or;have hc2:¬(cap=i):=or;have hc3:(i:Int)+1≤(n:Int)+1:=or;have hc4:(i:Int)≤(n:Int)+1:=or;have hc5:(n:Int)+1≤(cap:Int):=or;have hc6:¬((cap:Int)<(n:Int)+1):=or;clear hi hcap
 go_enter Tryz.func34,Tryz.ntmps34
 go_wp2_with (simp only[hov])
 go_region_law_o (refine rP .copy rfl #[.tmp 73, .tmp 76] _ rfl _ (fun _=>rfl) (by simpa [Act.eval,Act.put] using hcp1 _ _ _) ?_)
 go_wp2_with (at_builtin;refine nR .copy rfl #[.tmp 80, .tmp 81] _ rfl _ (fun _=>rfl) (by simpa [Act.eval,Act.put] using hcp2 _ _) ?_)
 go_ret
 exact⟨rfl,rfl⟩
set_option maxHeartbeats 4000000 in
set_option maxRecDepth 1000000 in
theorem Aj(b n cap:Nat)(va:Addr)(vc:Nat)(hcap:n+1≤cap)(w w1:World)
 (hap:∀(ty:TypeId),(Km #[55,54] ty #[.slice (some ⟨b,0,none⟩) n cap, .slice (some va) 1 vc]).run Tryz.prog w= .ok (.slice (some ⟨b,0,none⟩) (n+1) cap) w1):
 Calls Tryz.prog 34 #[.slice (some ⟨b,0,none⟩) n cap, .int .i64 n, .slice (some va) 1 vc] w fun e w'=>e= .returned (.slice (some ⟨b,0,none⟩) (n+1) cap)∧w'=w1:=by
 have hc2:¬(cap=n):=or;clear hcap
 go_enter Tryz.func34,Tryz.ntmps34
 go_wp2_with (at_builtin;refine nR .append rfl #[.tmp 23, .tmp 24] _ rfl _ (fun _=>rfl) (by simpa [Act.eval,Act.put] using hap _) ?_)
 go_ret
 exact⟨rfl,rfl⟩
set_option maxHeartbeats 1000000 in
set_option maxRecDepth 100000 in
theorem fp(n m:Nat)(es:List V)(x:V)(i:Nat)(h:Hp)(nx:Nat)(hn:h n=some (.arr (.agg 3) es))(hm:h m=some (.arr (.agg 3) [x]))(hnm:m≠n)(hi:i<es.length)(hl:es.length≤1000000):
 aX Tryz.prog 34 [.rs n (.agg 3) 0 (es.length-1), .int .i64 i, .rs m (.agg 3) 0 1] h nx fun v h' _=>v= .rs n (.agg 3) 0 es.length∧h'=h.set n (.arr (.agg 3) (es.take i++[x]++(es.drop i).take (es.length-1-i))):=by
 refine⟨Zz,fun K cargs hlv hr hv=>?_⟩;obtain⟨c1,c2,c3,rfl,v1,v2,v3⟩:=wN hv;obtain⟨i0,hi0,hs0,hz0⟩:=Ax;cases v2;have hbn:=hr.blk n _ hn;have hbm:=hr.blk m _ hm;have hne:K.mu m≠K.mu n:=fun e=>hnm (hr.inj m n _ _ hm hn e);cases v1 with
 |rs _ _ _ _ cap hl1 hcap hsn=>
 cases v3 with
 |rs _ _ _ _ vc hl2 hvcap hsm=>
  obtain⟨T,M,hsh,hmm⟩:=hsn;obtain⟨T2,M2,hsh2,hmm2⟩:=hsm;have hlt:=hbn.lt_size
  --room
  have hroom:es.length≤cap:=by
   cases hbn with
   |arr _ _ c T' hh hcs _ _ _=>
    have:M=c.size:=by simp[World.shape?,hh] at hsh;exact hsh.2.symm
    simp only[Sh.size] at hmm hcs;omega
  have hMpos:M≠0:=by simp only[Sh.size] at hmm;omega
  have hfr:∀o,K.w.frozen? ⟨K.mu m,o,none⟩=false:=fun o=>by
   cases hbm with
   |arr _ _ c T' hh _ _ _ _=>simp only[World.frozen?,hh];simp
  have e1:es.length-1+1=es.length:=or;have hsz:(0:Nat)*(Sh.agg 3).size=0:=KG _;have vr:VR K (.rs n (.agg 3) 0 es.length) (.slice (some ⟨K.mu n,0,none⟩) es.length cap):=by
   have:=VR.rs (K:=K) n (.agg 3) 0 es.length cap hl1 hroom ⟨T,M,hsh,hmm⟩;rwa [KG] at this
  rcases KF i (es.length-1) with hlt1|hge
  ·obtain⟨cs,hc,hcl,hcr⟩:=qB hr.drew hn (o:=i) (m:=es.length-1-i) or;have hyl:((es.drop i).take (es.length-1-i)).length=es.length-1-i:=by simp;omega
   have hbl:=zJ (es:=es) (o:=i+1) (ys:=(es.drop i).take (es.length-1-i)) or;obtain⟨K1,q1,q2,q3,q4,q5,q6⟩:=lR (P:=Tryz.prog) hr.drew hn (o:=i+1) (ys:=(es.drop i).take (es.length-1-i)) or hc;have hn1:(h.set n (.arr (.agg 3) (mT es (i+1) ((es.drop i).take (es.length-1-i))))) n=some (.arr (.agg 3) (mT es (i+1) ((es.drop i).take (es.length-1-i)))):=by simp[Hp.set]
   have hm1:(h.set n (.arr (.agg 3) (mT es (i+1) ((es.drop i).take (es.length-1-i))))) m=some (.arr (.agg 3) [x]):=by simp only[Hp.set];rw[if_neg hnm];exact hm
   have hK1:K.le K1:=K.le_drew.trans q2;obtain⟨ds,hd,hdl,hdr⟩:=qB q6 hm1 (o:=0) (m:=1) Zm;simp only[KM,KS,Ky] at hd;obtain⟨K2,p1,p2,p3,p4,p5,p6⟩:=lR (P:=Tryz.prog) q6 hn1 (o:=i) (ys:=[x]) (by rw[hbl];simp;omega) hd;have hmuN:K1.mu n=K.mu n:=hK1.mu n hl1;have hmuM:K1.mu m=K.mu m:=hK1.mu m hl2;have hK2:=hK1.trans p2;refine(Ai (K.mu n) (es.length-1) cap i ⟨K.mu m,0*(Sh.agg 3).size,none⟩ vc hlt1 or or K.w K1.w K2.w (fun lb cb=>?_) (fun ty dc sc=>?_) (fun ty dc=>?_)).mono ?_
   ·rw[run_callFunc_extern Tryz.func62 Zz Zz Zz (e:=Extern.SlicesOverlaps.overlaps #[54,54] #[4]) Zz,
     Lib.run_overlaps_apart K.w 54 4 58 Tryz.underlying54 3 Tryz.sizeOf58 _ _ 1 vc lb cb hne T2 T M2 M hsh2 hsh hMpos (hfr _) (hfr _)]
    rfl
   ·refine wW (P:=Tryz.prog) K.w.drew _ _ ty _ i0 (K.mu n) ((i+1)*3) _ dc ⟨K.mu n,i*3,none⟩ _ sc (es.length-1-i) cs Tryz.underlying55 hi0 ?_ (by rw[hcl,hs0];rfl) (fun j u hj=>by rw[Addr.add_lit];exact hcr j u hj) q1;simp only[Qw];split<;>omega
   ·refine wW (P:=Tryz.prog) K1.w _ _ ty _ i0 (K.mu n) (i*3) _ dc _ _ vc 1 ds Tryz.underlying55 hi0 (by simp only[Qw];split<;>omega) (by rw[hdl,hs0];rfl) (fun j u hj=>by rw[Addr.add_lit];rw[hmuM] at hdr;exact hdr j u hj) (by rw[←hmuN];exact p1)
   rintro e w' ⟨rfl,rfl⟩;refine⟨K2,_,_,_,nx,rfl,rfl,hK2,by rw[e1];exact vr.mono hK2,?_,fun q hq=>?_,KL _,rfl,rfl⟩
   ·rw[dy] at p6;have:mT (mT es (i+1) ((es.drop i).take (es.length-1-i))) i [x]=es.take i++[x]++(es.drop i).take (es.length-1-i):=by
     generalize hys:(es.drop i).take (es.length-1-i)=ys at hyl hbl⊢;unfold mT;have h1:(es.take (i+1)).length=i+1:=by simp;omega
     have h2:es.drop (i+1+ys.length)=[]:=Ks or;rw[h2,Qm,List.take_append_of_le_length or,List.take_take,Qo or,List.length_singleton,List.drop_left' h1]
    rw[this] at p6;exact p6
   rw[p3,q3] at hq;exact⟨hlv q hq, .inl hq⟩
  have hie:i=es.length-1:=or;subst hie;obtain⟨ds,hd,hdl,hdr⟩:=qB hr hm (o:=0) (m:=1) Zm;simp only[KM,KS,Ky] at hd;obtain⟨K1,q1,q2,q3,q4,q5,q6⟩:=lR (P:=Tryz.prog) hr hn (o:=es.length-1) (ys:=[x]) (by simp;omega) hd;refine(Aj (K.mu n) (es.length-1) cap ⟨K.mu m,0*(Sh.agg 3).size,none⟩ vc or K.w K1.w (fun ty=>?_)).mono ?_
  ·refine rY (P:=Tryz.prog) K.w _ _ ty _ _ i0 (K.mu n) 0 (es.length-1) cap _ 1 vc ds Tryz.underlying55 Tryz.underlying54 hi0 (by rw[hdl,hs0];rfl) or (fun j u hj=>by rw[Addr.add_lit];exact hdr j u hj) (by rw[hs0,Qr];exact q1)
  rintro e w' ⟨rfl,rfl⟩;refine⟨K1,_,_,_,nx,rfl,rfl,q2,by rw[e1];exact vr.mono q2,?_,fun q hq=>?_,KL _,rfl,rfl⟩
  ·have:mT es (es.length-1) [x]=es.take (es.length-1)++[x]++(es.drop (es.length-1)).take (es.length-1-(es.length-1)):=by
    unfold mT;rw[Ks (by simp;omega),Nat.sub_self,Ky]
   rw[this] at q6;exact q6
  rw[q3] at hq;exact⟨hlv q hq, .inl hq⟩
end Go.Proofs.YtjfdoohogiojcaaGreatDoor
namespace Go.Proofs.YtjfdoohogiojcaaGreatDoor
open Go.RowKit Go.Sort
abbrev bC(c:Nat)(t:List Vl):List Vl:=t.eraseIdx c
def iA(c:Nat)(k:List Vl)(l:List (List Vl)):List Vl:=(l.filter fun s=>decide (bC c s=k)).map fun s=>s.getD c eD
def sC(c:Nat)(k:List Vl)(l:List (List Vl)):List (List Vl):=l.filter fun s=> !decide (bC c s=k)
def tN(g:Int)(c:Nat):Nat→List (List Vl)→List (List Vl)→List (List Vl)×Int
 |0,out,_=>(bL bK out,0)
 |_+1,out,[]=>(bL bK out,0)
 |n+1,out,t::l=>if (dD g (iA c (bC c t) (t::l))).2≠0 then ([],(dD g (iA c (bC c t) (t::l))).2)
  else tN g c n (out++[t.set c (dD g (iA c (bC c t) (t::l))).1]) (sC c (bC c t) (t::l))
theorem xJ(c:Nat)(t:List Vl)(l:List (List Vl)):sC c (bC c t) (t::l)=l.filter fun s=> !decide (bC c s=bC c t):=by
 unfold sC;rw[KH];simp
theorem pO(c:Nat)(t:List Vl)(l:List (List Vl)):(sC c (bC c t) (t::l)).length≤l.length:=by
 rw[xJ];exact List.length_filter_le _ _
theorem bk(g:Int)(c:Nat):∀n m out l,l.length≤n→l.length≤m→tN g c n out l=tN g c m out l
 |0,0,out,l,_,_=>rfl
 |0,m+1,out,[],_,_=>rfl
 |0,m+1,out,t::l,h,_=>by simp at h
 |n+1,0,out,[],_,_=>rfl
 |n+1,0,out,t::l,_,h=>by simp at h
 |n+1,m+1,out,[],_,_=>rfl
 |n+1,m+1,out,t::l,h1,h2=>by
  have:=pO c t l;simp only[Kp] at h1 h2;rw[tN,tN,bk g c n m _ _ or or]
def lK(g:Int)(c:Nat)(out l:List (List Vl)):List (List Vl)×Int:=tN g c l.length out l
theorem bo(g:Int)(c:Nat)(out:List (List Vl)):lK g c out []=(bL bK out,0):=rfl
theorem bp{g:Int}{c:Nat}{out l:List (List Vl)}{t:List Vl}(h:(dD g (iA c (bC c t) (t::l))).2≠0):lK g c out (t::l)=([],(dD g (iA c (bC c t) (t::l))).2):=by
 unfold lK;rw[Kp,tN,if_pos h]
theorem xC{g:Int}{c:Nat}{out l:List (List Vl)}{t:List Vl}(h:(dD g (iA c (bC c t) (t::l))).2=0):lK g c out (t::l)=lK g c (out++[t.set c (dD g (iA c (bC c t) (t::l))).1]) (sC c (bC c t) (t::l)):=by
 unfold lK;rw[Kp,tN,if_neg (by simpa using h)];exact bk g c _ _ _ _ (pO c t l) (KL _)
def bP(g col:Int)(rows:List (List Vl)):List (List Vl)×Int:=
 if g<0∨4<g then ([],1)
 else if 0<g∧¬(∀t∈rows,0≤col∧col<t.length) then ([],1)
 else if g=0 then (bL bK rows,0)
 else lK g col.toNat [] (bL bK rows)
def nM(c:Nat)(all:List (List Vl))(i:Nat):List (List Vl):=(all.drop i).filter fun t=>decide (∀s∈all.take i,bC c s≠bC c t)
theorem o9(c:Nat)(all:List (List Vl)):nM c all 0=all:=by
 unfold nM;simp
theorem t6{c:Nat}{all:List (List Vl)}{i:Nat}(hi:i<all.length)(h:∃s∈all.take i,bC c s=bC c all[i]):nM c all (i+1)=nM c all i:=by
 obtain⟨s0,hs0,he⟩:=h;unfold nM;rw[KD hi,KH]
 ·refine KE fun t _=>?_;rw[Kg hi];congr 1;rw[eq_iff_iff];constructor
  ·intro h s hs;exact h s (KO _ hs)
  intro h s hs;rcases Kx.1 hs with k|k
  ·exact h s k
  have:s=all[i]:=by simpa using k
  subst this;rw[←he];exact h s0 hs0
 simp only[decide_eq_true_eq];exact fun k=>k s0 hs0 he
theorem b9{c:Nat}{all:List (List Vl)}{i:Nat}(hi:i<all.length)(h:∀s∈all.take i,bC c s≠bC c all[i]):
 ∃l,nM c all i=all[i]::l∧iA c (bC c all[i]) (all[i]::l)=iA c (bC c all[i]) all∧nM c all (i+1)=sC c (bC c all[i]) (all[i]::l):=by
 have hd:=KD hi;have ht:=Kg hi;obtain⟨x,hx⟩:∃x,all[i]=x:=⟨_,rfl⟩;rw[hx] at hd ht h⊢;refine⟨(all.drop (i+1)).filter fun t=>decide (∀s∈all.take i,bC c s≠bC c t),?_,?_,?_⟩
 ·unfold nM;rw[hd,Kq (by simpa using h)]
 ·unfold iA;congr 1;conv=>rhs;rw[←List.take_append_drop i all,hd]
  have h0:(all.take i).filter (fun s=>decide (bC c s=bC c x))=[]:=List.filter_eq_nil_iff.2 fun s hs=>by simpa using h s hs
  rw[List.filter_append,h0,KI,Kq Zm,Kq Zm,KV];congr 1;refine KE fun t _=>?_;by_cases e:bC c t=bC c x
  ·simp only[e,decide_true,Bool.true_and,decide_eq_true_eq];exact h
  simp[e]
 rw[xJ,KV];unfold nM;refine KE fun t _=>?_;rw[ht,←decide_not,←Bool.decide_and];congr 1;rw[eq_iff_iff];constructor
 ·intro k;exact⟨fun e=>k x Zm e.symm,fun s hs=>k s (KO _ hs)⟩
 rintro⟨k1,k2⟩ s hs;rcases Kx.1 hs with q|q
 ·exact k2 s q
 rw[List.mem_singleton.1 q];exact fun e=>k1 e.symm
theorem t7(c:Nat)(all:List (List Vl)):nM c all all.length=[]:=by
 unfold nM;simp
theorem nh{c:Nat}{s t:List Vl}(hs:c<s.length)(ht:c<t.length)(h:bC c s=bC c t):t.set c (s.getD c eD)=s:=by
 have h1:s.length=t.length:=by
  have:=congrArg Qv h;rw[Kw,Kw] at this;rw[if_pos hs,if_pos ht] at this;omega
 apply List.ext_getElem
 ·simp[h1]
 intro i a b;rw[List.getElem_set];split
 ·rename_i e;subst e;rw[Kd,Kh hs];rfl
 rename_i e;simp only[bC,Kt] at h;have hl:(s.take c).length=(t.take c).length:=by simp[h1]
 obtain⟨e1,e2⟩:=List.append_inj h hl;have hi:i<t.length:=by simpa using a
 rcases KF i c with k|k
 ·have p1:s[i]=(s.take c)[i]'(by simp;omega):=Zm;have p2:t[i]=(t.take c)[i]'(by simp;omega):=Zm;rw[p1,p2];congr 1;exact e1.symm
 have p1:s[i]=(s.drop (c+1))[i-(c+1)]'(by simp;omega):=by simp[show c+1+(i-(c+1))=i by omega]
 have p2:t[i]=(t.drop (c+1))[i-(c+1)]'(by simp;omega):=by simp[show c+1+(i-(c+1))=i by omega]
 rw[p1,p2];congr 1;exact e2.symm
theorem rm{α:Type}{c:α→α→Int}(h:C3 c){x:α}:∀{l:List α} {k:Nat},k≤l.length→(∀y∈l.take k,c y x<0)→(∀hk:k<l.length,¬c l[k] x<0)→x∉l→jY c x l=l.take k++x::l.drop k
 | [],k,hk,_,_,_=>by
  have:k=0:=by simpa using hk
  subst this;rfl
 |y::l,0,_,_,h2,h3=>by
  have h2:=h2 Zm;simp only[List.getElem_cons_zero] at h2;have hne:c y x≠0:=fun e=>h3 (by simp[(h.eq _ _).1 e]);rw[jY,if_pos (h.pos hne h2)];rfl
 |y::l,k+1,hk,h1,h2,h3=>by
  have hy:c y x<0:=h1 y Zm;have n1:¬c x y<0:=fun e=>by have:=(h.aC8 _ _).1 e;omega
  have n2:c x y≠0:=fun e=>by rw[(h.eq _ _).1 e,h.self] at hy;omega
  rw[jY,if_neg n1,if_neg n2,rm h (k:=k) (by simpa using hk) (fun z hz=>h1 z (by simp[hz])) (fun hk=>by have:=h2 (by simpa using hk);simpa using this) (fun e=>h3 (by simp[e]))];rfl
structure lA(l:List Vl)(i:Nat)(many sum:Int)(low high:Vl):Prop where
 many:many=(bL dQ (l.take i)).length
 sum:sum=lB (bL dQ (l.take i))
 aKr:low∈l
 aQL:∀z∈l.take i,¬dQ z low<0
 aHL:high∈l
 aHM:∀z∈l.take i,¬dQ high z<0
theorem lA.zero{l:List Vl}{x:Vl}(hx:x∈l):lA l 0 0 0 x x:=⟨rfl,rfl,hx,Zm,hx,Zm⟩
theorem lA.step{l:List Vl}{i:Nat}{many sum:Int}{low high:Vl}(f:lA l i many sum low high)(hi:i<l.length):
 lA l (i+1) (if l[i]∈l.take i then many else many+1) (if l[i]∈l.take i then sum else sum+l[i].n) (if decide (dQ l[i] low<0)=true then l[i] else low) (if decide (dQ high l[i]<0)=true then l[i] else high):=by
 have h1:=xg c3V hi f.aKr f.aQL;have h2:=um c3V hi f.aHL f.aHM;refine⟨?_,?_,h1.1,h1.2,h2.1,h2.2⟩
 ·rw[Kg hi,sj c3V,f.many];split<;>simp
 rw[Kg hi,sh,f.sum];split<;>simp
theorem lA.done{l:List Vl}{g:Int}{many sum:Int}{low high:Vl}(f:lA l l.length many sum low high)(hg:¬(g<1∨4<g))(hr:∀x∈l,cF x=true)(hs:g=2→∀x∈l,x.k=1):
 dD g l=if g=3 then (low,0) else if g=4 then (high,0) else ofV (if g=1 then many else sum):=by
 have hne:l≠ []:=fun e=>by have:=f.aKr;rw[e] at this;cases this
 have hf:=f.many;have hfs:=f.sum;have hl:=f.aQL;have hh:=f.aHM;rw[Qg] at hf hfs hl hh;have hs2:=bR c3V l;have q3:(bL dQ l).headD eD=low:=wn c3V hs2.1 ((hs2.2 _).2 f.aKr) fun z hz=>hl z ((hs2.2 z).1 hz);have q4:(bL dQ l).getLastD eD=high:=wm c3V hs2.1 ((hs2.2 _).2 f.aHL) fun z hz=>hh z ((hs2.2 z).1 hz);unfold dD;rw[if_neg hg,if_neg hne,if_neg (fun k=>k hr),if_neg (fun k=>k.2 (hs k.1)),q3,q4,←hf,←hfs];by_cases g1:g=1
 ·subst g1;rfl
 rw[if_neg g1,if_neg g1]
end Go.Proofs.YtjfdoohogiojcaaGreatDoor
namespace Go.Proofs.YtjfdoohogiojcaaGreatDoor
open Go.RowKit Go.Sort
attribute [local irreducible] IntKind.wrap
theorem qL:aF Tryz.prog 59=some (LB.ContainsFunc (.agg 3) 88):=Zz
theorem xR:aF Tryz.prog 88=some (LB.aAo (.agg 3)):=Zz
theorem xS:aF Tryz.prog 54=some (LB.aFH (.agg 3) 32):=Zz
theorem pm(x:Vl)(h:Hp):aO Tryz.prog 56 [x.v] h (.bool (!cF x)):=by
 refine aI (fun L=>trivial) fun h' nx hh=>aB L.aS4 fun hd=>?_;simp only[jL,jM,jA,jB,jN,jO,jP,jQ,Kc];have C1:=fun h=>lF x h;refine aue (e2 Vl.v.eq_1 Ka) ?_;exact aC h' (leo hd) ⟨rfl,rfl⟩
theorem pl(x:Vl)(h:Hp):aO Tryz.prog 58 [x.v] h (.bool (x.k != 1)):=by
 refine aI (fun L=>trivial) fun h' nx hh=>aB L.aS2 fun hd=>?_;simp only[jL,jM,jA,jB,jN,jO,jP,jQ,Kc];refine aue Vl.v.eq_1 ?_;exact aC h' (leo hd) ⟨rfl,rfl⟩
theorem bc(l:List Vl)(i:Nat)(h:i<l.length):lB (l.take (i+1))=lB (l.take i)+l[i].n:=by
 rw[Kg h];simp only[lB,Qp,List.sum_append,List.map_cons,Qt,List.sum_cons,Qu,Int.add_zero]
set_option maxHeartbeats 2000000 in
theorem uu(g:Int)(o:Own)(l:List Vl)(hl:l.length≤1000000)(h:Hp):aO Tryz.prog 33 [.int .i64 g,vls o l] h (.tup [(dD g l).1.v,gY (dD g l).2]):=by
 refine aI (fun L=>⟨Ke L _,by unfold gY;split<;>simp[V.names],trivial⟩) fun h' nx hh=>aB L.aTZ fun hd=>?_;simp only[jL,jM,jA,jB,jN,jO,jP,jQ,Kc];have C1:=fun h=>fZ Kb Ka qL xR (fun x=> !cF x) o l 56 [] h (fun x _=>pm x h) or;have C2:=fun h=>fZ Kb Ka qL xR (fun x=>x.k != 1) o l 58 [] h (fun x _=>pl x h) or;have C3:=fun h=>si o l hl h;have hml:(l.map Kb).length=l.length:=jK ..;unfold dD;by_cases h1:g<1
 ·have c1:decide (g<1)=true:=dct;refine aue c1 ?_;refine aL (by simp only[go_sem,reduceIte,jA,jB,jC,jD,reduceCtorEq,jE,jF]) h' (leo hd) ⟨?_,rfl⟩;refine Zn ?_;rw[if_pos (.inl h1)];rfl
 have c1:decide (g<1)=false:=dcf;by_cases h2:4<g
 ·have c2:decide (4<g)=true:=dct;refine aue (e2 c1 c2) ?_;refine aL (by simp only[go_sem,reduceIte,jA,jB,jC,jD,reduceCtorEq,jE,jF]) h' (leo hd) ⟨?_,rfl⟩;refine Zn ?_;rw[if_pos (.inr h2)];rfl
 have c2:decide (4<g)=false:=dcf;rw[if_neg or];by_cases h3:l=[]
 ·have c3:((l.length:Int)==0)=true:=by rw[h3];rfl
  refine aue (e4 c1 c2 c3 hml) ?_;refine aL (by simp only[go_sem,reduceIte,jA,jB,jC,jD,reduceCtorEq,jE,jF]) h' (leo hd) ⟨?_,rfl⟩;refine Zn ?_;rw[if_pos h3];rfl
 have c3:((l.length:Int)==0)=false:=bqf (by have:=KT.2 h3;omega);rw[if_neg h3];cases h4:l.any fun x=> !cF x with
 |true=>
  rw[h4] at C1;have:¬∀x∈l,cF x=true:=fun k=>by
   obtain⟨x,hx,hx2⟩:=Qh.1 h4;simp[k x hx] at hx2
  refine aue (e4 c1 c2 c3 hml) ?_;refine aL (by simp only[go_sem,reduceIte,jA,jB,jC,jD,reduceCtorEq,jE,jF]) h' (leo hd) ⟨?_,rfl⟩;refine Zn ?_;rw[if_pos this];rfl
 |false=>
 rw[h4] at C1;have aAh:∀x∈l,cF x=true:=fun x hx=>by
  have:=(Qa.1 h4) x hx;simpa using this
 rw[if_neg (fun k=>k aAh)];obtain⟨s,hs⟩:∃s,bL dQ l=s:=⟨_,rfl⟩;have hsl:s.length≤l.length:=by rw[←hs];exact dV l
 have hsn:s≠ []:=fun e=>h3 ((rV c3V l).1 (hs.trans e));have hsp:0<s.length:=KT.2 hsn;have hsr:∀x∈s,cF x=true:=fun x hx=>aAh x (((bR c3V l).2 x).1 (hs▸hx));rw[hs] at C3⊢;obtain⟨os,hos⟩:=iR (.agg 3) (s.map Kb);rw[hos] at C3;have hms:(s.map Kb).length=s.length:=jK ..;by_cases h5:g=2∧¬∀x∈l,x.k=1
 ·have c4:(g==2)=true:=bqt h5.1;have:(l.any fun x=>x.k != 1)=true:=by
   cases k:l.any fun x=>x.k != 1 with
   |true=>rfl
   |false=>exact absurd (fun x hx=>by simpa using(Qa.1 k) x hx) h5.2
  rw[this] at C2;refine aue (e5 c1 c2 c3 hml c4) ?_;refine aL (by simp only[go_sem,reduceIte,jA,jB,jC,jD,reduceCtorEq,jE,jF]) h' (leo hd) ⟨?_,rfl⟩;refine Zn ?_;rw[if_pos h5];rfl
 rw[if_neg h5];by_cases g1:g=1
 ·subst g1;have C4:=fun h=>g8 s.length h;have c5:((1:Int)==2)=false:=ZM;have c6:((1:Int)==1)=true:=ZM;refine aue (e8 c1 c2 c3 hml c5 c6 hms Ka) ?_;refine aL (by simp only[Ka,aQ (Ka _),go_sem,reduceIte,jA,jB,jC,jD,reduceCtorEq,jE,jF]) h' (leo hd) ⟨?_,rfl⟩;simp only[Ka,aQ (Ka _),go_sem,reduceIte,jA,jB,jC,jD,reduceCtorEq,jE,jF]
 have c6:(g==1)=false:=bqf;rw[if_neg g1]
 --the sum's test of symbols
 have c7:g=2→(l.any fun x=>x.k != 1)=false:=fun e=>by
  cases k:l.any fun x=>x.k != 1 with
  |false=>rfl
  |true=>
   obtain⟨x,hx,hx2⟩:=Qh.1 k;refine absurd ⟨e,fun q=>?_⟩ h5;simp[q x hx] at hx2
 by_cases g3:g=3
 ·subst g3;have c5:((3:Int)==2)=false:=ZM;have c8:((3:Int)==3)=true:=ZM;have hg0:(s.map Kb).getD 0 (.tup [])=(s.headD eD).v:=by
   cases s with
   |nil=>exact absurd rfl hsn
   |cons x s=>rfl
  refine aue (e11 c1 c2 c3 hml c5 c6 hms Ka c8 hg0 hsp) ?_;refine aL (by simp only[Ka,aQ (Ka _),go_sem,reduceIte,jA,jB,jC,jD,reduceCtorEq,jE,jF]) h' (leo hd) ⟨?_,rfl⟩;simp only[Ka,aQ (Ka _),go_sem,reduceIte,jA,jB,jC,jD,reduceCtorEq,jE,jF];rfl
 have c8:(g==3)=false:=bqf;rw[if_neg g3];by_cases g4:g=4
 ·subst g4;have c5:((4:Int)==2)=false:=ZM;have c9:((4:Int)==4)=true:=ZM;have hlt:s.length-1<s.length:=or;have hw:IntKind.i64.wrap ((s.length:Int)-1)=((s.length-1:Nat):Int):=wrp;have hg0:(s.map Kb).getD (s.length-1) (.tup [])=(s.getLastD eD).v:=by
   rw[aR Kb s _ hlt];rw[List.getLastD_eq_getLast?,List.getLast?_eq_getElem?,Kh hlt];rfl
  refine aue (e14 c1 c2 c3 hml c5 c6 hms Ka c8 hg0 hlt hw c9 jG) ?_;refine aL (by simp only[Ka,aQ (Ka _),go_sem,reduceIte,jA,jB,jC,jD,reduceCtorEq,jE,jF]) h' (leo hd) ⟨?_,rfl⟩;simp only[Ka,aQ (Ka _),go_sem,reduceIte,jA,jB,jC,jD,reduceCtorEq,jE,jF];rfl
 have c9:(g==4)=false:=bqf;rw[if_neg g4];have g2:g=2:=or;have c5:(g==2)=true:=bqt;rw[c7 g2] at C2;refine aue (e10 c1 c2 c3 hml c5 c6 hms Ka c8 c9) ?_;clear C1 C2 C3
 refine aT (fun i:Nat=>aD 81 0 [(4, .ptr nx (.agg 3) 0 0),(9, .int .i64 (lB (s.take i))),(66, .sl (.agg 3) os (s.map Kb)),(67, .int .i64 s.length),(68, .int .i64 i)])
  (fun i hp nx1=>i≤s.length∧nx+1≤nx1∧aW hp nx1∧Hp.same nx h' hp∧hp nx=some (.arr (.agg 3) [zvl]))
  (fun i=>s.length-i) 0 ⟨Nat.zero_le _,ZN,dmo hd,kep Hp.same.aAt,by simp[Hp.set,zvl,Kb]⟩ (by simp only[WkL,aD,jH,jI,jJ,Ky,lB,Qt,Qu,go_sem,reduceIte,jA,jB,jC,jD,reduceCtorEq,jE,jF]) ?_
 rintro i hp nx1 ⟨hi,hnx,hdm,hsm,hbx⟩;generalize hQ:bB _ _ _ _ _=Q0;simp only[aD,go_sem,reduceIte,jA,jB,jC,jD,reduceCtorEq,jE,jF];have hbound:∀i,i≤s.length→-2147483647000000≤lB (s.take i)∧lB (s.take i)≤2147483647000000:=fun i hi=>by
  have:=qV (s.take i) fun x hx=>rZ (hsr x (Kv hx));rw[Qf,Qo hi] at this;omega
 rcases KF i s.length with hlt|hge
 ·have hc:decide ((i:Int)<(s.length:Int))=true:=dct;have hg:(s.map Kb).getD i (.tup [])= .agg [.int .i64 s[i].k, .int .i64 s[i].n, .str s[i].s]:=aR Kb s i hlt;have hw:IntKind.i64.wrap ((i:Int)+1)=((i+1:Nat):Int):=wrp;have hb1:=hbound i hi;have hb2:=hbound (i+1) hlt;rw[bc s i hlt] at hb2;have hw2:IntKind.i64.wrap (lB (s.take i)+s[i].n)=lB (s.take (i+1)):=by rw[bc s i hlt];exact wrp
  refine aue (e8 hc hg hw hlt hw2 (@jK Vl V) jG Ka) ?_;rw[←hQ];refine aH (i+1) or ⟨hlt,or,dmo hdm,kep hsm,?_⟩ (by simp only[WkL,aD,jH,jI,jJ,hw,hw2,go_sem,reduceIte,jA,jB,jC,jD,reduceCtorEq,jE,jF]);simp only[Hp.aAL];repeat rw[if_neg or]
  exact hbx
 have hc:decide ((i:Int)<(s.length:Int))=false:=dcf;have hie:i=s.length:=or;have hb1:=hbound i hi;subst hie;rw[Qg] at hb1⊢;have C1:=fun h=>g8 (lB s) h;have hzf:Kf (.agg 3) zvl=true:=rfl;have aLJ:nx<nx1:=or;refine aue hc ?_;rw[←hQ];refine aue (e4 hbx aLJ Ka hzf) ?_;refine aL (by simp only[Ka,aQ (Ka _),aV hzf (Ka _),go_sem,reduceIte,jA,jB,jC,jD,reduceCtorEq,jE,jF]) h' (lef hd (hsm.le hd (Hp.le_refl _))) ⟨?_,rfl⟩;simp only[Ka,aQ (Ka _),aV hzf (Ka _),go_sem,reduceIte,jA,jB,jC,jD,reduceCtorEq,jE,jF]
theorem zg(o:Own)(t:List Vl)(hl:t.length≤1000000)(ho:o≠ .nil)(hne:t≠ [])(h:Hp)(nx:Nat):aX Tryz.prog 30 [vls o t] h nx fun v h' _=>∃id,nx≤id∧v= .rs id (.agg 3) 0 t.length∧h'=h.set id (.arr (.agg 3) (t.map Kb)):=by
 refine aB L.aQv fun hd=>?_;simp only[jL,jM,jA,jB,jN,jO,jP,jQ,Kc];refine au ?_;refine bG ((vf xS or o (t.map Kb) (by simp;omega) ho (by simpa using hne) _ _).mono ?_);rintro v h2 nx2 _ ⟨id,hid,rfl,rfl⟩;unfold dF;refine Zn ?_;refine au ?_;exact aC _ (Hp.le_refl _) ⟨id,hid,by simp only[jK,go_sem,reduceIte,jA,jB,jC,jD,reduceCtorEq,jE,jF],rfl⟩
theorem u9(p:TR)(hl:p.2.length≤1000000)(hok:p.ok)(h:Hp):aO Tryz.prog 30 [p.v] h p.v:=by
 obtain⟨o,t⟩:=p;dsimp only at hl;have hlo:(V.sl (.agg 3) o (t.map Kb)).loose=V.sl (.agg 3) o (t.map Kb):=by
  rcases hok with⟨h1,h2⟩|h1
  ·dsimp only at h1 h2;subst h1 h2;rfl
  dsimp only at h1;subst h1;rfl
 refine aI (fun L=>TR.names hok L) fun h' nx hh=>aB L.aQv fun hd=>?_;simp only[jL,jM,jA,jB,jN,jO,jP,jQ,Kc];have C1:=fun h=>qe xS or o (t.map Kb) (by simp;omega) (fun e=>by
  rcases hok with⟨_,h2⟩|h1
  ·dsimp only at h2;rw[h2];rfl
  dsimp only at h1;rw[h1] at e;cases e) (fun L=>cN (fun x=>Ke L x) _) h
 rw[hlo] at C1;refine aue TR.v.eq_1 ?_;exact aC h' (leo hd) ⟨rfl,rfl⟩
theorem qF(o:Own)(t:List Vl)(hl:t.length≤1000000)(ho:o≠ .nil)(c:Nat)(hc:c<t.length)(h:Hp)(nx:Nat):aX Tryz.prog 31 [vls o t, .int .i64 c] h nx fun v h' _=>∃id,nx≤id∧v= .rs id (.agg 3) 0 (bC c t).length∧h'=h.set id (.arr (.agg 3) ((bC c t).map Kb++[zvl])):=by
 refine aB L.aTb fun hd=>?_;simp only[jL,jM,jA,jB,jN,jO,jP,jQ,Kc];refine au ?_;refine bG ((zg o t hl ho (by rintro rfl;simp at hc) _ _).mono ?_);rintro v h2 nx2 aEq ⟨id,hid,rfl,rfl⟩;unfold dF;refine Zn ?_;have hw:IntKind.i64.wrap ((c:Int)+1)=((c+1:Nat):Int):=wrp;refine aue hw ?_;have hml:t.length=(t.map Kb).length:=(jK ..).symm;rw[hml];refine bG ((gn id (t.map Kb) c _ _ (by simp[Hp.set]) (by simpa using hc)).mono ?_);rintro v h3 nx3 aF2 ⟨rfl,rfl⟩;unfold dF;refine Zn ?_;refine au ?_;refine aC (h.set id (.arr (.agg 3) ((bC c t).map Kb++[zvl]))) ?_ ⟨id,hid,?_,rfl⟩
 ·rw[dy];have:(t.map Kb).take c++(t.map Kb).drop (c+1)++[zvl]=(bC c t).map Kb++[zvl]:=by
   rw[bC,Kt,Qp,List.map_take,List.map_drop]
  rw[this];exact Hp.le_refl _
 simp only[bC,Kw,if_pos hc,jK,go_sem,reduceIte,jA,jB,jC,jD,reduceCtorEq,jE,jF]
theorem dj(o:Own)(t:List Vl)(hl:t.length≤1000000)(ho:o≠ .nil)(c:Nat)(hc:c<t.length)(h:Hp):aO Tryz.prog 31 [vls o t, .int .i64 c] h (vls .free (bC c t)):=by
 refine aI (fun L=>pG _ Zm L) fun h' nx hh=>((qF o t hl ho c hc h' nx).frz (R':=fun v' h''=>v'=vls .free (bC c t)∧h''=h') ?_);rintro v h2 nx2 ⟨id,hid,rfl,rfl⟩;refine .inr ⟨_,id,_,_,rfl,hid,Zm,rfl,?_,rfl⟩;rw[Ql Zm]
end Go.Proofs.YtjfdoohogiojcaaGreatDoor
