/-
Texts of this proof,one behind the other. No conditions.
-/
import Derived.Shelf.SlSortCmp.WholeK
import Derived.Shelf.SlSortCmp.NoneTotal
import Derived.Shelf.SlSortCmp.Whole1
import Derived.Test.YtecepaehmojpgaaGreatProg
import Derived.Shelf.SlMaps.Clone
import Derived.Test.YtecepaehmojpgaaGreatNd
import Derived.Test.YtecepaehmojpgaaGreatNf
import Derived.Test.YtecepaehmojpgaaGreatNe
open Go.Proofs.YtecepaehmojpgaaGreat.Pa renaming v→Ka,aAC→Kb,aAO→Kg,ok→Kh
open Go.Proofs.YtecepaehmojpgaaGreat.Hp renaming le_refl→Kc,set→Ke,none→Kk
open Go.Proofs.YtecepaehmojpgaaGreat.V renaming undef→Kd,names→Kf
open List renaming getD_eq_getElem?_getD→Ki,replicate→Km,mem_singleton→Ko,getElem?_eq_getElem→Kp,map_cons→Kq,map_nil→Kt,mem_append→Ku,pairwise_cons→Kv,getElem_range→Kw,length_eq_zero_iff→Kx,take_succ_eq_append_getElem→Ky,ext_getElem→Kz,getElem_map→KB,any_eq_true→KE,getElem_mem→KF,getElem?_replicate→KG,take_of_length_le→KH,length_replicate→KJ,sum_cons→KK,length_append→KL,getElem_set→KM,take_length→KN,map_append→KP,mem_cons→KQ,range→KT
open Nat renaming le_refl→Kj,le_trans→KC,lt_or_ge→KR,zero_le→KS
open Go.IntKind renaming i64→Ks,wrap→KI
open Bool renaming and_eq_true→KD,eq_iff_iff→KO
open Nat renaming reduceAdd→jA,reduceSub→jB,reduceLT→jC,reduceLeDiff→jD,reduceEqDiff→jE
open Int renaming reduceToNat→jF,toNat_natCast→jG,natCast_add→jH,natCast_one→jI,natCast_zero→jJ
open List renaming length_map→jK,length_cons→jL,length_nil→jM,replicate_succ→jN,replicate_zero→jO,cons_append→jP,nil_append→jQ
set_option linter.unusedSimpArgs false
set_option linter.unusedVariables false
set_option linter.unusedSectionVars false
set_option maxHeartbeats 8000000
namespace Go.Proofs.YtecepaehmojpgaaGreat
open Go.Shelf
def uw:Go.Shelf.Ren:=⟨fun|6=>153|15=>147|14=>183|28=>164|29=>165|20=>195|21=>196|22=>197|23=>198|24=>199|25=>200|26=>201|27=>202|46=>206|47=>185|48=>186|49=>207|50=>208|57=>209|n=>n,fun|22=>84|24=>35|25=>210|3=>3|39=>230|0=>0|53=>245|55=>247|4=>4|46=>239|45=>238|50=>170|5=>5|9=>9|66=>260|70=>264|76=>275|77=>276|n=>n,fun|n=>n⟩
theorem Di:Go.Proofs.SlLaysF0.n6 Tryz.prog uw:={
 mixed:=Zz
 f6:=⟨Tryz.f153.name,ZM,Tryz.func153.trans (congrArg some Zz)⟩
 f14:=⟨Tryz.f183.name,ZM,Tryz.func183.trans (congrArg some Zz)⟩
 f15:=Tryz.func147.trans (congrArg some Zz)
 f20:=⟨Tryz.f195.name,ZM,Tryz.func195.trans (congrArg some Zz)⟩
 f21:=⟨Tryz.f196.name,ZM,Tryz.func196.trans (congrArg some Zz)⟩
 f22:=⟨Tryz.f197.name,ZM,Tryz.func197.trans (congrArg some Zz)⟩
 f23:=⟨Tryz.f198.name,ZM,Tryz.func198.trans (congrArg some Zz)⟩
 f24:=⟨Tryz.f199.name,ZM,Tryz.func199.trans (congrArg some Zz)⟩
 f25:=⟨Tryz.f200.name,ZM,Tryz.func200.trans (congrArg some Zz)⟩
 f26:=⟨Tryz.f201.name,ZM,Tryz.func201.trans (congrArg some Zz)⟩
 f27:=⟨Tryz.f202.name,ZM,Tryz.func202.trans (congrArg some Zz)⟩
 f28:=Tryz.func164.trans (congrArg some Zz)
 f29:=Tryz.func165.trans (congrArg some Zz)
 f46:=⟨Tryz.f206.name,ZM,Tryz.func206.trans (congrArg some Zz)⟩
 f47:=Tryz.func185.trans (congrArg some Zz)
 f48:=Tryz.func186.trans (congrArg some Zz)
 f49:=⟨Tryz.f207.name,ZM,Tryz.func207.trans (congrArg some Zz)⟩
 f50:=⟨Tryz.f208.name,ZM,Tryz.func208.trans (congrArg some Zz)⟩
 f57:=⟨Tryz.f209.name,ZM,Tryz.func209.trans (congrArg some Zz)⟩
 t0:=Tryz.underlying0
 a0:=Tryz.isAgg0
 z0:=Tryz.sizeOf0
 v0:=Tryz.zeroValue0
 t3:=Tryz.underlying3
 a3:=Tryz.isAgg3
 z3:=Tryz.sizeOf3
 v3:=Tryz.zeroValue3
 t4:=Tryz.underlying4
 a4:=Tryz.isAgg4
 z4:=Tryz.sizeOf4
 v4:=Tryz.zeroValue4
 t5:=Tryz.underlying5
 a5:=Tryz.isAgg5
 z5:=Tryz.sizeOf5
 v5:=Tryz.zeroValue5
 t9:=Tryz.underlying9
 a9:=Tryz.isAgg9
 z9:=Tryz.sizeOf9
 v9:=Tryz.zeroValue9
 t22:=Tryz.underlying84
 a22:=Tryz.isAgg84
 z22:=Tryz.sizeOf84
 v22:=Tryz.zeroValue84
 t25:=Tryz.underlying210
 a25:=Tryz.isAgg210
 z25:=Tryz.sizeOf210
 v25:=Tryz.zeroValue210
 t39:=Tryz.underlying230
 a39:=Tryz.isAgg230
 z39:=Tryz.sizeOf230
 v39:=Tryz.zeroValue230
 t45:=Tryz.underlying238
 a45:=Tryz.isAgg238
 z45:=Tryz.sizeOf238
 v45:=Tryz.zeroValue238
 t46:=Tryz.underlying239
 a46:=Tryz.isAgg239
 z46:=Tryz.sizeOf239
 v46:=Tryz.zeroValue239
 t50:=Tryz.underlying170
 a50:=Tryz.isAgg170
 z50:=Tryz.sizeOf170
 v50:=Tryz.zeroValue170
 t53:=Tryz.underlying245
 a53:=Tryz.isAgg245
 z53:=Tryz.sizeOf245
 v53:=Tryz.zeroValue245
 t55:=Tryz.underlying247
 a55:=Tryz.isAgg247
 z55:=Tryz.sizeOf247
 v55:=Tryz.zeroValue247
 t66:=Tryz.underlying260
 a66:=Tryz.isAgg260
 z66:=Tryz.sizeOf260
 v66:=Tryz.zeroValue260
 t70:=Tryz.underlying264
 a70:=Tryz.isAgg264
 z70:=Tryz.sizeOf264
 v70:=Tryz.zeroValue264
 t76:=Tryz.underlying275
 a76:=Tryz.isAgg275
 z76:=Tryz.sizeOf275
 v76:=Tryz.zeroValue275
 t77:=Tryz.underlying276
 a77:=Tryz.isAgg276
 z77:=Tryz.sizeOf276
 v77:=Tryz.zeroValue276}
def uv:Go.Shelf.Ren:=⟨fun|6=>129|15=>147|14=>150|28=>164|29=>165|20=>166|21=>167|22=>168|23=>169|24=>170|25=>171|26=>172|27=>173|46=>189|47=>185|48=>186|49=>190|50=>191|57=>204|n=>n,fun|22=>22|24=>129|25=>184|3=>3|39=>230|0=>0|53=>245|55=>247|4=>4|46=>239|45=>238|50=>170|5=>5|9=>9|66=>260|70=>264|76=>275|77=>276|n=>n,fun|n=>n⟩
theorem Dh:Go.Proofs.SlLaysF0.n6 Tryz.prog uv:={
 mixed:=Zz
 f6:=⟨Tryz.f129.name,ZM,Tryz.func129.trans (congrArg some Zz)⟩
 f14:=⟨Tryz.f150.name,ZM,Tryz.func150.trans (congrArg some Zz)⟩
 f15:=Tryz.func147.trans (congrArg some Zz)
 f20:=⟨Tryz.f166.name,ZM,Tryz.func166.trans (congrArg some Zz)⟩
 f21:=⟨Tryz.f167.name,ZM,Tryz.func167.trans (congrArg some Zz)⟩
 f22:=⟨Tryz.f168.name,ZM,Tryz.func168.trans (congrArg some Zz)⟩
 f23:=⟨Tryz.f169.name,ZM,Tryz.func169.trans (congrArg some Zz)⟩
 f24:=⟨Tryz.f170.name,ZM,Tryz.func170.trans (congrArg some Zz)⟩
 f25:=⟨Tryz.f171.name,ZM,Tryz.func171.trans (congrArg some Zz)⟩
 f26:=⟨Tryz.f172.name,ZM,Tryz.func172.trans (congrArg some Zz)⟩
 f27:=⟨Tryz.f173.name,ZM,Tryz.func173.trans (congrArg some Zz)⟩
 f28:=Tryz.func164.trans (congrArg some Zz)
 f29:=Tryz.func165.trans (congrArg some Zz)
 f46:=⟨Tryz.f189.name,ZM,Tryz.func189.trans (congrArg some Zz)⟩
 f47:=Tryz.func185.trans (congrArg some Zz)
 f48:=Tryz.func186.trans (congrArg some Zz)
 f49:=⟨Tryz.f190.name,ZM,Tryz.func190.trans (congrArg some Zz)⟩
 f50:=⟨Tryz.f191.name,ZM,Tryz.func191.trans (congrArg some Zz)⟩
 f57:=⟨Tryz.f204.name,ZM,Tryz.func204.trans (congrArg some Zz)⟩
 t0:=Tryz.underlying0
 a0:=Tryz.isAgg0
 z0:=Tryz.sizeOf0
 v0:=Tryz.zeroValue0
 t3:=Tryz.underlying3
 a3:=Tryz.isAgg3
 z3:=Tryz.sizeOf3
 v3:=Tryz.zeroValue3
 t4:=Tryz.underlying4
 a4:=Tryz.isAgg4
 z4:=Tryz.sizeOf4
 v4:=Tryz.zeroValue4
 t5:=Tryz.underlying5
 a5:=Tryz.isAgg5
 z5:=Tryz.sizeOf5
 v5:=Tryz.zeroValue5
 t9:=Tryz.underlying9
 a9:=Tryz.isAgg9
 z9:=Tryz.sizeOf9
 v9:=Tryz.zeroValue9
 t22:=Tryz.underlying22
 a22:=Tryz.isAgg22
 z22:=Tryz.sizeOf22
 v22:=Tryz.zeroValue22
 t25:=Tryz.underlying184
 a25:=Tryz.isAgg184
 z25:=Tryz.sizeOf184
 v25:=Tryz.zeroValue184
 t39:=Tryz.underlying230
 a39:=Tryz.isAgg230
 z39:=Tryz.sizeOf230
 v39:=Tryz.zeroValue230
 t45:=Tryz.underlying238
 a45:=Tryz.isAgg238
 z45:=Tryz.sizeOf238
 v45:=Tryz.zeroValue238
 t46:=Tryz.underlying239
 a46:=Tryz.isAgg239
 z46:=Tryz.sizeOf239
 v46:=Tryz.zeroValue239
 t50:=Tryz.underlying170
 a50:=Tryz.isAgg170
 z50:=Tryz.sizeOf170
 v50:=Tryz.zeroValue170
 t53:=Tryz.underlying245
 a53:=Tryz.isAgg245
 z53:=Tryz.sizeOf245
 v53:=Tryz.zeroValue245
 t55:=Tryz.underlying247
 a55:=Tryz.isAgg247
 z55:=Tryz.sizeOf247
 v55:=Tryz.zeroValue247
 t66:=Tryz.underlying260
 a66:=Tryz.isAgg260
 z66:=Tryz.sizeOf260
 v66:=Tryz.zeroValue260
 t70:=Tryz.underlying264
 a70:=Tryz.isAgg264
 z70:=Tryz.sizeOf264
 v70:=Tryz.zeroValue264
 t76:=Tryz.underlying275
 a76:=Tryz.isAgg275
 z76:=Tryz.sizeOf275
 v76:=Tryz.zeroValue275
 t77:=Tryz.underlying276
 a77:=Tryz.isAgg276
 z77:=Tryz.sizeOf276
 v77:=Tryz.zeroValue276}
def ux:Go.Shelf.Ren:=⟨fun|6=>138|15=>147|14=>151|28=>164|29=>165|20=>174|21=>175|22=>176|23=>177|24=>178|25=>179|26=>180|27=>181|46=>192|47=>185|48=>186|49=>193|50=>194|57=>205|n=>n,fun|22=>114|24=>127|25=>218|3=>3|39=>230|0=>0|53=>245|55=>247|4=>4|46=>239|45=>238|50=>170|5=>5|9=>9|66=>260|70=>264|76=>275|77=>276|n=>n,fun|n=>n⟩
theorem Bj:Go.Proofs.SlLaysF0.n6 Tryz.prog ux:={
 mixed:=Zz
 f6:=⟨Tryz.f138.name,ZM,Tryz.func138.trans (congrArg some Zz)⟩
 f14:=⟨Tryz.f151.name,ZM,Tryz.func151.trans (congrArg some Zz)⟩
 f15:=Tryz.func147.trans (congrArg some Zz)
 f20:=⟨Tryz.f174.name,ZM,Tryz.func174.trans (congrArg some Zz)⟩
 f21:=⟨Tryz.f175.name,ZM,Tryz.func175.trans (congrArg some Zz)⟩
 f22:=⟨Tryz.f176.name,ZM,Tryz.func176.trans (congrArg some Zz)⟩
 f23:=⟨Tryz.f177.name,ZM,Tryz.func177.trans (congrArg some Zz)⟩
 f24:=⟨Tryz.f178.name,ZM,Tryz.func178.trans (congrArg some Zz)⟩
 f25:=⟨Tryz.f179.name,ZM,Tryz.func179.trans (congrArg some Zz)⟩
 f26:=⟨Tryz.f180.name,ZM,Tryz.func180.trans (congrArg some Zz)⟩
 f27:=⟨Tryz.f181.name,ZM,Tryz.func181.trans (congrArg some Zz)⟩
 f28:=Tryz.func164.trans (congrArg some Zz)
 f29:=Tryz.func165.trans (congrArg some Zz)
 f46:=⟨Tryz.f192.name,ZM,Tryz.func192.trans (congrArg some Zz)⟩
 f47:=Tryz.func185.trans (congrArg some Zz)
 f48:=Tryz.func186.trans (congrArg some Zz)
 f49:=⟨Tryz.f193.name,ZM,Tryz.func193.trans (congrArg some Zz)⟩
 f50:=⟨Tryz.f194.name,ZM,Tryz.func194.trans (congrArg some Zz)⟩
 f57:=⟨Tryz.f205.name,ZM,Tryz.func205.trans (congrArg some Zz)⟩
 t0:=Tryz.underlying0
 a0:=Tryz.isAgg0
 z0:=Tryz.sizeOf0
 v0:=Tryz.zeroValue0
 t3:=Tryz.underlying3
 a3:=Tryz.isAgg3
 z3:=Tryz.sizeOf3
 v3:=Tryz.zeroValue3
 t4:=Tryz.underlying4
 a4:=Tryz.isAgg4
 z4:=Tryz.sizeOf4
 v4:=Tryz.zeroValue4
 t5:=Tryz.underlying5
 a5:=Tryz.isAgg5
 z5:=Tryz.sizeOf5
 v5:=Tryz.zeroValue5
 t9:=Tryz.underlying9
 a9:=Tryz.isAgg9
 z9:=Tryz.sizeOf9
 v9:=Tryz.zeroValue9
 t22:=Tryz.underlying114
 a22:=Tryz.isAgg114
 z22:=Tryz.sizeOf114
 v22:=Tryz.zeroValue114
 t25:=Tryz.underlying218
 a25:=Tryz.isAgg218
 z25:=Tryz.sizeOf218
 v25:=Tryz.zeroValue218
 t39:=Tryz.underlying230
 a39:=Tryz.isAgg230
 z39:=Tryz.sizeOf230
 v39:=Tryz.zeroValue230
 t45:=Tryz.underlying238
 a45:=Tryz.isAgg238
 z45:=Tryz.sizeOf238
 v45:=Tryz.zeroValue238
 t46:=Tryz.underlying239
 a46:=Tryz.isAgg239
 z46:=Tryz.sizeOf239
 v46:=Tryz.zeroValue239
 t50:=Tryz.underlying170
 a50:=Tryz.isAgg170
 z50:=Tryz.sizeOf170
 v50:=Tryz.zeroValue170
 t53:=Tryz.underlying245
 a53:=Tryz.isAgg245
 z53:=Tryz.sizeOf245
 v53:=Tryz.zeroValue245
 t55:=Tryz.underlying247
 a55:=Tryz.isAgg247
 z55:=Tryz.sizeOf247
 v55:=Tryz.zeroValue247
 t66:=Tryz.underlying260
 a66:=Tryz.isAgg260
 z66:=Tryz.sizeOf260
 v66:=Tryz.zeroValue260
 t70:=Tryz.underlying264
 a70:=Tryz.isAgg264
 z70:=Tryz.sizeOf264
 v70:=Tryz.zeroValue264
 t76:=Tryz.underlying275
 a76:=Tryz.isAgg275
 z76:=Tryz.sizeOf275
 v76:=Tryz.zeroValue275
 t77:=Tryz.underlying276
 a77:=Tryz.isAgg276
 z77:=Tryz.sizeOf276
 v77:=Tryz.zeroValue276}
def AN:Go.Shelf.Ren:=⟨fun|5=>70|7=>106|n=>n,fun|23=>122|25=>37|3=>3|4=>4|20=>20|n=>n,fun|n=>n⟩
theorem Df:Go.Proofs.SlLaysW.n5 Tryz.prog AN:={
 mixed:=Zz
 f5:=⟨Tryz.f70.name,ZM,Tryz.func70.trans (congrArg some Zz)⟩
 f7:=Tryz.func106.trans (congrArg some Zz)
 t4:=Tryz.underlying4
 a4:=Tryz.isAgg4
 z4:=Tryz.sizeOf4
 v4:=Tryz.zeroValue4
 t20:=Tryz.underlying20
 a20:=Tryz.isAgg20
 z20:=Tryz.sizeOf20
 v20:=Tryz.zeroValue20
 t23:=Tryz.underlying122
 a23:=Tryz.isAgg122
 z23:=Tryz.sizeOf122
 v23:=Tryz.zeroValue122}
end Go.Proofs.YtecepaehmojpgaaGreat
namespace Go.Proofs.YtecepaehmojpgaaGreat
open Go.RowKit Go.Sort
attribute [local irreducible] KI
def Pa.then(p q:Pa):Pa×Int:=
 if (!p.ok|| !q.ok)=true then (Kg,2)
 else if q.n=true then (q,0)
 else if Kh ⟨p.n,p.a+q.a⟩=false then (Kg,1) else (⟨p.n,p.a+q.a⟩,0)
theorem Pa.aDZ(p q:Pa):p.thn q=if (p.then q).2=0 then some (p.then q).1 else none:=by
 unfold Pa.thn Pa.then;split
 ·rfl
 split
 ·rfl
 split<;>rfl
theorem i5(p q:Pa)(h1:p.ok=true)(h2:q.ok=true):IntKind.i64.wrap (p.a+q.a)=p.a+q.a:=by
 simp only[Kh,KD,decide_eq_true_eq] at h1 h2;rw[aY]<;>omega
theorem pF(p q:Pa)(h:Hp):aX Tryz.prog 108 [p.v,q.v] h (.tup [(p.then q).1.v,eF (p.then q).2]):=by
 refine aP (fun L=>by simp[Kf,bP,Ka,uV]) fun h' nx hh=>aD L.aU5 fun hd=>?_;obtain⟨n,a⟩:=p;obtain⟨m,b⟩:=q;have hw:=i5 ⟨n,a⟩ ⟨m,b⟩;simp only[jL,jM,jA,jB,jN,jO,jP,jQ,Kd]
 (repeat' (first|(with_reducible first|refine stp ?_|refine bG ZM ?_|refine iI (fun _=>?_) (fun _=>?_))|((first|(with_reducible refine fO ?_;first|refine eH rfl ?_ ?_|refine aQ (mI ⟨_,_⟩ _) rfl (aU _) ?_|refine Zx ?_)|(with_reducible refine fP ?_;first|refine bY rfl ?_ ?_|refine ZX ?_)|refine Zy ?_)<;>try simp only[Ka,go_sem,reduceIte,jA,jB,jC,jD,reduceCtorEq,jE,jF])|refine ZY ?_|omega))
 all_goals refine cI (by simp only[go_sem,reduceIte,jA,jB,jC,jD,reduceCtorEq,jE,jF]) h' (by repeat (first|exact Kc _|refine aH hd ?_ or _|refine aL hd ?_ or)) ⟨?_,rfl⟩
 all_goals simp only[go_sem,reduceIte,jA,jB,jC,jD,reduceCtorEq,jE,jF]
 all_goals cases hp:Kh ⟨n,a⟩<;>cases ht:Kh ⟨m,b⟩<;>simp_all [Pa.then,eF,Kg]
theorem vZ(p q:Pa)(h:Hp):aX Tryz.prog 135 [p.v,q.v] h (.bool (p.le q)):=by
 refine aP (fun L=>trivial) fun h' nx hh=>aD L.aUf fun hd=>?_;obtain⟨n,a⟩:=p;obtain⟨m,b⟩:=q;simp only[jL,jM,jA,jB,jN,jO,jP,jQ,Kd];cases n<;>cases m<;>(repeat' (first|(with_reducible first|refine stp ?_|refine bG ZM ?_|refine iI (fun _=>?_) (fun _=>?_))|((first|(with_reducible refine fO ?_;first|refine eH rfl ?_ ?_|refine Zx ?_)|(with_reducible refine fP ?_;first|refine bY rfl ?_ ?_|refine ZX ?_)|refine Zy ?_)<;>try simp only[Ka,go_sem,reduceIte,jA,jB,jC,jD,reduceCtorEq,jE,jF])|refine ZY ?_|omega))
 all_goals refine aG h' (by repeat (first|exact Kc _|refine aH hd ?_ or _|refine aL hd ?_ or)) ⟨?_,rfl⟩
 all_goals ((try simp_all [Pa.le])<;>(try omega))
theorem jb(x p:Pa)(n:Nat)(h:Hp)(hn:h n=some (.arr (.agg 2) [p.v])):aX Tryz.prog 134 [x.v, .ptr n (.agg 2) 0 0] h (.bool (x.le p)):=by
 refine aP (fun L=>trivial) fun h' nx hh=>aD L.aUg fun hd=>?_;have hn':=hh n _ hn rfl;have hlt:=hd n _ hn';simp only[jL,jM,jA,jB,jN,jO,jP,jQ,Kd];have C1:=fun h=>vZ x p h;refine aue (ee3 hn' hlt Kb) ?_;exact aG h' (by repeat (first|exact Kc _|refine aH hd ?_ or _|refine aL hd ?_ or)) ⟨rfl,rfl⟩
theorem z8(x p:Pa)(n:Nat)(h:Hp)(hn:h n=some (.arr (.agg 2) [p.v])):aX Tryz.prog 137 [x.v, .ptr n (.agg 2) 0 0] h (.bool (p.le x)):=by
 refine aP (fun L=>trivial) fun h' nx hh=>aD L.aUe fun hd=>?_;have hn':=hh n _ hn rfl;have hlt:=hd n _ hn';simp only[jL,jM,jA,jB,jN,jO,jP,jQ,Kd];have C1:=fun h=>vZ p x h;refine aue (ee3 hn' hlt Kb) ?_;exact aG h' (by repeat (first|exact Kc _|refine aH hd ?_ or _|refine aL hd ?_ or)) ⟨rfl,rfl⟩
def fo(a b:Pa):Int:=num a.n-num b.n
theorem ja(a b:Pa):aX Tryz.prog 139 [a.v,b.v] Kk (.int .i64 (fo a b)):=by
 refine aP (fun L=>trivial) fun h' nx hh=>aD L.aUT fun hd=>?_;have hw:IntKind.i64.wrap (num a.n-num b.n)=fo a b:=by
  unfold fo num;rw[aY]<;>(split<;>split<;>omega)
 simp only[jL,jM,jA,jB,jN,jO,jP,jQ,Kd]
 (repeat' (first|(with_reducible first|refine stp ?_|refine bG ZM ?_|refine iI (fun _=>?_) (fun _=>?_))|((first|(with_reducible refine fO ?_;first|refine eH rfl ?_ ?_|refine Zx ?_)|(with_reducible refine fP ?_;first|refine bY rfl ?_ ?_|refine bJ (yZ _ _) rfl (bK _) ?_|refine ZX ?_)|refine Zy ?_)<;>try simp only[Ka,hw,go_sem,reduceIte,jA,jB,jC,jD,reduceCtorEq,jE,jF])|refine ZY ?_|omega))
 exact aG h' (by repeat (first|exact Kc _|refine aH hd ?_ or _|refine aL hd ?_ or)) ⟨rfl,rfl⟩
theorem nr(a b:Pa):ltOf fo a b=decide (a.n=false∧b.n=true):=by
 unfold ltOf fo num;cases a.n<;>cases b.n<;>decide
theorem pk:SWO (ltOf fo):=by
 refine⟨fun x=>?_,fun x y z=>?_,fun x y z=>?_⟩<;>simp only[nr,decide_eq_true_eq,decide_eq_false_iff_not]
 ·cases x.n<;>simp
 ·cases x.n<;>cases y.n<;>cases z.n<;>simp
 cases x.n<;>cases y.n<;>cases z.n<;>simp
theorem ut{l ys:List Pa}{p:Pa}(hc:Can l)(hd:¬lN l p)(hp:ys.Perm ((l.filter fun x=> !(p.le x))++[p]))(hs:kV fo ys):ys=gB l p:=by
 have hcp:=hc.put hd
 --no two of one kind
 have aBo:ys.Perm (gB l p):=by
  refine hp.trans ?_;unfold gB;split
  ·exact List.Perm.refl _
  exact List.perm_append_comm
 refine List.Perm.eq_of_pairwise (le:=fun x y=>ltOf fo y x=false) (fun x y hx hy h1 h2=>?_) hs (hcp.imp fun{x y} h=>?_) aBo
 ·have hx':=aBo.mem_iff.1 hx;have key:∀{m:List Pa},Can m→∀a∈m,∀b∈m,a.n=b.n→a=b:=by
   intro m hm;induction m with
   |nil=>intro a ha;cases ha
   |cons z m ih=>
    obtain⟨k1,k2⟩:=Kv.1 hm;intro a ha b hb hab;rcases KQ.1 ha with e1|ha2<;>rcases KQ.1 hb with e2|hb2
    ·rw[e1,e2]
    ·have:=k1 b hb2;rw[e1,this.1,this.2.1] at hab;cases hab
    ·have:=k1 a ha2;rw[e2,this.1,this.2.1] at hab;cases hab
    exact ih k2 a ha2 b hb2 hab
  refine key hcp x hx' y hy ?_;simp only[nr,decide_eq_false_iff_not] at h1 h2;cases hxn:x.n<;>cases hyn:y.n<;>simp_all
 simp[nr,h.1]
abbrev BU:Nat:=134
abbrev De:Nat:=137
abbrev Dd:Nat:=139
abbrev lH(m:Nat)(l:List Pa):V:=tG (.agg 2) m (l.map Ka)
theorem nK:aJ Tryz.prog 136=some (LB.aBR (.agg 2) (.agg [.bool false, .int .i64 0]) 118):=Zz
theorem Dk(m:Nat)(l:List Pa)(p:Pa)(hl:l.length≤1000)(hd:lN l p)(h:Hp)(hm:l≠ []→h m=some (.arr (.agg 2) (l.map Ka))):
 ∀h' nx,h.has h'→bD Tryz.prog 109 [lH m l,p.v] h' nx fun v h'' _=>v= .tup [lH m l, .bool false]∧h''=h':=by
 intro h' nx hh;have hne:l≠ []:=fun e=>by obtain⟨q,hq,_⟩:=hd;rw[e] at hq;cases hq
 have hm':=hh m _ (hm hne) rfl;have aBK:lH m l= .rs m (.agg 2) 0 l.length:=by
  unfold lH tG;cases l with
  |nil=>exact absurd rfl hne
  |cons=>simp
 have aBW:(l.any fun x=>x.le p)=true:=(tj l p).2 hd;rw[aBK];refine aD L.aTS fun hdm=>?_;have hlt:=hdm m _ hm';have aHg:(m=nx)=False:=eq_false or;have aAa:(h'.set nx (.arr (.agg 2) [p.v])) nx=some (.arr (.agg 2) [p.v]):=by simp only[go_sem,reduceIte,jA,jB,jC,jD,reduceCtorEq,jE,jF]
 have hmb:(h'.set nx (.arr (.agg 2) [p.v])) m=some (.arr (.agg 2) (l.map Ka)):=by simp only[aHg,hm',go_sem,reduceIte,jA,jB,jC,jD,reduceCtorEq,jE,jF]
 simp only[jL,jM,jA,jB,jN,jO,jP,jQ,Kd];refine aue (ee2 Kb aBW) ?_;refine aQ (qI Ka Kb fN eM (fun x=>x.le p) m l BU [.ptr nx (.agg 2) 0 0] _ hmb (fun x _=>jb x p nx _ aAa) or) rfl (aU _) ?_;simp only[aBW,go_sem,reduceIte,jA,jB,jC,jD,reduceCtorEq,jE,jF];refine aue (ee2 Kb aBW) ?_;refine fS h' (kN (Kc _) (aK.none hdm (Kj _)) _) ⟨?_,rfl⟩;simp only[go_sem,reduceIte,jA,jB,jC,jD,reduceCtorEq,jE,jF]
theorem yf(m:Nat)(l:List Pa)(p:Pa)(hc:Can l)(hl:l.length≤1000)(hd:¬lN l p)(h:Hp)(hm:l≠ []→h m=some (.arr (.agg 2) (l.map Ka))):
 AV Tryz.prog 109 [lH m l,p.v] h (if l=[] then none else some ⟨m, .arr (.agg 2) (l.map Ka),none⟩) (fun a=> .tup [.rs a (.agg 2) 0 (gB l p).length, .bool true]) (.agg 2) ((gB l p).map Ka):=by
 refine Co (Ag _ _ _) (fun L=>bE (Pa.aAM L) _) (fun L n hn=>by simp[Kf,bP,hn]) (fun c' hc'=>?_) fun h' nx hh=>?_
 ·split at hc'
  ·cases hc'
  rename_i hne;injection hc' with hc';subst hc';exact⟨rfl,⟨_,_,rfl⟩,hm hne⟩
 have aBW:(l.any fun x=>x.le p)=false:=by
  cases e:l.any fun x=>x.le p with
  |false=>rfl
  |true=>exact absurd ((tj l p).1 e) hd
 have aBr:∀ys:List Pa,ys.Perm ((l.filter fun x=> !(p.le x))++[p])→kV fo ys→ys=gB l p:=fun ys h1 h2=>ut hc hd h1 h2;refine aD L.aTS fun hdm=>?_;by_cases hne:l=[]
 ·subst hne;have hpl:gB ([]:List Pa) p=[p]:=by unfold gB;split<;>rfl
  have hcl:=dR Ka Kb fN eM (fun x=>x.le p) .nil [] BU [.ptr nx (.agg 2) 0 0] (h'.set nx (.arr (.agg 2) [p.v])) (fun x hx=>by cases hx) Zm;have hdl:=ff Ka Kb nK eM (fun x=>p.le x) De [.ptr nx (.agg 2) 0 0] (h'.set nx (.arr (.agg 2) [p.v]));have hrw:lH m []= .sl (.agg 2) .nil []:=rfl;rw[hrw,hpl];simp only[Kt,List.any_nil] at hcl;simp only[jL,jM,jA,jB,jN,jO,jP,jQ,Kd]
  (repeat' (first|(with_reducible first|refine stp ?_|refine bG ZM ?_|refine iI (fun _=>?_) (fun _=>?_))|((first|(with_reducible refine fO ?_;first|refine eH rfl ?_ ?_|refine aQ (hcl) rfl (aU _) ?_|refine aQ (hdl) rfl (aU _) ?_|refine Zx ?_)|(with_reducible refine fP ?_;first|refine bY rfl ?_ ?_|refine ZX ?_)|refine Zy ?_)<;>try simp only[Kb,go_sem,reduceIte,jA,jB,jC,jD,reduceCtorEq,jE,jF])|refine ZY ?_|omega))
  refine qG rfl rfl Zm (by simp only[jL,jM];omega) ?_;simp only[jL,jM,go_sem,reduceIte,jA,jB,jC,jD,reduceCtorEq,jE,jF];refine aue Kb ?_;refine bX ((pA Bj 2 (by intro w;exact Tryz.isAgg127 w) (by intro w;exact Tryz.sizeOf127 w) Zz Ka Kb fo pk Dd [] (fun x y=>by simpa using ja x y) _ [p] Zm _ _ (by simp only[Kq,Kt,go_sem,reduceIte,jA,jB,jC,jD,reduceCtorEq,jE,jF]) Zm).mono ?_);rintro v2 h2 nx2 aBZ ⟨rfl,rfl,ys,hp,hs,rfl⟩;have hys:ys=[p]:=List.perm_singleton.1 hp;subst hys;unfold eI;simp only[jL,jM,Kq,Kt,go_sem,reduceIte,jA,jB,jC,jD,reduceCtorEq,jE,jF];refine au ?_;refine fS (h'.set (nx+2) (.arr (.agg 2) [p.v])) ?_ ⟨nx+2,or,?_,rfl⟩
  ·intro x b hx;by_cases e:x=nx+2
   ·subst e;simp only[go_sem,reduceIte,jA,jB,jC,jD,reduceCtorEq,jE,jF] at hx⊢;exact hx
   have hx':h' x=some b:=by unfold Ke at hx;rwa [if_neg e] at hx
   have:=hdm x b hx';have e1:(x=nx)=False:=eq_false or;have e2:(x=nx+1)=False:=eq_false or;simp only[e,e1,e2,go_sem,reduceIte,jA,jB,jC,jD,reduceCtorEq,jE,jF];exact hx'
  simp only[go_sem,reduceIte,jA,jB,jC,jD,reduceCtorEq,jE,jF]
 have hm':=hh m _ (hm hne) rfl;have aBK:lH m l= .rs m (.agg 2) 0 l.length:=by
  unfold lH tG;cases l with
  |nil=>exact absurd rfl hne
  |cons=>simp
 have hlt:=hdm m _ hm';have aHg:(m=nx)=False:=eq_false or;have aAa:(h'.set nx (.arr (.agg 2) [p.v])) nx=some (.arr (.agg 2) [p.v]):=by simp only[go_sem,reduceIte,jA,jB,jC,jD,reduceCtorEq,jE,jF]
 have hmb:(h'.set nx (.arr (.agg 2) [p.v])) m=some (.arr (.agg 2) (l.map Ka)):=by simp only[aHg,hm',go_sem,reduceIte,jA,jB,jC,jD,reduceCtorEq,jE,jF]
 rw[aBK];simp only[jL,jM,jA,jB,jN,jO,jP,jQ,Kd];refine aue (ee2 Kb aBW) ?_;refine aQ (qI Ka Kb fN eM (fun x=>x.le p) m l BU [.ptr nx (.agg 2) 0 0] _ hmb (fun x _=>jb x p nx _ aAa) or) rfl (aU _) ?_;simp only[aBW,go_sem,reduceIte,jA,jB,jC,jD,reduceCtorEq,jE,jF];refine aue (ee2 Kb aBW) ?_
 --those that it is at most are left out
 have hcn:(Hp.none.set nx (.arr (.agg 2) [p.v])) m=none:=by simp only[aHg,Kk,go_sem,reduceIte,jA,jB,jC,jD,reduceCtorEq,jE,jF]
 have hcd:aK (Hp.none.set nx (.arr (.agg 2) [p.v])) (nx+1):=fun x b e=>by
  unfold Ke at e;split at e
  ·omega
  cases e
 have hcb:(Hp.none.set nx (.arr (.agg 2) [p.v])) nx=some (.arr (.agg 2) [p.v]):=by simp only[go_sem,reduceIte,jA,jB,jC,jD,reduceCtorEq,jE,jF]
 have hch:Hp.has (Hp.none.set nx (.arr (.agg 2) [p.v])) (h'.set nx (.arr (.agg 2) [p.v])):=fun x k e _=>by
  unfold Ke at e⊢;split at e
  ·rename_i hx;rw[if_pos hx];exact e
  cases e
 refine bX ((yN Ka nK eM rfl Kb (fun x=>p.le x) m l De [.ptr nx (.agg 2) 0 0] _ (Hp.none.set nx (.arr (.agg 2) [p.v])) (nx+1) hmb hcn hch hcd (fun x _=>z8 x p nx _ hcb) or).mono ?_);rintro v1 h1 nx1 aIu ⟨zs,rfl,rfl⟩;unfold eI;refine Zn ?_;obtain⟨L,hL⟩:∃L,L=l.filter fun x=> !(p.le x):=⟨_,rfl⟩;rw[←hL];have hLl:L.length≤1000:=by rw[hL];exact KC (List.length_filter_le _ _) hl
 have htk:(L.map Ka++zs).take L.length=L.map Ka:=by rw[List.take_append_of_le_length Zm];exact KH Zm
 have hmv:(L.map Ka)++[p.v]=(L++[p]).map Ka:=Zm;have aHl:L.length+1=(L++[p]).length:=Zm;have aNU:(nx=m)=False:=eq_false or;have aNT:(m=nx1)=False:=eq_false or;have aT0:(nx=nx1)=False:=eq_false or
 (repeat' (first|(with_reducible first|refine stp ?_|refine bG ZM ?_|refine iI (fun _=>?_) (fun _=>?_))|((first|(with_reducible refine fO ?_;first|refine eH rfl ?_ ?_|refine Zx ?_)|(with_reducible refine fP ?_;first|refine bY rfl ?_ ?_|refine ZX ?_)|refine Zy ?_)<;>try simp only[Kb,aHg,aNU,go_sem,reduceIte,jA,jB,jC,jD,reduceCtorEq,jE,jF])|refine ZY ?_|omega))
 refine aa (es:=L.map Ka++zs) rfl (by simp only[aHg,aNT,go_sem,reduceIte,jA,jB,jC,jD,reduceCtorEq,jE,jF]) Zm rfl Zm (by simp only[jL,jM];omega) ?_;simp only[htk,hmv,aHl,go_sem,reduceIte,jA,jB,jC,jD,reduceCtorEq,jE,jF];refine aue (ee2 Kb aHg) ?_;refine bX ((pA Bj 2 (by intro w;exact Tryz.isAgg127 w) (by intro w;exact Tryz.sizeOf127 w) Zz Ka Kb fo pk Dd [] (fun x y=>by simpa using ja x y) _ (L++[p]) Zm _ _ (by simp only[go_sem,reduceIte,jA,jB,jC,jD,reduceCtorEq,jE,jF]) (by simp;omega)).mono ?_);rintro v2 h2 nx2 aBZ ⟨rfl,rfl,ys,hp,hs,rfl⟩;have hys:=aBr ys (by rw[←hL];exact hp) hs;unfold eI;subst hys;have hpl:(L++[p]).length=(gB l p).length:=hp.length_eq.symm;simp only[hpl,go_sem,reduceIte,jA,jB,jC,jD,reduceCtorEq,jE,jF];refine au ?_;refine fS ((h'.del m).set (nx1+1) (.arr (.agg 2) ((gB l p).map Ka))) ?_ ⟨nx1+1,or,?_,?_⟩
 ·intro x b hx;by_cases e:x=nx1+1
  ·subst e;simp only[go_sem,reduceIte,jA,jB,jC,jD,reduceCtorEq,jE,jF] at hx⊢;exact hx
  have hx':(h'.del m) x=some b:=by unfold Ke at hx;rwa [if_neg e] at hx
  have hxm:x≠m:=fun e2=>by subst e2;simp only[Hp.del,if_pos] at hx';cases hx'
  have hx2:h' x=some b:=by unfold Hp.del at hx';rwa [if_neg hxm] at hx'
  have:=hdm x b hx2;have e1:(x=nx)=False:=eq_false or;have e2:(x=nx1)=False:=eq_false or;simp only[e,e1,e2,hxm,go_sem,reduceIte,jA,jB,jC,jD,reduceCtorEq,jE,jF];exact hx2
 ·simp only[go_sem,reduceIte,jA,jB,jC,jD,reduceCtorEq,jE,jF]
 simp only[hne,if_false]
abbrev Ea:Nat:=94
abbrev CN:Nat:=132
theorem ph(own:Own)(n:Nat)(l:List We)(w:We)(b1 b2:Nat)(aAH:xI n l)(hn:n≤200)(hl:l.length≤1000)(hw:w.t<n)(h:Hp)(h1:h b1=some (.arr .leaf [.int .i64 n]))(h2:h b2=some (.arr .leaf [wes own l])):
 aX Tryz.prog 132 [w.v, .ptr b1 .leaf 0 0, .ptr b2 .leaf 0 0] h (.bool (w.p.n&&qT l w.t w.f)):=by
 refine aP (fun L=>trivial) fun h' nx hh=>aD L.aUi fun hd=>?_;have h1':=hh b1 _ h1 rfl;have h2':=hh b2 _ h2 rfl;have e1:=hd b1 _ h1';have e2:=hd b2 _ h2';obtain⟨f,t,nn,a⟩:=w;simp only[jL,jM,jA,jB,jN,jO,jP,jQ,Kd];cases nn<;>(repeat' (first|(with_reducible first|refine stp ?_|refine bG ZM ?_|refine iI (fun _=>?_) (fun _=>?_))|((first|(with_reducible refine fO ?_;first|refine eH rfl ?_ ?_|refine aQ (gz own n l t f aAH hw hn hl _) rfl (aU _) ?_|refine Zx ?_)|(with_reducible refine fP ?_;first|refine bY rfl ?_ ?_|refine ZX ?_)|refine Zy ?_)<;>try simp only[We.v,h1',h2',e1,e2,go_sem,reduceIte,jA,jB,jC,jD,reduceCtorEq,jE,jF])|refine ZY ?_|omega))
 all_goals refine aG h' (by repeat (first|exact Kc _|refine aH hd ?_ or _|refine aL hd ?_ or)) ⟨?_,rfl⟩
 all_goals simp only[go_sem,reduceIte,jA,jB,jC,jD,reduceCtorEq,jE,jF]
noncomputable def bi(l:List We):Bool:=l.any fun w=>w.p.n&&qT l w.t w.f
theorem bh(l:List We):bi l=true↔rQ l:=by
 unfold bi rQ;simp only[KE,KD,tP];constructor
 ·rintro⟨w,h1,h2,h3⟩;exact⟨w,h1,h2,h3.imp (fun e=>e.symm) (fun e=>e)⟩
 rintro⟨w,h1,h2,h3⟩;exact⟨w,h1,h2,h3.imp (fun e=>e.symm) (fun e=>e)⟩
theorem un(own:Own)(n:Nat)(l:List We)(aAH:xI n l)(hn:n≤200)(hl:l.length≤1000)(h:Hp):aX Tryz.prog 103 [.int .i64 n,wes own l] h (.bool (bi l)):=by
 refine aP (fun L=>trivial) fun h' nx hh=>aD L.aVH fun hd=>?_;have b1:((h'.set nx (.arr .leaf [.int .i64 (n:Int)])).set (nx+1) (.arr .leaf [wes own l])) nx=some (.arr .leaf [.int .i64 (n:Int)]):=by simp only[go_sem,reduceIte,jA,jB,jC,jD,reduceCtorEq,jE,jF]
 have b2:((h'.set nx (.arr .leaf [.int .i64 (n:Int)])).set (nx+1) (.arr .leaf [wes own l])) (nx+1)=some (.arr .leaf [wes own l]):=by simp only[go_sem,reduceIte,jA,jB,jC,jD,reduceCtorEq,jE,jF]
 have hc:=dR We.v We.aAC lR oH (fun w=>w.p.n&&qT l w.t w.f) own l CN [.ptr nx .leaf 0 0, .ptr (nx+1) .leaf 0 0] _ (fun w hw=>ph own n l w nx (nx+1) aAH hn hl (aAH w hw).2.1 _ b1 b2) or;simp only[jL,jM,jA,jB,jN,jO,jP,jQ,Kd];have C5:=hc;refine au ?_;exact aG h' (by repeat (first|exact Kc _|refine aH hd ?_ or _|refine aL hd ?_ or)) ⟨rfl,rfl⟩
theorem Af(w:Wy)(P:Int)(b:Nat)(h:Hp)(h1:h b=some (.arr .leaf [.int .i64 P])):aX Tryz.prog 94 [w.v, .ptr b .leaf 0 0] h (.bool (!(w.fit P))):=by
 refine aP (fun L=>trivial) fun h' nx hh=>aD L.aVN fun hd=>?_;have h1':=hh b _ h1 rfl;have e1:=hd b _ h1';simp only[jL,jM,jA,jB,jN,jO,jP,jQ,Kd];have C1:=fun h=>mr w P h;refine aue (ee3 Wy.aAC h1' e1) ?_;exact aG h' (by repeat (first|exact Kc _|refine aH hd ?_ or _|refine aL hd ?_ or)) ⟨rfl,rfl⟩
theorem cw:aJ Tryz.prog 97=some (LB.aFb (.agg 4) (.agg [.int .i64 0, .int .i64 0, .bool false, .int .i64 0]) (.plain (.agg 4) [.int, .int, .bool, .int])):=Zz
theorem xM(x y:Wy):veq (.plain (.agg 4) [.int, .int, .bool, .int]) x.v y.v=some (decide (x=y)):=by
 obtain⟨f,t,⟨n,a⟩⟩:=x;obtain⟨f',t',⟨n',a'⟩⟩:=y;simp only[Wy.v,go_sem,reduceIte,jA,jB,jC,jD,reduceCtorEq,jE,jF];simp only[Wy.mk.injEq,Pa.mk.injEq,Option.some.injEq];rw[KO];simp
theorem fm(h:Hp):aX Tryz.prog 97 [.sl (.agg 4) .nil []] h (.sl (.agg 4) .nil []):=by
 refine aP (fun L=>by simp[Kf,bP]) fun h' nx hh=>aD L.aVL fun hd=>?_;have hc:decide (((0:Nat):Int)<2)=true:=ZM;simp only[jL,jM,jA,jB,jN,jO,jP,jQ,Kd];refine aue hc ?_;exact aG h' (Kc _) ⟨rfl,rfl⟩
def tV(P:Int)(l:List Wy):V:= .agg [.int .i64 P,lst (.agg 4) (l.map Wy.v)]
theorem tU(P:Int)(l:List Wy)(L:Nat→Prop):(tV P l).names L:=by
 have:=cP (k:= .agg 4) (fun L=>bE (fun x=>Wy.aAM L x) l) L;simp[tV,Kf,bP,this]
theorem oG:tV 0 []= .agg [.int .i64 0, .sl (.agg 4) .nil []]:=rfl
open Classical in
set_option maxHeartbeats 1000000 in
theorem q9(o:Own)(P:Int)(ws:List Wy)(h' h2:Hp)(nx nx2:Nat)(ho:(.sl (.agg 4) o ((bZ ws).map Wy.v):V)=lst (.agg 4) ((bZ ws).map Wy.v))(hl:ws.length≤1000)(aBY:¬(P<0∨200<P∨∃w∈ws,w.fit P=false))(hdm:aK h' nx)
 (h1:h2 nx=some (.arr .leaf [.int .i64 P])) (h3:h2 (nx+1)=some (.arr (.agg 2) [.agg [.int .i64 0, .sl (.agg 4) .nil []]])) (hle:h'.le h2) (hnx:nx+2≤nx2):
 lwp Tryz.prog (.seq (.seq (.ops L.aG4) (.cond (.slot 28) (.seq (.ops L.aG3) .ret) .skip)) (.seq (.seq (.ops L.aG2) (.cond (.slot 38) (.seq (.ops L.aG1) .ret) .skip)) (.seq (.ops L.aG0) .ret)))
  (iU [.cell 4 (.agg 2), .slot 5] fun v' h'' _=>v'= .tup [tV (cM P ws).1.1 (cM P ws).1.2,eF (cM P ws).2]∧h''=h') ⟨aB 44 0 [(2, .ptr nx .leaf 0 0),(4, .ptr (nx+1) (.agg 2) 0 0),(5, .nilIface),(7, .sl (.agg 4) o ((bZ ws).map Wy.v))],h2,nx2⟩:=by
 have aAH:∀w∈bZ ws,w.fit P=true:=fun w hw=>by
  cases e:w.fit P with
  |true=>rfl
  |false=>exact absurd (.inr (.inr ⟨w,(mW ws w).1 hw,e⟩)) aBY
 have hP:0≤P∧P≤200:=by
  constructor
  ·exact Classical.byContradiction fun h=>aBY (.inl or)
  exact Classical.byContradiction fun h=>aBY (.inr (.inl or))
 have hcl:(bZ ws).length≤1000:=KC (mX ws) hl;obtain⟨k1,k2⟩:=dw aAH;obtain⟨l,hlw⟩:∃l,l=(bZ ws).map Wy.we:=⟨_,rfl⟩;rw[←hlw] at k1 k2;have hll:l.length≤1000:=by rw[hlw];simpa using hcl
 have hwl:(bZ ws).map Wy.v=l.map We.v:=by rw[k1,ul]
 have hPn:P=((P.toNat:Nat):Int):=or;have hb:∀w∈bZ ws,0≤w.p.a∧w.p.a≤1048576:=fun w hw=>by
  have:=aAH w hw;simp only[Wy.fit,KD,Kh,decide_eq_true_eq] at this;exact this.2.2.2.2
 have ci:∀h,aX Tryz.prog 102 [.int .i64 P, .sl (.agg 4) o ((bZ ws).map Wy.v)] h (.bool (sg l)):=fun h=>by
  rw[hwl,hPn];exact As o P.toNat l k2 or hll h
 have ct:∀h,aX Tryz.prog 103 [.int .i64 P, .sl (.agg 4) o ((bZ ws).map Wy.v)] h (.bool (bi l)):=fun h=>by
  rw[hwl,hPn];exact un o P.toNat l k2 or hll h
 have ca:∀h,aX Tryz.prog 101 [.sl (.agg 4) o ((bZ ws).map Wy.v)] h (.int .i64 (eW (bZ ws))):=fun h=>xw o (bZ ws) hcl hb h;have hlt:nx<nx2:=or;have aEb:nx+1<nx2:=or;unfold cM;rw[if_neg aBY,←hlw];simp only[aB,go_sem,reduceIte,jA,jB,jC,jD,reduceCtorEq,jE,jF];have aAR:∀b,h'.le (h2.set (nx+1) b):=fun b=>kN hle (hdm.none or) _;rcases Int.lt_or_le 1048576 (eW (bZ ws)) with ha|ha
 ·have hc:decide ((1048576:Int)<eW (bZ ws))=true:=decide_eq_true ha;rw[if_pos ha];have C1:=fun h=>ca h;refine aue (ee5 hc h1 h3 hlt aEb) ?_;refine cI (by simp only[go_sem,reduceIte,jA,jB,jC,jD,reduceCtorEq,jE,jF]) h' (aAR _) ⟨?_,rfl⟩;simp only[oG,eF,go_sem,reduceIte,jA,jB,jC,jD,reduceCtorEq,jE,jF];trivial
 have hc:decide ((1048576:Int)<eW (bZ ws))=false:=decide_eq_false or;rw[if_neg or];cases hi:sg l with
 |true=>
  rw[if_pos (.inl ((yG l).1 hi))];have C1:=fun h=>ca h;have C2:=fun h=>ci h;refine aue (ee6 hc h1 h3 hlt aEb hi) ?_;refine cI (by simp only[go_sem,reduceIte,jA,jB,jC,jD,reduceCtorEq,jE,jF]) h' (aAR _) ⟨?_,rfl⟩;simp only[oG,eF,go_sem,reduceIte,jA,jB,jC,jD,reduceCtorEq,jE,jF];trivial
 |false=>
  have hni:¬ip l:=fun h=>by rw[(yG l).2 h] at hi;cases hi
  cases ht:bi l with
  |true=>
   rw[if_pos (.inr ((bh l).1 ht))];have C1:=fun h=>ca h;have C2:=fun h=>ci h;have C3:=fun h=>ct h;refine aue (ee7 hc h1 h3 hlt aEb hi ht) ?_;refine cI (by simp only[go_sem,reduceIte,jA,jB,jC,jD,reduceCtorEq,jE,jF]) h' (aAR _) ⟨?_,rfl⟩;simp only[oG,eF,go_sem,reduceIte,jA,jB,jC,jD,reduceCtorEq,jE,jF];trivial
  |false=>
   have hnt:¬rQ l:=fun h=>by rw[(bh l).2 h] at ht;cases ht
   rw[if_neg (fun h=>h.elim hni hnt)];have C1:=fun h=>ca h;have C2:=fun h=>ci h;have C3:=fun h=>ct h;refine aue (ee7 hc h1 h3 hlt aEb hi ht) ?_;refine cI (by simp only[go_sem,reduceIte,jA,jB,jC,jD,reduceCtorEq,jE,jF]) h' (aAR _) ⟨?_,rfl⟩;simp only[tV,ho,eF,go_sem,reduceIte,jA,jB,jC,jD,reduceCtorEq,jE,jF];try trivial
theorem ra(own:Own)(P:Int)(ws:List Wy)(hl:ws.length≤1000)(h:Hp):aX Tryz.prog 62 [.int .i64 P,wys own ws] h (.tup [tV (cM P ws).1.1 (cM P ws).1.2,eF (cM P ws).2]):=by
 refine aP (fun L=>by simp[Kf,bP,tU,uV]) fun h' nx hh=>aD L.aVq fun hd=>?_;have hb1:((h'.set nx (.arr .leaf [.int .i64 P])).set (nx+1) (.arr (.agg 2) [.agg [.int .i64 0, .sl (.agg 4) .nil []]])) nx=some (.arr .leaf [.int .i64 P]):=by simp only[go_sem,reduceIte,jA,jB,jC,jD,reduceCtorEq,jE,jF]
 have hcl:=dR Wy.v Wy.aAC lR oH (fun w=> !(w.fit P)) own ws Ea [.ptr nx .leaf 0 0] _ (fun w _=>Af w P nx _ hb1) or;simp only[jL,jM,jA,jB,jN,jO,jP,jQ,Kd];by_cases aBY:P<0∨200<P∨∃w∈ws,w.fit P=false
 ·have hn:cM P ws=((0,[]),1):=by unfold cM;rw[if_pos aBY]
  rw[hn];have hbx:¬P<0→¬200<P→(ws.any fun w=> !(w.fit P))=true:=fun h1 h2=>by
   rcases aBY with h|h|⟨w,hw,h⟩
   ·exact absurd h h1
   ·exact absurd h h2
   exact KE.2 ⟨w,hw,by rw[h];rfl⟩
  (repeat' (first|(with_reducible first|refine stp ?_|refine bG ZM ?_|refine iI (fun _=>?_) (fun _=>?_))|((first|(with_reducible refine fO ?_;first|refine eH rfl ?_ ?_|refine aQ (hcl) rfl (aU _) ?_|refine Zx ?_)|(with_reducible refine fP ?_;first|refine bY rfl ?_ ?_|refine ZX ?_)|refine Zy ?_)<;>try simp only[ go_sem,reduceIte,jA,jB,jC,jD,reduceCtorEq,jE,jF])|refine ZY ?_|omega))
  ·refine cI (by simp only[go_sem,reduceIte,jA,jB,jC,jD,reduceCtorEq,jE,jF]) h' (by repeat (first|exact Kc _|refine aH hd ?_ or _|refine aL hd ?_ or)) ⟨?_,rfl⟩;simp only[oG,eF,go_sem,reduceIte,jA,jB,jC,jD,reduceCtorEq,jE,jF];trivial
  ·refine cI (by simp only[go_sem,reduceIte,jA,jB,jC,jD,reduceCtorEq,jE,jF]) h' (by repeat (first|exact Kc _|refine aH hd ?_ or _|refine aL hd ?_ or)) ⟨?_,rfl⟩;simp only[oG,eF,go_sem,reduceIte,jA,jB,jC,jD,reduceCtorEq,jE,jF];trivial
  ·refine cI (by simp only[go_sem,reduceIte,jA,jB,jC,jD,reduceCtorEq,jE,jF]) h' (by repeat (first|exact Kc _|refine aH hd ?_ or _|refine aL hd ?_ or)) ⟨?_,rfl⟩;simp only[oG,eF,go_sem,reduceIte,jA,jB,jC,jD,reduceCtorEq,jE,jF];trivial
  rename_i x1 x2 x3;rw[hbx (of_decide_eq_false x1) (of_decide_eq_false x2)] at x3;cases x3
 have g1:decide (P<0)=false:=decide_eq_false (fun h=>aBY (.inl h));have g2:decide (200<P)=false:=decide_eq_false (fun h=>aBY (.inr (.inl h)));have g3:(ws.any fun w=> !(w.fit P))=false:=by
  cases e:ws.any fun w=> !(w.fit P) with
  |false=>rfl
  |true=>
   obtain⟨w,hw,h⟩:=KE.1 e;exact absurd (.inr (.inr ⟨w,hw,by simpa using h⟩)) aBY
 have hs:∃aDa,(wys own ws).loose=wys aDa ws:=by cases own<;>exact⟨_,rfl⟩
 obtain⟨aDa,hs⟩:=hs;have C5:=hcl;refine aue (ee3 g1 g2 g3) ?_;refine aQ (bd g0 own (ws.map Wy.v) (fun L=>bE (Wy.aAM L) _) Kk) rfl (bK _) ?_;rw[hs];refine Zn ?_
 refine bX ((oD Wy.v Dh Wy.aAC (by intro w;exact Tryz.isAgg129 w) (by intro w;exact Tryz.sizeOf129 w) Zz wG c5 yB rfl or rfl _ _ Kk ws
  (vJ Wy.v Wy.aAC zX rfl aDa ws or) or Wy.cmp Wy.swo _ [] (fun x y=>by simpa using vt x y) _ _ (bK _)).mono ?_)
 rintro v1 h1 nx1 aIu ⟨es,⟨ys,hp,hs2,rfl⟩,hF⟩;have hys:ys=dV Wy.cmp ws:=sW Wy.tot _ _ (hp.trans (dU _ _).symm) hs2 (iS Wy.swo ws);subst hys;have aF6:h'.le ((h'.set nx (.arr .leaf [.int .i64 P])).set (nx+1) (.arr (.agg 2) [.agg [.int .i64 0, .sl (.agg 4) .nil []]])):=(by repeat (first|exact Kc _|refine aH hd ?_ or _|refine aL hd ?_ or));unfold eI;dsimp only at aIu;rcases hF with⟨he,rfl,rfl⟩|⟨hne,id,hid,rfl,rfl⟩
 ·have hw:ws=[]:=by
   have:(dV Wy.cmp ws).length=0:=by have:=congrArg List.length he;simpa using this
   rw[(dU Wy.cmp ws).length_eq] at this;exact Kx.1 this
  subst hw;have hcn:bZ []=[]:=Kx.1 (Nat.le_zero.1 (mX []));refine Zn ?_;refine aQ (fm _) rfl (aU _) ?_;refine Zn ?_;refine fV rfl (by simp only[ go_sem,reduceIte,jA,jB,jC,jD,reduceCtorEq,jE,jF];try omega) ?_;refine Zn ?_;refine(kK ⟨aB 44 0 [(2, .ptr nx .leaf 0 0),(4, .ptr (nx+1) (.agg 2) 0 0),(5, .nilIface),(7, .sl (.agg 4) .nil ((bZ []).map Wy.v))],_,_⟩ (kI ?_ (Kc _) (Kj _)) (q9 .nil P [] h' _ nx _ (by rw[hcn];rfl) Zm aBY hd (by simp only[go_sem,reduceIte,jA,jB,jC,jD,reduceCtorEq,jE,jF]) (by simp only[go_sem,reduceIte,jA,jB,jC,jD,reduceCtorEq,jE,jF]) aF6 or));simp only[WkL,aB,jH,jI,jJ,hcn,Kt,go_sem,reduceIte,jA,jB,jC,jD,reduceCtorEq,jE,jF]
 dsimp only at hid;have hmb:(((h'.set nx (.arr .leaf [.int .i64 P])).set (nx+1) (.arr (.agg 2) [.agg [.int .i64 0, .sl (.agg 4) .nil []]])).set id (.arr (.agg 4) ((dV Wy.cmp ws).map Wy.v))) id=some (.arr (.agg 4) ((dV Wy.cmp ws).map Wy.v)):=by simp only[go_sem,reduceIte,jA,jB,jC,jD,reduceCtorEq,jE,jF]
 have hlen:((dV Wy.cmp ws).map Wy.v).length=(dV Wy.cmp ws).length:=Zm;have hll:(dV Wy.cmp ws).length=ws.length:=(dU Wy.cmp ws).length_eq;have hie:(nx=id)=False:=eq_false or;have aUD:(nx+1=id)=False:=eq_false or;have aTB:bZ ws≠ []:=fun e=>by
  have h1:=mW ws;have:ws=[]:=by
   cases hws:ws with
   |nil=>rfl
   |cons x l=>have:=(h1 x).2 (by rw[hws];simp);rw[e] at this;cases this
  subst this;exact hne (by rw[List.map_eq_nil_iff];exact Kx.1 hll)
 rw[hlen];refine Zn ?_;refine bX ((xF (G:=fun es=>es=(cs (dV Wy.cmp ws)).map Wy.v) (ib Wy.v cw rfl Wy.aAC xM id (dV Wy.cmp ws) or _ _ hmb)).mono ?_);rintro v2 h2 nx2 aBZ ⟨es,rfl,rfl,hes⟩;have hes:es=(bZ ws).map Wy.v:=hes;dsimp only at aBZ;subst hes;unfold eI;refine Zn ?_;refine fV rfl (by simp only[ go_sem,reduceIte,jA,jB,jC,jD,reduceCtorEq,jE,jF];try omega) ?_;refine Zn ?_;refine(kK ⟨aB 44 0 [(2, .ptr nx .leaf 0 0),(4, .ptr (nx+1) (.agg 2) 0 0),(5, .nilIface),(7, .sl (.agg 4) .free ((bZ ws).map Wy.v))],_,_⟩ (kI ?_ (Kc _) (Kj _)) (q9 .free P ws h' _ nx _ ?_ hl aBY hd (by simp only[hie,go_sem,reduceIte,jA,jB,jC,jD,reduceCtorEq,jE,jF]) (by simp only[aUD,go_sem,reduceIte,jA,jB,jC,jD,reduceCtorEq,jE,jF]) ?_ or))
 ·simp only[WkL,aB,jH,jI,jJ,go_sem,reduceIte,jA,jB,jC,jD,reduceCtorEq,jE,jF]
 ·cases hcw:bZ ws with
  |nil=>exact absurd hcw aTB
  |cons x l=>rfl
 intro m b hm;have hml:=hd m b hm;have e1:(m=id)=False:=eq_false or;have:=aF6 m b hm;simp only[e1,go_sem,reduceIte,jA,jB,jC,jD,reduceCtorEq,jE,jF] at this⊢;exact this
abbrev mps(o:Own)(P:Int)(ws:List Wy):V:= .agg [.int .i64 P,wys o ws]
theorem By(o:Own)(P:Int)(ws:List Wy):(mps o P ws).fits (.agg 2)=true:=by simp[V.fits,V.aAD]
theorem Ae(P:Int)(ws:List Wy):(cM P ws).1.2.length≤ws.length:=by
 unfold cM;split
 ·simp
 split
 ·simp
 split
 ·simp
 exact mX ws
theorem ri(P:Int)(l:List Wy):∃o,tV P l=mps o P l:=by
 obtain⟨o,ho⟩:=mQ (.agg 4) (l.map Wy.v);exact⟨o,by unfold tV;rw[ho]⟩
theorem dS(o:Own)(P:Int)(ws:List Wy)(hl:ws.length≤1000)(h:Hp):aX Tryz.prog 63 [mps o P ws] h (.bool (eK P ws)):=by
 refine aP (fun L=>trivial) fun h' nx hh=>aD L.aVp fun hd=>?_;have hn:=ra o P ws hl;obtain⟨o2,ho2⟩:=ri (cM P ws).1.1 (cM P ws).1.2;rw[ho2] at hn;have hlen:=Ae P ws;have he:=AE Wy.v Wy.aAC m6 xM o2 o (cM P ws).1.2 ws or;have hrm:eK P ws=(decide ((cM P ws).2=0)&&decide ((cM P ws).1.2=ws)):=by
  rw[KO];unfold eK;simp
 rw[hrm];simp only[jL,jM,jA,jB,jN,jO,jP,jQ,Kd]
 (repeat' (first|(with_reducible first|refine stp ?_|refine bG ZM ?_|refine iI (fun _=>?_) (fun _=>?_))|((first|(with_reducible refine fO ?_;first|refine eH rfl ?_ ?_|refine aQ (hn _) rfl (aU _) ?_|refine aQ (he _) rfl (aU _) ?_|refine Zx ?_)|(with_reducible refine fP ?_;first|refine bY rfl ?_ ?_|refine ZX ?_)|refine Zy ?_)<;>try simp only[By,iE,go_sem,reduceIte,jA,jB,jC,jD,reduceCtorEq,jE,jF])|refine ZY ?_|omega))
 all_goals refine aG h' (by repeat (first|exact Kc _|refine aH hd ?_ or _|refine aL hd ?_ or)) ⟨?_,rfl⟩
 all_goals rename_i hx
 all_goals simp only[hx,go_sem,reduceIte,jA,jB,jC,jD,reduceCtorEq,jE,jF]
open Classical in
noncomputable def dB(l:List We)(a k:Nat):List Pa:=if h:∃m,iL l a k m then Classical.choose h else []
theorem oJ{l:List We}{a k:Nat}{m:List Pa}(h:iL l a k m):dB l a k=m:=by
 unfold dB;rw[dif_pos ⟨m,h⟩];exact(Classical.choose_spec (⟨m,h⟩:∃m,iL l a k m)).unique h
noncomputable def iY(n:Nat)(l:List We)(a:Nat):List (List Pa):=(KT n).map (dB l a)
theorem sq{n:Nat}{l:List We}{a:Nat}{out:List (List Pa)}(hl:out.length=n)(h:∀k,k<n→iL l a k (out.getD k [])):iY n l a=out:=by
 refine Kz (by simp[iY,hl]) fun i h1 h2=>?_;have hi:i<n:=or;have:=oJ (h i hi);simp only[iY,KB,Kw,this];rw[Ki,Kp h2];rfl
theorem Bq{P:Program}{f:FuncId}{args:List V}{h:Hp}{v:V}{m:Nat}{k:Sh}{es:List V}(hm:h m=some (.arr k es))(hv:∀L:Nat→Prop,L m→v.names L)(hc:∀h' nx,h.has h'→bD P f args h' nx fun v' h'' _=>v'=v∧h''=h'):aX P f args h v:=by
 intro h' nx hh;have c:=hc h' nx hh;refine⟨c.1,fun K aAK hlv aAS aDF=>(c.2 K aAK hlv aAS aDF).mono ?_⟩;rintro e w' ⟨K',v',cv,h'',nx',rfl,he,hle,hvr,aA3,aEa,hnx,rfl,rfl⟩;have hml:=aAS.lt m _ (hh m _ hm rfl);have aEc:K.le (K'.only fun n=>K'.live n∧n<nx):=⟨fun n hn=>⟨hle.live n hn,hlv n hn⟩,hle.mu,hle.tp,hle.fro,hle.imm,hle.cell,hle.shape,hle.below⟩;exact⟨K'.only fun n=>K'.live n∧n<nx,v',cv,h'',nx,rfl,he,aEc,hvr.only _ (hv _ ⟨hle.live m hml,hlv m hml⟩),aAS.back aA3 aEc.toV (fun n hn=>⟨hle.live n hn,hlv n hn⟩),fun n hn=>⟨hn.2,(aEa n hn.1).2⟩,Kj _,rfl,rfl,rfl⟩
theorem qn(m:Nat)(l:List Pa)(p:Pa)(hl:l.length≤1000)(hd:lN l p)(h:Hp)(hm:h m=some (.arr (.agg 2) (l.map Ka))):aX Tryz.prog 109 [lH m l,p.v] h (.tup [lH m l, .bool false]):=by
 refine Bq hm (fun L hL=>?_) (Dk m l p hl hd h (fun _=>hm));unfold lH tG;split<;>simp[Kf,bP,hL]
theorem B5{P:Program}{k:Sh}{f bs:Nat}(hL:aJ P f=some (LB.Clone k bs))(hbs:bs≤140737)(m:Nat)(es:List V)(hl:es.length≤1000000000)(hv:∀L,bP L es)(h:Hp)(hm:h m=some (.arr k es)):rT P f [.rs m k 0 es.length] h k es:=by
 refine sr hv fun h' nx hh=>aD hL fun hd=>?_;have hm':=hh m _ hm rfl;have hlt:=hd m _ hm';have hb:es.length*bs≤140737488355328:=KC (Nat.mul_le_mul hl hbs) or;simp only[jL,jM,jA,jB,jN,jO,jP,jQ,Kd];have hrf:(es.length≤es.length)=True:=eq_true (Kj _)
 (repeat' (first|(with_reducible first|refine stp ?_|refine bG ZM ?_|refine iI (fun _=>?_) (fun _=>?_))|((first|(with_reducible refine fO ?_;first|refine eH rfl ?_ ?_|refine rC rfl rfl (by simp only[hm',hlt,hb,hrf,if_true,hm',hlt,hb,hrf,if_true,go_sem,reduceIte,jA,jB,jC,jD,reduceCtorEq,jE,jF];try omega) ?_|refine Zx ?_)|(with_reducible refine fP ?_;first|refine bY rfl ?_ ?_|refine ZX ?_)|refine Zy ?_)<;>try simp only[hm',hlt,hb,hrf,if_true,go_sem,reduceIte,jA,jB,jC,jD,reduceCtorEq,jE,jF])|refine ZY ?_|omega))
 refine aG (h'.set (nx+1) .tip) ?_ ⟨nx+1,or,?_,rfl⟩
 ·intro x b hx;by_cases e:x=nx+1
  ·subst e;simp only[go_sem,reduceIte,jA,jB,jC,jD,reduceCtorEq,jE,jF] at hx⊢;exact hx
  have hx':h' x=some b:=by unfold Ke at hx;rwa [if_neg e] at hx
  have:=hd x b hx';have e1:(x=nx)=False:=eq_false or;simp only[e,e1,go_sem,reduceIte,jA,jB,jC,jD,reduceCtorEq,jE,jF];exact hx'
 simp only[go_sem,reduceIte,jA,jB,jC,jD,reduceCtorEq,jE,jF]
end Go.Proofs.YtecepaehmojpgaaGreat
namespace Go.Proofs.YtecepaehmojpgaaGreat
open Go.RowKit Go.Sort
attribute [local irreducible] KI
theorem vn(m:Nat)(l:List Pa):(lH m l).aAD=true:=by unfold lH tG;split<;>rfl
theorem jc(m:Nat)(l:List Pa):(lH m l).fits .leaf=true:=by rw[sN];exact vn m l
def eQ(n:Nat)(ν:Nat→Nat)(out:List (List Pa)):List V:=(KT n).map fun k=>lH (ν k) (out.getD k [])
theorem vA(n:Nat)(ν:Nat→Nat)(out:List (List Pa)):(eQ n ν out).length=n:=by simp[eQ]
theorem ft{n:Nat}{ν:Nat→Nat}{out:List (List Pa)}{t:Nat}(ht:t<n):(eQ n ν out).getD t (.tup [])=lH (ν t) (out.getD t []):=by
 unfold eQ;rw[Ki,Kp (by simpa using ht)];simp
structure nE(h' hp:Hp)(nx nx1 n:Nat)(mv:V)(out:List (List Pa))(ν:Nat→Nat):Prop where
 box:hp nx=some (.arr (.agg 2) [mv])
 tab:hp (nx+1)=some (.arr .leaf (eQ n ν out))
 row:∀k,k<n→out.getD k []≠ []→hp (ν k)=some (.arr (.agg 2) ((out.getD k []).map Ka))∧nx+2≤ν k∧ν k<nx1
 apart:∀j k,j<n→k<n→j≠k→out.getD j []≠ []→out.getD k []≠ []→ν j≠ν k
 dom:aK hp nx1
 ge:nx+2≤nx1
 same:Hp.same nx h' hp
theorem nE.aGF{h' hp:Hp}{nx nx1 n:Nat}{mv:V}{out:List (List Pa)}{ν:Nat→Nat}(F:nE h' hp nx nx1 n mv out ν){x:Nat}(h1:nx1≤x){nx2:Nat}(h2:x<nx2)(b:Blk):nE h' (hp.set x b) nx nx2 n mv out ν:=by
 have hge:=F.ge;have hs:∀y,y<nx1→(hp.set x b) y=hp y:=fun y hy=>by unfold Ke;rw[if_neg or]
 refine⟨by rw[hs _ or];exact F.box,by rw[hs _ or];exact F.tab,fun k hk hne=>?_,F.apart,F.dom.set or or b,or,(by(try dsimp only);repeat (first|exact F.same|refine aV ?_ or _|refine aW ?_ or))⟩;obtain⟨a,b',c⟩:=F.row k hk hne;exact⟨by rw[hs _ c];exact a,b',or⟩
theorem nE.again{h' hp:Hp}{nx nx1 n:Nat}{mv:V}{out:List (List Pa)}{ν:Nat→Nat}(F:nE h' hp nx nx1 n mv out ν){x:Nat}(hx:nx+2≤x)(hx1:x<nx1)(hν:∀k,k<n→out.getD k []≠ []→ν k≠x)(b:Blk):nE h' (hp.set x b) nx nx1 n mv out ν:=by
 have hge:=F.ge;have hs:∀y,y≠x→(hp.set x b) y=hp y:=fun y hy=>by unfold Ke;rw[if_neg hy]
 refine⟨by rw[hs _ or];exact F.box,by rw[hs _ or];exact F.tab,fun k hk hne=>?_,F.apart,F.dom.aAh hx1 b,or,(by(try dsimp only);repeat (first|exact F.same|refine aV ?_ or _|refine aW ?_ or))⟩;obtain⟨a,b',c⟩:=F.row k hk hne;exact⟨by rw[hs _ (hν k hk hne)];exact a,b',c⟩
theorem nE.del{h' hp:Hp}{nx nx1 n:Nat}{mv:V}{out:List (List Pa)}{ν:Nat→Nat}(F:nE h' hp nx nx1 n mv out ν){id:Nat}(hid:hp id=some .tip)(hge:nx+2≤id):nE h' (hp.del id) nx nx1 n mv out ν:=by
 have hs:∀y,hp y≠some .tip→(hp.del id) y=hp y:=fun y hy=>by unfold Hp.del;rw[if_neg (fun e=>hy (by rw[e];exact hid))]
 refine⟨by rw[hs _ (by rw[F.box];exact(fun e=>by cases e))];exact F.box,by rw[hs _ (by rw[F.tab];exact(fun e=>by cases e))];exact F.tab,fun k hk hne=>?_,F.apart,F.dom.del,F.ge,(by(try dsimp only);repeat (first|exact F.same|refine aV ?_ or _|refine aW ?_ or))⟩;obtain⟨a,b',c⟩:=F.row k hk hne;exact⟨by rw[hs _ (by rw[a];exact(fun e=>by cases e))];exact a,b',c⟩
theorem nE.up{h' hp:Hp}{nx nx1 nx2 n:Nat}{mv:V}{out:List (List Pa)}{ν:Nat→Nat}(F:nE h' hp nx nx1 n mv out ν)(h:nx1≤nx2):nE h' hp nx nx2 n mv out ν:=
 ⟨F.box,F.tab,fun k hk hne=>⟨(F.row k hk hne).1,(F.row k hk hne).2.1,Nat.lt_of_lt_of_le (F.row k hk hne).2.2 h⟩,F.apart,F.dom.up h,KC F.ge h,F.same⟩
theorem nE.put{h' hp:Hp}{nx nx1 nx2 n:Nat}{mv:V}{out:List (List Pa)}{ν:Nat→Nat}(F:nE h' hp nx nx1 n mv out ν)(hlen:out.length=n){t x:Nat}(ht:t<n)(L':List Pa)(hL:L'≠ [])(hx:nx1≤x)(hx2:x<nx2)
 {hq:Hp} (h1:hq x=some (.arr (.agg 2) (L'.map Ka))) (h2:hq (nx+1)=some (.arr .leaf ((eQ n ν out).set t (.rs x (.agg 2) 0 L'.length)))) (h3:∀y,y≠x→y≠nx+1→(out.getD t []≠ []→y≠ν t)→y<nx1→hq y=hp y) (hd:aK hq nx2):
 nE h' hq nx nx2 n mv (out.set t L') (fun k=>if k=t then x else ν k):=by
 have hge:=F.ge;have aAR:∀j,(out.set t L').getD j []=if j=t then L' else out.getD j []:=fun j=>mA _ _ _ _ _ (by rw[hlen];exact ht)
 refine⟨?_,?_,fun k hk hne=>?_,fun j k hj hk hjk hnj hnk=>?_,hd,or,fun y hy=>?_⟩
 ·rw[h3 nx or or (fun hne e=>by have:=(F.row t ht hne).2.1;omega) or];exact F.box
 ·rw[h2];congr 2;refine Kz (by simp[eQ]) fun i i1 i2=>?_;have hin:i<n:=by simpa [eQ] using i2
  rw[KM];simp only[eQ,KB,Kw,aAR];by_cases e:t=i
  ·subst e;simp only[if_true];unfold lH tG;cases L' with
   |nil=>exact absurd rfl hL
   |cons=>simp
  have e':¬i=t:=fun h=>e h.symm;simp only[e,e',if_false]
 ·rw[aAR] at hne⊢;by_cases e:k=t
  ·simp only[e,if_true];exact⟨h1,or,hx2⟩
  simp only[e,if_false] at hne⊢;obtain⟨a,b,c⟩:=F.row k hk hne;exact⟨by rw[h3 _ or or (fun hnt=>F.apart k t hk ht e hne hnt) c];exact a,b,or⟩
 ·rw[aAR] at hnj hnk;by_cases e:j=t<;>by_cases e2:k=t
  ·omega
  ·simp only[e,e2,if_true,if_false] at hnk⊢;have:=(F.row k hk hnk).2.2;omega
  ·simp only[e,e2,if_true,if_false] at hnj⊢;have:=(F.row j hj hnj).2.2;omega
  simp only[e,e2,if_false] at hnj hnk⊢;exact F.apart j k hj hk hjk hnj hnk
 rw[h3 y or or (fun hne e=>by have:=(F.row t ht hne).2.1;omega) or];exact F.same y hy
def coL(out:List (List Pa)):Nat:=(out.map co).sum
theorem zc{out:List (List Pa)}{t:Nat}{L':List Pa}(ht:t<out.length)(hc:co L'+1≤co (out.getD t [])):coL (out.set t L')+1≤coL out:=by
 unfold coL;induction out generalizing t with
 |nil=>simp at ht
 |cons x out ih=>
  cases t with
  |zero=>
   simp at hc;simp only[List.set_cons_zero,Kq,KK];omega
  |succ t=>
   have:=ih (t:=t) (by simpa using ht) (by simpa using hc);simp only[List.set_cons_succ,Kq,KK];omega
theorem DC(out:List (List Pa)):coL out≤out.length*2097154:=by
 unfold coL;induction out with
 |nil=>simp
 |cons x out ih=>
  have h1:=wC x;have h2:=wC (x.filter fun p=>p.n);simp only[Kq,KK,List.length_cons,co];omega
theorem qC{l:List Pa}(h:Can l):l.length≤2:=by
 match l,h with
 | [],_=>simp
 | [a],_=>simp
 | [a,b],_=>simp
 |a::b::c::l,h=>
  have h1:=(Kv.1 h).1 b Zm;have h2:=(Kv.1 (Kv.1 h).2).1 c Zm;rw[h1.2.1] at h2;cases h2.1
end Go.Proofs.YtecepaehmojpgaaGreat
namespace Go.Proofs.YtecepaehmojpgaaGreat
open Go.RowKit Go.Sort
attribute [local irreducible] KI
theorem AM{h' hp:Hp}{nx nx1 n:Nat}{mv:V}{out:List (List Pa)}{ν:Nat→Nat}(F:nE h' hp nx nx1 n mv out ν){k:Nat}(hk:k<n)(hl:(out.getD k []).length≤1000){id:Nat}(hid:hp id=some .tip)(aC1:id<nx1):
 bD Tryz.prog 107 [lH (ν k) (out.getD k [])] hp nx1 fun v h2 nx2=>∃o,v=pas o (out.getD k [])∧nE h' h2 nx nx2 n mv out ν∧h2 id=some .tip∧id<nx2:=by
 by_cases hne:out.getD k []=[]
 ·rw[hne];have c:=fp wI or .nil [] Zm (fun _=>rfl) (fun L=>trivial) hp hp nx1 (aU _);refine c.mono ?_;rintro v h2 nx2 hnx ⟨rfl,rfl,rfl⟩;exact⟨.nil,rfl,F,hid,aC1⟩
 have aBK:lH (ν k) (out.getD k [])= .rs (ν k) (.agg 2) 0 ((out.getD k []).map Ka).length:=by
  unfold lH tG;cases e:out.getD k [] with
  |nil=>exact absurd e hne
  |cons=>simp
 rw[aBK];have c:=(B5 wI or (ν k) ((out.getD k []).map Ka) (by rw[jK];omega) (fun L=>bE (Pa.aAM L) _) hp (F.row k hk hne).1).2 hp nx1 (aU _);refine c.mono ?_;rintro v h2 nx2 hnx ⟨rfl,rfl,rfl⟩;refine⟨.tok nx1,rfl,F.aGF (Kj _) or _,?_,or⟩;unfold Ke;rw[if_neg or];exact hid
set_option maxRecDepth 100000 in
set_option maxHeartbeats 4000000 in
theorem AA(ow:Own)(n:Nat)(l:List We)(a:Nat)(aAH:xI n l)(ha:a<n)(hn:n≤200)(hl:l.length≤1000)(h':Hp)(nx:Nat):
 bD Tryz.prog 72 [.agg [.int .i64 n,wes ow l], .int .i64 a] h' nx fun v h'' _=>∃O ν ls es,v= .rs O .leaf 0 ls.length∧nx≤O∧(∀i (hi:i<ls.length),ls[i]≠ []→nx≤ν i)∧yQ h'' O (.agg 2) ν ls 0 es∧(∀x,x<nx→h'' x=h' x)∧ls=(iY n l a).map (List.map Ka):=by
 refine aD L.aVj fun hd=>?_;have hmf:(V.agg [.int .i64 (n:Int),wes ow l]).fits (.agg 2)=true:=by simp[V.fits,V.aAD]
 simp only[jL,jM,jA,jB,jN,jO,jP,jQ,Kd];repeat (first|with_reducible refine bH ?_|with_reducible refine dN ?_|with_reducible refine eG ?_|with_reducible refine aM ?_|with_reducible refine cC ?_|with_reducible refine bM ?_|with_reducible refine eN ?_)
 refine fV rfl (by simp only[hmf,go_sem,reduceIte,jA,jB,jC,jD,reduceCtorEq,jE,jF];try omega) ?_;simp only[hmf,go_sem,reduceIte,jA,jB,jC,jD,reduceCtorEq,jE,jF];repeat (first|with_reducible refine bH ?_|with_reducible refine dN ?_|with_reducible refine eG ?_|with_reducible refine aM ?_|with_reducible refine cC ?_|with_reducible refine bM ?_|with_reducible refine eN ?_)
 refine fV rfl (by simp only[hmf,go_sem,reduceIte,jA,jB,jC,jD,reduceCtorEq,jE,jF];try omega) ?_;simp only[hmf,go_sem,reduceIte,jA,jB,jC,jD,reduceCtorEq,jE,jF];repeat (first|with_reducible refine bH ?_|with_reducible refine dN ?_|with_reducible refine eG ?_|with_reducible refine aM ?_|with_reducible refine cC ?_|with_reducible refine bM ?_|with_reducible refine eN ?_)
 refine aZ 3 rfl (by simp only[go_sem,reduceIte,jA,jB,jC,jD,reduceCtorEq,jE,jF]) ?_;refine Zn ?_;refine zZ (by simp[aO.ev,V.fits,V.aAD]) ?_;simp only[jL,jM,Kq,Kt,go_sem,reduceIte,jA,jB,jC,jD,reduceCtorEq,jE,jF];have hg0:(Km n (V.sl (.agg 2) .nil [])).getD a (.tup [])= .sl (.agg 2) .nil []:=by
  rw[Ki,KG,if_pos ha];rfl
 have aS5:bU .leaf 0 (V.sl (.agg 2) .nil []) (.rs (nx+2) (.agg 2) 0 1)= .rs (nx+2) (.agg 2) 0 1:=cG rfl rfl
 (repeat' (first|(with_reducible first|refine stp ?_|refine bG ZM ?_|refine iI (fun _=>?_) (fun _=>?_))|((first|(with_reducible refine fO ?_;first|refine eH rfl ?_ ?_|refine Zx ?_)|(with_reducible refine fP ?_;first|refine bY rfl ?_ ?_|refine ZX ?_)|refine Zy ?_)<;>try simp only[ha,KJ,hg0,aS5,go_sem,reduceIte,jA,jB,jC,jD,reduceCtorEq,jE,jF])|refine ZY ?_|omega))
 obtain⟨mv,hmv⟩:∃mv:V,mv= .agg [.int .i64 (n:Int),wes ow l]:=⟨_,rfl⟩;have F0:nE h' ((h'.set nx (.arr (.agg 2) [mv])).set (nx+1) (.arr .leaf (Km n (.sl (.agg 2) .nil [])))) nx (nx+2) n mv (Km n []) (fun _=>0):=by
  have aNK:∀k,(Km n ([]:List Pa)).getD k []=[]:=fun k=>by rw[Ki,KG];split<;>rfl
  refine⟨by simp only[go_sem,reduceIte,jA,jB,jC,jD,reduceCtorEq,jE,jF],?_,fun k hk hne=>absurd (aNK k) hne,fun j k hj hk hjk hnj=>absurd (aNK j) hnj,(by(try dsimp only);repeat (first|exact aK.up hd or|refine aK.aAh ?_ or _|refine aK.del ?_|refine aK.aAb ?_ _)),Kj _,(by(try dsimp only);repeat (first|exact Hp.same.aBI|refine aV ?_ or _|refine aW ?_ or))⟩;refine Zn ?_;congr 1;refine Kz (by simp[eQ]) fun i i1 i2=>?_;simp only[eQ,KB,Kw,aNK,List.getElem_replicate];rfl
 have hin:a<(Km n ([]:List Pa)).length:=by simpa using ha
 have F1:=F0.put Zm ha [Kg] Zm (x:=nx+2) (nx2:=nx+5) or or (hq:=((((h'.set nx (.arr (.agg 2) [mv])).set (nx+1) (.arr .leaf (Km n (.sl (.agg 2) .nil [])))).set (nx+2) (.arr (.agg 2) [Pa.aAO.v])).set (nx+1) (.arr .leaf ((Km n (.sl (.agg 2) .nil [])).set a (.rs (nx+2) (.agg 2) 0 1)))).set (nx+4) .tip)
  (by simp only[Kq,Kt,go_sem,reduceIte,jA,jB,jC,jD,reduceCtorEq,jE,jF]) (by
    have:eQ n (fun _=>0) (Km n [])=Km n (.sl (.agg 2) .nil []):=by
     have:=F0.tab;simp only[go_sem,reduceIte,jA,jB,jC,jD,reduceCtorEq,jE,jF] at this;injection this with _ h2;exact h2.symm
    simp only[this,jL,jM,go_sem,reduceIte,jA,jB,jC,jD,reduceCtorEq,jE,jF]) (fun y h1 h2 _ h4=>by
    have e1:(y=nx+4)=False:=eq_false or;have e2:(y=nx+1)=False:=eq_false h2;have e3:(y=nx+2)=False:=eq_false h1;simp only[e1,e2,e3,go_sem,reduceIte,jA,jB,jC,jD,reduceCtorEq,jE,jF]) (by(try dsimp only);repeat (first|exact aK.up hd or|refine aK.aAh ?_ or _|refine aK.del ?_|refine aK.aAb ?_ _))
 refine aT (fun q:List (List Pa)×(Nat→Nat)×List Nat×Nat=>aB 88 0 [(2, .ptr nx (.agg 2) 0 0),(5, .rs (nx+1) .leaf 0 n),(6,gS q.2.2.2 q.2.2.1)])
  (fun q hp nx1=>nE h' hp nx nx1 n mv q.1 q.2.1∧hp q.2.2.2=some .tip∧nx+2≤q.2.2.2∧q.2.2.2<nx1∧og l n a q.1 q.2.2.1∧coL q.1+q.2.2.1.length≤1000000000)
  (fun q=>coL q.1+q.2.2.1.length) ((Km n []).set a [Kg],(fun k=>if k=a then nx+2 else 0),[a],nx+4) ⟨?_,?_,Zw,Zw,og.first ha,?_⟩ ?_ ?_
 ·rw[←hmv];exact F1
 ·simp only[go_sem,reduceIte,jA,jB,jC,jD,reduceCtorEq,jE,jF]
 ·have:=DC ((Km n ([]:List Pa)).set a [Kg]);simp only[List.length_set,KJ,jL,jM] at this⊢;omega
 ·simp only[WkL,aB,jH,jI,jJ,gS,go_sem,reduceIte,jA,jB,jC,jD,reduceCtorEq,jE,jF]
 clear F0 F1 hg0 aS5;rintro⟨out,ν,todo,id⟩ hp nx1 ⟨F,q2,q3,q4,W,q6⟩;generalize hQ:bO _ _ _ _ _=Q0;dsimp only at q2 q3 q4 q6 F W;simp only[aB,go_sem,reduceIte,jA,jB,jC,jD,reduceCtorEq,jE,jF];have aAa:=F.box;rw[hmv] at aAa;have aBJ:=F.tab;have hge:=F.ge;cases todo with
 |nil=>
  have hc:decide ((0:Int)<((0:Nat):Int))=false:=ZM
  (repeat' (first|(with_reducible first|refine stp ?_|refine bG ZM ?_|refine iI (fun _=>?_) (fun _=>?_))|((first|(with_reducible refine fO ?_;first|refine eH rfl ?_ ?_|refine Zx ?_)|(with_reducible refine fP ?_;first|refine bY rfl ?_ ?_|refine ZX ?_)|refine Zy ?_)<;>try simp only[gS,hc,jK,go_sem,reduceIte,jA,jB,jC,jD,reduceCtorEq,jE,jF])|refine ZY ?_|omega))
  rw[←hQ];refine au ?_;have hfl:iY n l a=out:=sq W.len fun k hk=>W.done (fun w hw=>(aAH w hw).2.1) ha k;have hol:=W.len;refine aG hp (Kc _) ⟨nx+1,ν,out.map (List.map Ka),eQ n ν out,?_,or,fun i hi hne=>?_,?_,F.same,by rw[hfl]⟩
  ·simp only[jK,hol,go_sem,reduceIte,jA,jB,jC,jD,reduceCtorEq,jE,jF]
  ·have hi':i<n:=by simpa [hol] using hi
   have hgi:out.getD i []=out[i]'or:=by rw[Ki,Kp or];rfl
   have:=(F.row i hi' (by rw[hgi];intro e;exact hne (by simp[e]))).2.1;omega
  have hgi:∀i (hi:i<n),out.getD i []=out[i]'or:=fun i hi=>by rw[Ki,Kp or];rfl
  refine⟨aBJ,by rw[vA];simp[hol],fun i hi hi' h0=>absurd h0 or,fun i hi hi' _=>?_,fun i hi _ hne=>?_,fun i i' hi hi' _ hlt hne aNV=>?_⟩
  ·have hin:i<n:=by simpa [hol] using hi
   simp only[eQ,KB,Kw,hgi i hin]
  ·have hin:i<n:=by simpa [hol] using hi
   have:=F.row i hin (by rw[hgi i hin];intro e;exact hne (by simp[e]));rw[hgi i hin] at this;exact⟨by rw[this.1];simp,or⟩
  have hin:i<n:=by simpa [hol] using hi
  have aTF:i'<n:=by simpa [hol] using hi'
  exact F.apart i i' hin aTF or (by rw[hgi i hin];intro e;exact hne (by simp[e])) (by rw[hgi i' aTF];intro e;exact aNV (by simp[e]))
 |cons k rest=>
  have hk:k<n:=W.lt k Zm;have aBa:=ft (ν:=ν) (out:=out) hk;have aBq:=vA n ν out;have aBX:=jc (ν k) (out.getD k []);have aNj:(out.getD k []).length≤1000:=KC (qC (W.can k)) or;have hcl:=AM F hk aNj q2 q4
  (repeat' (first|(with_reducible first|refine stp ?_|refine bG ZM ?_|refine iI (fun _=>?_) (fun _=>?_))|((first|(with_reducible refine fO ?_;first|refine eH rfl ?_ ?_|refine Zx ?_)|(with_reducible refine fP ?_;first|refine bY rfl ?_ ?_|refine ZX ?_)|refine Zy ?_)<;>try simp only[gS,Dv,w7,aAa,aBJ,hk,aBa,aBq,aBX,jK,jG,go_sem,reduceIte,jA,jB,jC,jD,reduceCtorEq,jE,jF])|refine ZY ?_|omega))
  refine bX (hcl.mono ?_);rintro v2 hq nx2 aBZ ⟨o8,rfl,F2,q2b,q4b⟩;unfold eI;have hfl:List.take rest.length (rest.map fun x:Nat=>V.int .i64 (x:Int))=rest.map fun x:Nat=>V.int .i64 (x:Int):=KH Zm;have aJe:=F2.box;rw[hmv] at aJe;have hpl:=qC (W.can k);have WI:=W.begin;obtain⟨paths,aJO⟩:∃paths,paths=out.getD k []:=⟨_,rfl⟩;rw[←aJO] at hpl WI⊢;simp only[hfl,go_sem,reduceIte,jA,jB,jC,jD,reduceCtorEq,jE,jF];refine aue aJe ?_
  refine aT (fun q:Nat×List (List Pa)×(Nat→Nat)×List Nat×Nat=>aB 88 0 [(2, .ptr nx (.agg 2) 0 0),(5, .rs (nx+1) .leaf 0 n),(6,gS q.2.2.2.2 q.2.2.2.1),(7, .int .i64 k),(8,pas o8 paths),(40,wes ow l),(41, .int .i64 l.length),(42, .int .i64 q.1)])
   (fun q hp nx1=>q.1≤l.length∧nE h' hp nx nx1 n mv q.2.1 q.2.2.1∧hp q.2.2.2.2=some .tip∧nx+2≤q.2.2.2.2∧q.2.2.2.2<nx1∧nA l n a k paths (fun w _=>w∈l.take q.1) q.2.1 q.2.2.2.1∧coL q.2.1+q.2.2.2.1.length≤coL out+rest.length)
   (fun q=>l.length-q.1) (0,out,ν,rest,id) ⟨KS _,F2,q2b,q3,q4b,WI.more (fun w hw p hp h=>by simp at h),Kj _⟩ ?_ ?_
  ·simp only[WkL,aB,jH,jI,jJ,gS,pas,wes,go_sem,reduceIte,jA,jB,jC,jD,reduceCtorEq,jE,jF]
  rintro⟨j,aMp,ν3,aHM,id3⟩ hp3 nx3 ⟨r1,F3,r2,r3,r4,W3,r6⟩;generalize hQ3:bO _ _ _ _ _=Q3;dsimp only at r1 r2 r3 r4 r6 F3 W3;simp only[aB,go_sem,reduceIte,jA,jB,jC,jD,reduceCtorEq,jE,jF];rcases KR j l.length with hlt|aIv
  ·have hc:decide ((j:Int)<(l.length:Int))=true:=decide_eq_true or;have hg:(l.map We.v).getD j (.tup [])=l[j].v:=bI We.v l j hlt;have hw:IntKind.i64.wrap ((j:Int)+1)=((j+1:Nat):Int):=by rw[aY]<;>omega
   have htk:l.take (j+1)=l.take j++[l[j]]:=Ky hlt;have hge:=F3.ge;have hwf:=aAH l[j] (KF _);by_cases hfk:l[j].f=k
   ·have hcf:((l[j].f:Int) != (k:Int))=false:=by simp[hfk]
    refine aue (ee6 hc hg hw hlt hcf We.v.eq_1) ?_;obtain⟨bA,hbA⟩:∃bA:Blk,bA= .arr (.agg 4) [V.agg [V.int Ks 0,V.int Ks 0,V.bool false,V.int Ks 0]]:=⟨_,rfl⟩;have F4:nE h' ((hp3.set nx3 bA).set nx3 (.arr (.agg 4) [l[j].v])) nx (nx3+2) n mv aMp ν3:=(F3.aGF (x:=nx3) (Kj _) (nx2:=nx3+2) or _).again or or (fun k hk hne=>by have:=(F3.row k hk hne).2.2;omega) _;rw[←hbA];have e1:(id3=nx3)=False:=eq_false or
    refine aT (fun q:Nat×List (List Pa)×(Nat→Nat)×List Nat×Nat=>aB 88 0 [(2, .ptr nx (.agg 2) 0 0),(5, .rs (nx+1) .leaf 0 n),(6,gS q.2.2.2.2 q.2.2.2.1),(7, .int .i64 k),(8,pas o8 paths),(10, .ptr nx3 (.agg 4) 0 0),(40,wes ow l),(41, .int .i64 l.length),(42, .int .i64 j),(50,pas o8 paths),(51, .int .i64 paths.length),(52, .int .i64 q.1)])
     (fun q hp nx1=>q.1≤paths.length∧nE h' hp nx nx1 n mv q.2.1 q.2.2.1∧hp q.2.2.2.2=some .tip∧nx+2≤q.2.2.2.2∧q.2.2.2.2<nx1∧hp nx3=some (.arr (.agg 4) [l[j].v])∧nx3+2≤nx1∧(∀k,k<n→q.2.1.getD k []≠ []→q.2.2.1 k≠nx3)∧nA l n a k paths (fun w p=>w∈l.take j∨(w=l[j]∧p∈paths.take q.1)) q.2.1 q.2.2.2.1∧coL q.2.1+q.2.2.2.1.length≤coL out+rest.length)
     (fun q=>paths.length-q.1) (0,aMp,ν3,aHM,id3) ⟨KS _,F4,by simp only[e1,r2,go_sem,reduceIte,jA,jB,jC,jD,reduceCtorEq,jE,jF],r3,Zw,by simp only[We.v,go_sem,reduceIte,jA,jB,jC,jD,reduceCtorEq,jE,jF],Kj _,fun k hk hne=>by have:=(F3.row k hk hne).2.2;dsimp only;omega,W3.more (fun w hw p hp h hf=> .inl (h.elim (fun h=>h) fun h=>by simp at h)),r6⟩ ?_ ?_
    ·have e50:paths.length=(paths.map Ka).length:=Zm;simp only[WkL,aB,jH,jI,jJ,gS,pas,wes,jK,We.v,go_sem,reduceIte,jA,jB,jC,jD,reduceCtorEq,jE,jF]
    rintro⟨i,aA0,ν4,aB3,id4⟩ hp4 nx4 ⟨s1,F5,s2,s3,s4,s5,s6,s7,W4,s8⟩;generalize hQ4:bO _ _ _ _ _=Q4;dsimp only at s1 s2 s3 s4 s5 s6 s7 s8 F5 W4;simp only[aB,go_sem,reduceIte,jA,jB,jC,jD,reduceCtorEq,jE,jF];have aBd:=F5.tab;have aTI:=F5.ge;rcases KR i paths.length with aBg|aWW
    ·have hc:decide ((i:Int)<(paths.length:Int))=true:=decide_eq_true or;have hg4:(paths.map Ka).getD i (.tup [])=paths[i].v:=bI Ka paths i aBg;have hw4:IntKind.i64.wrap ((i:Int)+1)=((i+1:Nat):Int):=by rw[aY]<;>omega
     have hti:l[j].t<n:=hwf.2.1;have aC5:=Pa.aDZ paths[i] l[j].p;have aMr:paths.take (i+1)=paths.take i++[paths[i]]:=Ky aBg;have hpi:paths[i]∈paths:=KF _;have hwj:l[j]∈l:=KF _;have hlp:=gQ (k:=Sh.agg 2) (Kb paths[i]);have hfp:=Kb paths[i];have hft:=Kb (paths[i].then l[j].p).1;have aBa:=ft (ν:=ν4) (out:=aA0) hti;have aBq:=vA n ν4 aA0;have aBX:=jc (ν4 l[j].t) (aA0.getD l[j].t []);have n1:(nx=nx4+1)=False:=eq_false or;have n2:(nx+1=nx4)=False:=eq_false or;have n3:nx+1<nx4:=or;have n4:nx3<nx4:=or;have n5:(nx3=nx4)=False:=eq_false or;have n6:(nx3=nx4+2)=False:=eq_false or;have i1:(id4=nx4)=False:=eq_false or;have i2:(id4=nx4+2)=False:=eq_false or;have n7:((0:Int)≤(i:Int))=True:=eq_true or;have n8:((i:Int)<(paths.length:Int))=True:=eq_true or;have n9:((0:Int)≤(l[j].t:Int))=True:=eq_true or;have n10:((l[j].t:Int)<(n:Int))=True:=eq_true or;by_cases he:(paths[i].then l[j].p).2=0
     ·rw[if_pos he] at aC5;have hce:decide ((paths[i].then l[j].p).2=0)=true:=decide_eq_true he;obtain⟨r,hr⟩:∃r,r=(paths[i].then l[j].p).1:=⟨_,rfl⟩;rw[←hr] at aC5 hft;have hfr:=Kb r;by_cases hdo:lN (aA0.getD l[j].t []) r
      ·(repeat' (first|(with_reducible first|refine stp ?_|refine bG ZM ?_|refine iI (fun _=>?_) (fun _=>?_))|((first|(with_reducible refine fO ?_;first|refine eH rfl ?_ ?_|refine aQ (pF paths[i] l[j].p _) rfl (aU _) ?_|refine Zx ?_)|(with_reducible refine fP ?_;first|refine bY rfl ?_ ?_|refine ZX ?_)|refine Zy ?_)<;>try simp only[hc,hg4,aBg,hw4,hce,iE,hlp,hfp,hft,aBa,aBq,hti,aBX,n1,n2,n3,n4,n5,n6,n7,n8,n9,n10,and_self,and_true,true_and,s5,s6,aBd,We.v,←hr,jK,jG,go_sem,reduceIte,jA,jB,jC,jD,reduceCtorEq,jE,jF])|refine ZY ?_|omega))
       have aDd:aA0.getD l[j].t []≠ []:=fun e=>by obtain⟨q,hq,_⟩:=hdo;rw[e] at hq;cases hq
       have aEU:=(F5.row _ hti aDd).1;have hl4:=qC (W4.can l[j].t);have hst:bU .leaf 0 (lH (ν4 l[j].t) (aA0.getD l[j].t [])) (lH (ν4 l[j].t) (aA0.getD l[j].t []))=lH (ν4 l[j].t) (aA0.getD l[j].t []):=cG aBX aBX;have aNH:(eQ n ν4 aA0).set l[j].t (lH (ν4 l[j].t) (aA0.getD l[j].t []))=eQ n ν4 aA0:=by
        refine Kz Zm fun i i1 i2=>?_;rw[KM];split
        ·rename_i e;subst e;rw[←aBa,Ki,Kp i2];rfl
        rfl
       have aC6:∀hx:Hp,(hx (nx+1)=some (.arr .leaf (eQ n ν4 aA0)))→hx.set (nx+1) (.arr .leaf (eQ n ν4 aA0))=hx:=fun hx e=>by
        funext y;unfold Ke;split
        ·rename_i e';subst e';exact e.symm
        rfl
       refine kC (qn (ν4 l[j].t) (aA0.getD l[j].t []) r or hdo (Ke (fun _=>none) (ν4 l[j].t) (.arr (.agg 2) ((aA0.getD l[j].t []).map Ka))) ?_) rfl ?_ ?_
       ·simp only[go_sem,reduceIte,jA,jB,jC,jD,reduceCtorEq,jE,jF]
       ·intro y es e _;unfold Ke at e;split at e
        ·rename_i ey;have h1:=(F5.row _ hti aDd).2.2;have m1:(ν4 l[j].t=nx4)=False:=eq_false or;have m2:(ν4 l[j].t=nx4+2)=False:=eq_false or;rw[←e,ey];simp only[iN,m1,m2,aEU,go_sem,reduceIte,jA,jB,jC,jD,reduceCtorEq,jE,jF]
        cases e
       refine Zn ?_;refine aue and_self ?_;refine pS (es:=eQ n ν4 aA0) rfl (oP or (by simp only[n1,n2,aBd,go_sem,reduceIte,jA,jB,jC,jD,reduceCtorEq,jE,jF]) (by simp only[cU])) (by rw[aBq];exact hti) (by first|exact gY _|simp only[go_sem,reduceIte,jA,jB,jC,jD,reduceCtorEq,jE,jF]) aBX ?_;simp only[aBa,hst,aNH,jG,go_sem,reduceIte,jA,jB,jC,jD,reduceCtorEq,jE,jF];refine aue (xg aBa aBq hti aBX n1 n2 n3 n4 n5 n6 n9 n10 and_self and_true true_and aBd) ?_;rw[←hQ4,aC6 _ (by simp only[n1,n2,aBd,go_sem,reduceIte,jA,jB,jC,jD,reduceCtorEq,jE,jF])];have FB:=((((F5.aGF (x:=nx4) (Kj _) (nx2:=nx4+20) or (.arr (.agg 2) [V.agg [V.bool false,V.int Ks 0]])).again or or (fun k hk hne=>by have:=(F5.row k hk hne).2.2;omega) (.arr (.agg 2) [paths[i].v])).again (x:=nx4+2) or or (fun k hk hne=>by have:=(F5.row k hk hne).2.2;omega) (.arr (.agg 2) [V.agg [V.bool false,V.int Ks 0]])).again (x:=nx4+2) or or (fun k hk hne=>by have:=(F5.row k hk hne).2.2;omega) (.arr (.agg 2) [r.v]));refine aF (i+1,aA0,ν4,aB3,id4) Zw ⟨aBg,FB,by simp only[i1,i2,s2,go_sem,reduceIte,jA,jB,jC,jD,reduceCtorEq,jE,jF],s3,Zw,by simp only[n5,n6,s5,go_sem,reduceIte,jA,jB,jC,jD,reduceCtorEq,jE,jF],or,fun k hk hne=>s7 k hk hne,W4.more (fun w hw p hp h hf=>?_),s8⟩ ?_
       ·rcases h with h|⟨h1,h2⟩
        ·exact .inl (.inl h)
        dsimp only at h2;rw[aMr] at h2;rcases Ku.1 h2 with h|h
        ·exact .inl (.inr ⟨h1,h⟩)
        refine .inr fun r' hr'=>?_;rw[h1,Ko.1 h,aC5] at hr';injection hr' with hr';rw[h1,←hr'];exact hdo
       simp only[WkL,aB,jH,jI,jJ,gS,pas,wes,hw4,go_sem,reduceIte,jA,jB,jC,jD,reduceCtorEq,jE,jF]
      have hl4:=qC (W4.can l[j].t);by_cases aDd:aA0.getD l[j].t []=[]
      --PUT0
      ·have hpy:=yf (ν4 l[j].t) (aA0.getD l[j].t []) r (W4.can _) or hdo ((((hp4.set nx4 (.arr (.agg 2) [V.agg [V.bool false,V.int .i64 0]])).set nx4 (.arr (.agg 2) [paths[i].v])).set (nx4+2) (.arr (.agg 2) [V.agg [V.bool false,V.int .i64 0]])).set (nx4+2) (.arr (.agg 2) [r.v]))
        (fun hne=>absurd aDd hne)
       rw[if_pos aDd] at hpy
       (repeat' (first|(with_reducible first|refine stp ?_|refine bG ZM ?_|refine iI (fun _=>?_) (fun _=>?_))|((first|(with_reducible refine fO ?_;first|refine eH rfl ?_ ?_|refine aQ (pF paths[i] l[j].p _) rfl (aU _) ?_|refine Zx ?_)|(with_reducible refine fP ?_;first|refine bY rfl ?_ ?_|refine ZX ?_)|refine Zy ?_)<;>try simp only[hc,hg4,aBg,hw4,hce,iE,hlp,hfp,hft,hfr,aBa,aBq,hti,aBX,n1,n2,n3,n4,n5,n6,n7,n8,n9,n10,and_self,and_true,true_and,s5,s6,aBd,We.v,←hr,jK,jG,go_sem,reduceIte,jA,jB,jC,jD,reduceCtorEq,jE,jF])|refine ZY ?_|omega))
       refine eu hpy rfl (fun c' ec=>by cases ec) trivial ?_;refine Zn ?_;refine aue and_self ?_;refine pS (es:=eQ n ν4 aA0) rfl (oP or (by simp only[n1,n2,aBd,go_sem,reduceIte,jA,jB,jC,jD,reduceCtorEq,jE,jF]) (by simp only[cU])) (by rw[aBq];exact hti) (by first|exact gY _|simp only[go_sem,reduceIte,jA,jB,jC,jD,reduceCtorEq,jE,jF]) rfl ?_;have hst:∀x L,bU .leaf 0 (lH (ν4 l[j].t) (aA0.getD l[j].t [])) (.rs x (.agg 2) 0 L)= .rs x (.agg 2) 0 L:=fun x L=>cG aBX rfl;simp only[aBa,hst,jG,go_sem,reduceIte,jA,jB,jC,jD,reduceCtorEq,jE,jF];have k1:(id4=nx+1)=False:=eq_false (fun e=>by rw[e,aBd] at s2;cases s2);have k3:(nx3=nx+1)=False:=eq_false or;have k5:(id4=nx4+13)=False:=eq_false or;have k6:(id4=nx4+20)=False:=eq_false or;have hrl:aB3.length≤1000000000:=by simp only[jL] at q6;omega
       have aHb:(aB3.length+1)*8≤140737488355328:=or
       (repeat' (first|(with_reducible first|refine stp ?_|refine bG ZM ?_|refine iI (fun _=>?_) (fun _=>?_))|((first|(with_reducible refine fO ?_;first|refine eH rfl ?_ ?_|refine rC rfl rfl (by simp only[n1,n2,n3,n4,n5,n6,n9,n10,k1,k3,k5,i1,i2,s2,s4,s5,s6,aHb,gS,We.v,jK,and_self,and_true,true_and,n1,n2,n3,n4,n5,n6,n9,n10,k1,k3,k5,i1,i2,s2,s4,s5,s6,aHb,gS,We.v,jK,and_self,and_true,true_and,go_sem,reduceIte,jA,jB,jC,jD,reduceCtorEq,jE,jF];try omega) ?_|refine Zx ?_)|(with_reducible refine fP ?_;first|refine bY rfl ?_ ?_|refine ZX ?_)|refine Zy ?_)<;>try simp only[n1,n2,n3,n4,n5,n6,n9,n10,k1,k3,k5,i1,i2,s2,s4,s5,s6,aHb,gS,We.v,jK,and_self,and_true,true_and,go_sem,reduceIte,jA,jB,jC,jD,reduceCtorEq,jE,jF])|refine ZY ?_|omega))
       rw[←hQ4];have hx0:nx4+13<nx4+20:=or;have p1:(nx4+13=nx+1)=False:=eq_false or;have p2:(nx4+12=nx)=False:=eq_false or;have aA6:gB (aA0.getD l[j].t []) r≠ []:=by unfold gB;split<;>simp
       have FA:=F5.put W4.len hti (gB (aA0.getD l[j].t []) r) aA6 (x:=nx4+13) (nx2:=nx4+20) or hx0 (hq:=((((((hp4.set nx4 (.arr (.agg 2) [V.agg [V.bool false,V.int .i64 0]])).set nx4 (.arr (.agg 2) [paths[i].v])).set (nx4+2) (.arr (.agg 2) [V.agg [V.bool false,V.int .i64 0]])).set (nx4+2) (.arr (.agg 2) [r.v])).set (nx4+13) (.arr (.agg 2) ((gB (aA0.getD l[j].t []) r).map Ka)))).set (nx+1) (.arr .leaf ((eQ n ν4 aA0).set l[j].t (.rs (nx4+13) (.agg 2) 0 (gB (aA0.getD l[j].t []) r).length))))
        (by simp only[p1,p2,go_sem,reduceIte,jA,jB,jC,jD,reduceCtorEq,jE,jF]) (by simp only[go_sem,reduceIte,jA,jB,jC,jD,reduceCtorEq,jE,jF]) (fun y y1 y2 y3 y4=>by
          have z1:(y=nx4)=False:=eq_false or;have z2:(y=nx4+2)=False:=eq_false or;have z3:(y=nx4+13)=False:=eq_false or;have z4:(y=nx+1)=False:=eq_false y2;simp only[z1,z2,z3,z4,go_sem,reduceIte,jA,jB,jC,jD,reduceCtorEq,jE,jF]) (by(try dsimp only);repeat (first|exact aK.up F5.dom or|refine aK.aAh ?_ or _|refine aK.del ?_|refine aK.aAb ?_ _))
       have FB:=((FA.aGF (x:=nx4+20) (Kj _) (nx2:=nx4+21) or .tip).del (id:=id4) (by simp only[i1,i2,k1,k5,k6,s2,go_sem,reduceIte,jA,jB,jC,jD,reduceCtorEq,jE,jF]) s3).aGF (x:=nx4+21) (Kj _) (nx2:=nx4+22) or .tip;have hco:=zc (by rw[W4.len];exact hti) (B3 (fun x hx=>(W4.val l[j].t x hx).ok) ((hfk▸W4.pv _ hpi:Val l a l[j].f paths[i]).step hwj aC5).ok hdo);have WP:=W4.put hwj hfk hti hpi aC5 hdo;have k7:(nx3=id4)=False:=eq_false (fun e=>by rw[←e,s5] at s2;cases s2);have k8:(nx3=nx4+13)=False:=eq_false or;have k9:(nx3=nx4+20)=False:=eq_false or;have k10:(nx3=nx4+21)=False:=eq_false or;refine aF (i+1,aA0.set l[j].t (gB (aA0.getD l[j].t []) r),(fun k=>if k=l[j].t then nx4+13 else ν4 k),aB3++[l[j].t],nx4+21) Zw ⟨aBg,FB,by simp only[go_sem,reduceIte,jA,jB,jC,jD,reduceCtorEq,jE,jF],Zw,Zw,by simp only[n5,n6,k3,k7,k8,k9,k10,s5,go_sem,reduceIte,jA,jB,jC,jD,reduceCtorEq,jE,jF],by(try dsimp only);omega,fun k' hk' hne=>?_,WP.more (fun w hw p hp h hf=> .inl ?_),by simp only[KL,jL,jM];omega⟩ ?_
       ·dsimp only;dsimp only at hne;split
        ·omega
        rename_i hkt;rw[mA _ _ _ _ _ (by rw[W4.len];exact hti),if_neg hkt] at hne;exact s7 k' hk' hne
       ·rcases h with h|⟨h1,h2⟩
        ·exact .inl (.inl h)
        dsimp only at h2;rw[aMr] at h2;rcases Ku.1 h2 with h|h
        ·exact .inl (.inr ⟨h1,h⟩)
        exact .inr ⟨h1,Ko.1 h⟩
       simp only[WkL,aB,jH,jI,jJ,gS,pas,wes,hw4,KP,Kq,Kt,go_sem,reduceIte,jA,jB,jC,jD,reduceCtorEq,jE,jF]
      ·have aEU:=(F5.row _ hti aDd).1;have hν4:=(F5.row _ hti aDd).2;have m1:(ν4 l[j].t=nx4)=False:=eq_false or;have m2:(ν4 l[j].t=nx4+2)=False:=eq_false or
       have hpy:=yf (ν4 l[j].t) (aA0.getD l[j].t []) r (W4.can _) or hdo ((((hp4.set nx4 (.arr (.agg 2) [V.agg [V.bool false,V.int .i64 0]])).set nx4 (.arr (.agg 2) [paths[i].v])).set (nx4+2) (.arr (.agg 2) [V.agg [V.bool false,V.int .i64 0]])).set (nx4+2) (.arr (.agg 2) [r.v]))
        (fun _=>by simp only[m1,m2,aEU,go_sem,reduceIte,jA,jB,jC,jD,reduceCtorEq,jE,jF])
       rw[if_neg aDd] at hpy
       (repeat' (first|(with_reducible first|refine stp ?_|refine bG ZM ?_|refine iI (fun _=>?_) (fun _=>?_))|((first|(with_reducible refine fO ?_;first|refine eH rfl ?_ ?_|refine aQ (pF paths[i] l[j].p _) rfl (aU _) ?_|refine Zx ?_)|(with_reducible refine fP ?_;first|refine bY rfl ?_ ?_|refine ZX ?_)|refine Zy ?_)<;>try simp only[hc,hg4,aBg,hw4,hce,iE,hlp,hfp,hft,hfr,aBa,aBq,hti,aBX,n1,n2,n3,n4,n5,n6,n7,n8,n9,n10,and_self,and_true,true_and,s5,s6,aBd,We.v,←hr,jK,jG,go_sem,reduceIte,jA,jB,jC,jD,reduceCtorEq,jE,jF])|refine ZY ?_|omega))
       refine eu hpy rfl (fun c' ec x hx m k i o ex=>?_) (oP Zw (by simp only[m1,m2,aEU,go_sem,reduceIte,jA,jB,jC,jD,reduceCtorEq,jE,jF]) (by simp only[cU])) ?_
       ·rw[Ko.1 hx] at ex;injection ec with ec;subst ec;injection ex with ex;dsimp only;exact ex▸(s7 _ hti aDd).symm
       refine Zn ?_;refine aue and_self ?_;have m3:(ν4 l[j].t=nx+1)=False:=eq_false or;have m4:(nx+1=ν4 l[j].t)=False:=eq_false or;have m5:nx+1≠ν4 l[j].t:=or;refine pS (es:=eQ n ν4 aA0) rfl (oP or (by simp only[n1,n2,aBd,go_sem,reduceIte,jA,jB,jC,jD,reduceCtorEq,jE,jF]) ⟨m5,(by simp only[cU])⟩) (by rw[aBq];exact hti) (by first|exact gY _|simp only[go_sem,reduceIte,jA,jB,jC,jD,reduceCtorEq,jE,jF]) rfl ?_;have hst:∀x L,bU .leaf 0 (lH (ν4 l[j].t) (aA0.getD l[j].t [])) (.rs x (.agg 2) 0 L)= .rs x (.agg 2) 0 L:=fun x L=>cG aBX rfl;simp only[aBa,hst,jG,go_sem,reduceIte,jA,jB,jC,jD,reduceCtorEq,jE,jF];have k1:(id4=nx+1)=False:=eq_false (fun e=>by rw[e,aBd] at s2;cases s2);have k2:(id4=ν4 l[j].t)=False:=eq_false (fun e=>by rw[e,aEU] at s2;cases s2);have k3:(nx3=nx+1)=False:=eq_false or;have k4:(nx3=ν4 l[j].t)=False:=eq_false (s7 _ hti aDd).symm;have k5:(id4=nx4+13)=False:=eq_false or;have k6:(id4=nx4+20)=False:=eq_false or;have hrl:aB3.length≤1000000000:=by simp only[jL] at q6;omega
       have aHb:(aB3.length+1)*8≤140737488355328:=or
       (repeat' (first|(with_reducible first|refine stp ?_|refine bG ZM ?_|refine iI (fun _=>?_) (fun _=>?_))|((first|(with_reducible refine fO ?_;first|refine eH rfl ?_ ?_|refine rC rfl rfl (by simp only[n1,n2,n3,n4,n5,n6,n9,n10,k1,k3,k2,k4,k5,i1,i2,s2,s4,s5,s6,aHb,gS,We.v,jK,and_self,and_true,true_and,n1,n2,n3,n4,n5,n6,n9,n10,k1,k3,k2,k4,k5,i1,i2,s2,s4,s5,s6,aHb,gS,We.v,jK,and_self,and_true,true_and,go_sem,reduceIte,jA,jB,jC,jD,reduceCtorEq,jE,jF];try omega) ?_|refine Zx ?_)|(with_reducible refine fP ?_;first|refine bY rfl ?_ ?_|refine ZX ?_)|refine Zy ?_)<;>try simp only[n1,n2,n3,n4,n5,n6,n9,n10,k1,k3,k2,k4,k5,i1,i2,s2,s4,s5,s6,aHb,gS,We.v,jK,and_self,and_true,true_and,go_sem,reduceIte,jA,jB,jC,jD,reduceCtorEq,jE,jF])|refine ZY ?_|omega))
       rw[←hQ4];have hx0:nx4+13<nx4+20:=or;have p1:(nx4+13=nx+1)=False:=eq_false or;have p2:(nx4+12=nx)=False:=eq_false or;have p3:(nx4+13=ν4 l[j].t)=False:=eq_false or;have aA6:gB (aA0.getD l[j].t []) r≠ []:=by unfold gB;split<;>simp
       have FA:=F5.put W4.len hti (gB (aA0.getD l[j].t []) r) aA6 (x:=nx4+13) (nx2:=nx4+20) or hx0 (hq:=((((((hp4.set nx4 (.arr (.agg 2) [V.agg [V.bool false,V.int .i64 0]])).set nx4 (.arr (.agg 2) [paths[i].v])).set (nx4+2) (.arr (.agg 2) [V.agg [V.bool false,V.int .i64 0]])).set (nx4+2) (.arr (.agg 2) [r.v])).set (nx4+13) (.arr (.agg 2) ((gB (aA0.getD l[j].t []) r).map Ka))).del (ν4 l[j].t)).set (nx+1) (.arr .leaf ((eQ n ν4 aA0).set l[j].t (.rs (nx4+13) (.agg 2) 0 (gB (aA0.getD l[j].t []) r).length))))
        (by simp only[p1,p2,p3,go_sem,reduceIte,jA,jB,jC,jD,reduceCtorEq,jE,jF]) (by simp only[go_sem,reduceIte,jA,jB,jC,jD,reduceCtorEq,jE,jF]) (fun y y1 y2 y3 y4=>by
          have z1:(y=nx4)=False:=eq_false or;have z2:(y=nx4+2)=False:=eq_false or;have z3:(y=nx4+13)=False:=eq_false or;have z4:(y=nx+1)=False:=eq_false y2;have z5:(y=ν4 l[j].t)=False:=eq_false (y3 aDd);simp only[z1,z2,z3,z4,z5,go_sem,reduceIte,jA,jB,jC,jD,reduceCtorEq,jE,jF]) (by(try dsimp only);repeat (first|exact aK.up F5.dom or|refine aK.aAh ?_ or _|refine aK.del ?_|refine aK.aAb ?_ _))
       have FB:=((FA.aGF (x:=nx4+20) (Kj _) (nx2:=nx4+21) or .tip).del (id:=id4) (by simp only[i1,i2,k1,k2,k5,k6,s2,go_sem,reduceIte,jA,jB,jC,jD,reduceCtorEq,jE,jF]) s3).aGF (x:=nx4+21) (Kj _) (nx2:=nx4+22) or .tip;have hco:=zc (by rw[W4.len];exact hti) (B3 (fun x hx=>(W4.val l[j].t x hx).ok) ((hfk▸W4.pv _ hpi:Val l a l[j].f paths[i]).step hwj aC5).ok hdo);have WP:=W4.put hwj hfk hti hpi aC5 hdo;have k7:(nx3=id4)=False:=eq_false (fun e=>by rw[←e,s5] at s2;cases s2);have k8:(nx3=nx4+13)=False:=eq_false or;have k9:(nx3=nx4+20)=False:=eq_false or;have k10:(nx3=nx4+21)=False:=eq_false or;refine aF (i+1,aA0.set l[j].t (gB (aA0.getD l[j].t []) r),(fun k=>if k=l[j].t then nx4+13 else ν4 k),aB3++[l[j].t],nx4+21) Zw ⟨aBg,FB,by simp only[go_sem,reduceIte,jA,jB,jC,jD,reduceCtorEq,jE,jF],Zw,Zw,by simp only[n5,n6,k3,k4,k7,k8,k9,k10,s5,go_sem,reduceIte,jA,jB,jC,jD,reduceCtorEq,jE,jF],by(try dsimp only);omega,fun k' hk' hne=>?_,WP.more (fun w hw p hp h hf=> .inl ?_),by simp only[KL,jL,jM];omega⟩ ?_
       ·dsimp only;dsimp only at hne;split
        ·omega
        rename_i hkt;rw[mA _ _ _ _ _ (by rw[W4.len];exact hti),if_neg hkt] at hne;exact s7 k' hk' hne
       ·rcases h with h|⟨h1,h2⟩
        ·exact .inl (.inl h)
        dsimp only at h2;rw[aMr] at h2;rcases Ku.1 h2 with h|h
        ·exact .inl (.inr ⟨h1,h⟩)
        exact .inr ⟨h1,Ko.1 h⟩
       simp only[WkL,aB,jH,jI,jJ,gS,pas,wes,hw4,KP,Kq,Kt,go_sem,reduceIte,jA,jB,jC,jD,reduceCtorEq,jE,jF]
      --PUT1
     rw[if_neg he] at aC5;have hce:decide ((paths[i].then l[j].p).2=0)=false:=decide_eq_false he
     (repeat' (first|(with_reducible first|refine stp ?_|refine bG ZM ?_|refine iI (fun _=>?_) (fun _=>?_))|((first|(with_reducible refine fO ?_;first|refine eH rfl ?_ ?_|refine aQ (pF paths[i] l[j].p _) rfl (aU _) ?_|refine Zx ?_)|(with_reducible refine fP ?_;first|refine bY rfl ?_ ?_|refine ZX ?_)|refine Zy ?_)<;>try simp only[hc,hg4,aBg,hw4,hce,iE,hlp,hfp,hft,aBa,aBq,hti,aBX,n1,n2,n3,n4,n5,n6,n7,n8,n9,n10,and_self,and_true,true_and,s5,s6,aBd,We.v,jK,jG,go_sem,reduceIte,jA,jB,jC,jD,reduceCtorEq,jE,jF])|refine ZY ?_|omega))
     rw[←hQ4];have FB:=((((F5.aGF (x:=nx4) (Kj _) (nx2:=nx4+4) or (.arr (.agg 2) [V.agg [V.bool false,V.int Ks 0]])).again or or (fun k hk hne=>by have:=(F5.row k hk hne).2.2;omega) (.arr (.agg 2) [paths[i].v])).again (x:=nx4+2) or or (fun k hk hne=>by have:=(F5.row k hk hne).2.2;omega) (.arr (.agg 2) [V.agg [V.bool false,V.int Ks 0]])).again (x:=nx4+2) or or (fun k hk hne=>by have:=(F5.row k hk hne).2.2;omega) (.arr (.agg 2) [(paths[i].then l[j].p).1.v]));refine aF (i+1,aA0,ν4,aB3,id4) Zw ⟨aBg,FB,by simp only[i1,i2,s2,go_sem,reduceIte,jA,jB,jC,jD,reduceCtorEq,jE,jF],s3,Zw,by simp only[n5,n6,s5,go_sem,reduceIte,jA,jB,jC,jD,reduceCtorEq,jE,jF],or,fun k hk hne=>s7 k hk hne,W4.more (fun w hw p hp h hf=>?_),s8⟩ ?_
     ·rcases h with h|⟨h1,h2⟩
      ·exact .inl (.inl h)
      dsimp only at h2;rw[aMr] at h2;rcases Ku.1 h2 with h|h
      ·exact .inl (.inr ⟨h1,h⟩)
      refine .inr fun r hr=>?_;rw[h1,Ko.1 h,aC5] at hr;cases hr
     simp only[WkL,aB,jH,jI,jJ,gS,pas,wes,go_sem,reduceIte,jA,jB,jC,jD,reduceCtorEq,jE,jF]
    have hc:decide ((i:Int)<(paths.length:Int))=false:=decide_eq_false or;refine aue hc ?_;rw[←hQ4];refine au ?_;rw[←hQ3];refine aF (j+1,aA0,ν4,aB3,id4) Zw ⟨hlt,F5,s2,s3,s4,W4.more (fun w hw p hp h hf=> .inl ?_),s8⟩ ?_
    ·dsimp only at h;rw[htk] at h;rcases Ku.1 h with h|h
     ·exact .inl h
     exact .inr ⟨Ko.1 h,by rw[show i=paths.length by omega,KN];exact hp⟩
    simp only[WkL,aB,jH,jI,jJ,gS,pas,wes,hw,go_sem,reduceIte,jA,jB,jC,jD,reduceCtorEq,jE,jF]
   have hcf:((l[j].f:Int) != (k:Int))=true:=by simp;omega
   refine aue (ee6 hc hg hw hlt hcf We.v.eq_1) ?_;rw[←hQ3];refine aF (j+1,aMp,ν3,aHM,id3) Zw ⟨hlt,(F3.aGF (x:=nx3) (Kj _) (nx2:=nx3+2) or _).again or or (fun k hk hne=>by have:=(F3.row k hk hne).2.2;omega) _,?_,r3,Zw,W3.more (fun w hw p hp hD hf=>?_),r6⟩ ?_
   ·have e1:(id3=nx3)=False:=eq_false or;simp only[e1,r2,go_sem,reduceIte,jA,jB,jC,jD,reduceCtorEq,jE,jF]
   ·dsimp only at hD;rw[htk] at hD;rcases Ku.1 hD with h|h
    ·exact .inl h
    exact absurd (by rw[←Ko.1 h];exact hf) hfk
   simp only[WkL,aB,jH,jI,jJ,gS,pas,wes,go_sem,reduceIte,jA,jB,jC,jD,reduceCtorEq,jE,jF]
  have hc:decide ((j:Int)<(l.length:Int))=false:=decide_eq_false or;refine aue hc ?_;rw[←hQ3];refine au ?_;rw[←hQ];refine aF (aMp,ν3,aHM,id3) (by simp only[jL];omega) ⟨F3,r2,r3,r4,(W3.more (D':=fun _ _=>True) fun w hw p hp _ _=> .inl (by rw[show j=l.length by omega,KN];exact hw)).finish,by simp only[jL] at q6;dsimp only;omega⟩ ?_;simp only[WkL,aB,jH,jI,jJ,gS,go_sem,reduceIte,jA,jB,jC,jD,reduceCtorEq,jE,jF]
end Go.Proofs.YtecepaehmojpgaaGreat
