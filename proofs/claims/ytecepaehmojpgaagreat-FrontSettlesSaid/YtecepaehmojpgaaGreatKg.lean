/-
Texts of this proof,one behind the other. No conditions.
-/
import Derived.Shelf.SlSortCmp.WholeK
import Derived.Shelf.SlSortCmp.NoneTotal
import Derived.Shelf.SlSortCmp.Whole1
import Derived.Test.YtecepaehmojpgaaGreatProg
import Derived.Shelf.SlMaps.Clone
import Derived.Test.YtecepaehmojpgaaGreatKd
import Derived.Test.YtecepaehmojpgaaGreatKf
import Derived.Test.YtecepaehmojpgaaGreatKe
open Nat renaming reduceAdd→jA,reduceSub→jB,reduceLT→jC,reduceLeDiff→jD,reduceEqDiff→jE
open Int renaming reduceToNat→jF,toNat_natCast→jG,natCast_add→jH,natCast_one→jI,natCast_zero→jJ
open List renaming length_map→jK,length_cons→jL,length_nil→jM,replicate_succ→jN,replicate_zero→jO,cons_append→jP,nil_append→jQ
set_option linter.unusedSimpArgs false
set_option linter.unusedVariables false
set_option linter.unusedSectionVars false
namespace Go.Proofs.YtecepaehmojpgaaGreat
open Go.Shelf
def aEw:Go.Shelf.Ren:=⟨fun|6=>153|15=>147|14=>183|28=>164|29=>165|20=>195|21=>196|22=>197|23=>198|24=>199|25=>200|26=>201|27=>202|46=>206|47=>185|48=>186|49=>207|50=>208|57=>209|n=>n,fun|22=>84|24=>35|25=>210|3=>3|39=>230|0=>0|53=>245|55=>247|4=>4|46=>239|45=>238|50=>170|5=>5|9=>9|66=>260|70=>264|76=>275|77=>276|n=>n,fun|n=>n⟩
theorem aKa:Go.Proofs.SlLaysF0.n6 Tryz.prog aEw:={
 mixed:=by kernel_rfl
 f6:=⟨Tryz.f153.name,by decide,Tryz.func153.trans (congrArg some (by kernel_rfl))⟩
 f14:=⟨Tryz.f183.name,by decide,Tryz.func183.trans (congrArg some (by kernel_rfl))⟩
 f15:=Tryz.func147.trans (congrArg some (by kernel_rfl))
 f20:=⟨Tryz.f195.name,by decide,Tryz.func195.trans (congrArg some (by kernel_rfl))⟩
 f21:=⟨Tryz.f196.name,by decide,Tryz.func196.trans (congrArg some (by kernel_rfl))⟩
 f22:=⟨Tryz.f197.name,by decide,Tryz.func197.trans (congrArg some (by kernel_rfl))⟩
 f23:=⟨Tryz.f198.name,by decide,Tryz.func198.trans (congrArg some (by kernel_rfl))⟩
 f24:=⟨Tryz.f199.name,by decide,Tryz.func199.trans (congrArg some (by kernel_rfl))⟩
 f25:=⟨Tryz.f200.name,by decide,Tryz.func200.trans (congrArg some (by kernel_rfl))⟩
 f26:=⟨Tryz.f201.name,by decide,Tryz.func201.trans (congrArg some (by kernel_rfl))⟩
 f27:=⟨Tryz.f202.name,by decide,Tryz.func202.trans (congrArg some (by kernel_rfl))⟩
 f28:=Tryz.func164.trans (congrArg some (by kernel_rfl))
 f29:=Tryz.func165.trans (congrArg some (by kernel_rfl))
 f46:=⟨Tryz.f206.name,by decide,Tryz.func206.trans (congrArg some (by kernel_rfl))⟩
 f47:=Tryz.func185.trans (congrArg some (by kernel_rfl))
 f48:=Tryz.func186.trans (congrArg some (by kernel_rfl))
 f49:=⟨Tryz.f207.name,by decide,Tryz.func207.trans (congrArg some (by kernel_rfl))⟩
 f50:=⟨Tryz.f208.name,by decide,Tryz.func208.trans (congrArg some (by kernel_rfl))⟩
 f57:=⟨Tryz.f209.name,by decide,Tryz.func209.trans (congrArg some (by kernel_rfl))⟩
 t0:=Tryz.underlying0
 a0:=Tryz.isAgg0
 z0:=Tryz.sizeOf0
 v0:=Tryz.zeroValue0
 t3:=Tryz.underlying3
 a3:=Tryz.isAgg3
 z3:=Tryz.sizeOf3
 v3:=Tryz.zeroValue3
 t4:=Tryz.underlying4
 a4:=Tryz.isAgg4
 z4:=Tryz.sizeOf4
 v4:=Tryz.zeroValue4
 t5:=Tryz.underlying5
 a5:=Tryz.isAgg5
 z5:=Tryz.sizeOf5
 v5:=Tryz.zeroValue5
 t9:=Tryz.underlying9
 a9:=Tryz.isAgg9
 z9:=Tryz.sizeOf9
 v9:=Tryz.zeroValue9
 t22:=Tryz.underlying84
 a22:=Tryz.isAgg84
 z22:=Tryz.sizeOf84
 v22:=Tryz.zeroValue84
 t25:=Tryz.underlying210
 a25:=Tryz.isAgg210
 z25:=Tryz.sizeOf210
 v25:=Tryz.zeroValue210
 t39:=Tryz.underlying230
 a39:=Tryz.isAgg230
 z39:=Tryz.sizeOf230
 v39:=Tryz.zeroValue230
 t45:=Tryz.underlying238
 a45:=Tryz.isAgg238
 z45:=Tryz.sizeOf238
 v45:=Tryz.zeroValue238
 t46:=Tryz.underlying239
 a46:=Tryz.isAgg239
 z46:=Tryz.sizeOf239
 v46:=Tryz.zeroValue239
 t50:=Tryz.underlying170
 a50:=Tryz.isAgg170
 z50:=Tryz.sizeOf170
 v50:=Tryz.zeroValue170
 t53:=Tryz.underlying245
 a53:=Tryz.isAgg245
 z53:=Tryz.sizeOf245
 v53:=Tryz.zeroValue245
 t55:=Tryz.underlying247
 a55:=Tryz.isAgg247
 z55:=Tryz.sizeOf247
 v55:=Tryz.zeroValue247
 t66:=Tryz.underlying260
 a66:=Tryz.isAgg260
 z66:=Tryz.sizeOf260
 v66:=Tryz.zeroValue260
 t70:=Tryz.underlying264
 a70:=Tryz.isAgg264
 z70:=Tryz.sizeOf264
 v70:=Tryz.zeroValue264
 t76:=Tryz.underlying275
 a76:=Tryz.isAgg275
 z76:=Tryz.sizeOf275
 v76:=Tryz.zeroValue275
 t77:=Tryz.underlying276
 a77:=Tryz.isAgg276
 z77:=Tryz.sizeOf276
 v77:=Tryz.zeroValue276}
def aEv:Go.Shelf.Ren:=⟨fun|6=>129|15=>147|14=>150|28=>164|29=>165|20=>166|21=>167|22=>168|23=>169|24=>170|25=>171|26=>172|27=>173|46=>189|47=>185|48=>186|49=>190|50=>191|57=>204|n=>n,fun|22=>22|24=>129|25=>184|3=>3|39=>230|0=>0|53=>245|55=>247|4=>4|46=>239|45=>238|50=>170|5=>5|9=>9|66=>260|70=>264|76=>275|77=>276|n=>n,fun|n=>n⟩
theorem aJZ:Go.Proofs.SlLaysF0.n6 Tryz.prog aEv:={
 mixed:=by kernel_rfl
 f6:=⟨Tryz.f129.name,by decide,Tryz.func129.trans (congrArg some (by kernel_rfl))⟩
 f14:=⟨Tryz.f150.name,by decide,Tryz.func150.trans (congrArg some (by kernel_rfl))⟩
 f15:=Tryz.func147.trans (congrArg some (by kernel_rfl))
 f20:=⟨Tryz.f166.name,by decide,Tryz.func166.trans (congrArg some (by kernel_rfl))⟩
 f21:=⟨Tryz.f167.name,by decide,Tryz.func167.trans (congrArg some (by kernel_rfl))⟩
 f22:=⟨Tryz.f168.name,by decide,Tryz.func168.trans (congrArg some (by kernel_rfl))⟩
 f23:=⟨Tryz.f169.name,by decide,Tryz.func169.trans (congrArg some (by kernel_rfl))⟩
 f24:=⟨Tryz.f170.name,by decide,Tryz.func170.trans (congrArg some (by kernel_rfl))⟩
 f25:=⟨Tryz.f171.name,by decide,Tryz.func171.trans (congrArg some (by kernel_rfl))⟩
 f26:=⟨Tryz.f172.name,by decide,Tryz.func172.trans (congrArg some (by kernel_rfl))⟩
 f27:=⟨Tryz.f173.name,by decide,Tryz.func173.trans (congrArg some (by kernel_rfl))⟩
 f28:=Tryz.func164.trans (congrArg some (by kernel_rfl))
 f29:=Tryz.func165.trans (congrArg some (by kernel_rfl))
 f46:=⟨Tryz.f189.name,by decide,Tryz.func189.trans (congrArg some (by kernel_rfl))⟩
 f47:=Tryz.func185.trans (congrArg some (by kernel_rfl))
 f48:=Tryz.func186.trans (congrArg some (by kernel_rfl))
 f49:=⟨Tryz.f190.name,by decide,Tryz.func190.trans (congrArg some (by kernel_rfl))⟩
 f50:=⟨Tryz.f191.name,by decide,Tryz.func191.trans (congrArg some (by kernel_rfl))⟩
 f57:=⟨Tryz.f204.name,by decide,Tryz.func204.trans (congrArg some (by kernel_rfl))⟩
 t0:=Tryz.underlying0
 a0:=Tryz.isAgg0
 z0:=Tryz.sizeOf0
 v0:=Tryz.zeroValue0
 t3:=Tryz.underlying3
 a3:=Tryz.isAgg3
 z3:=Tryz.sizeOf3
 v3:=Tryz.zeroValue3
 t4:=Tryz.underlying4
 a4:=Tryz.isAgg4
 z4:=Tryz.sizeOf4
 v4:=Tryz.zeroValue4
 t5:=Tryz.underlying5
 a5:=Tryz.isAgg5
 z5:=Tryz.sizeOf5
 v5:=Tryz.zeroValue5
 t9:=Tryz.underlying9
 a9:=Tryz.isAgg9
 z9:=Tryz.sizeOf9
 v9:=Tryz.zeroValue9
 t22:=Tryz.underlying22
 a22:=Tryz.isAgg22
 z22:=Tryz.sizeOf22
 v22:=Tryz.zeroValue22
 t25:=Tryz.underlying184
 a25:=Tryz.isAgg184
 z25:=Tryz.sizeOf184
 v25:=Tryz.zeroValue184
 t39:=Tryz.underlying230
 a39:=Tryz.isAgg230
 z39:=Tryz.sizeOf230
 v39:=Tryz.zeroValue230
 t45:=Tryz.underlying238
 a45:=Tryz.isAgg238
 z45:=Tryz.sizeOf238
 v45:=Tryz.zeroValue238
 t46:=Tryz.underlying239
 a46:=Tryz.isAgg239
 z46:=Tryz.sizeOf239
 v46:=Tryz.zeroValue239
 t50:=Tryz.underlying170
 a50:=Tryz.isAgg170
 z50:=Tryz.sizeOf170
 v50:=Tryz.zeroValue170
 t53:=Tryz.underlying245
 a53:=Tryz.isAgg245
 z53:=Tryz.sizeOf245
 v53:=Tryz.zeroValue245
 t55:=Tryz.underlying247
 a55:=Tryz.isAgg247
 z55:=Tryz.sizeOf247
 v55:=Tryz.zeroValue247
 t66:=Tryz.underlying260
 a66:=Tryz.isAgg260
 z66:=Tryz.sizeOf260
 v66:=Tryz.zeroValue260
 t70:=Tryz.underlying264
 a70:=Tryz.isAgg264
 z70:=Tryz.sizeOf264
 v70:=Tryz.zeroValue264
 t76:=Tryz.underlying275
 a76:=Tryz.isAgg275
 z76:=Tryz.sizeOf275
 v76:=Tryz.zeroValue275
 t77:=Tryz.underlying276
 a77:=Tryz.isAgg276
 z77:=Tryz.sizeOf276
 v77:=Tryz.zeroValue276}
def aEx:Go.Shelf.Ren:=⟨fun|6=>138|15=>147|14=>151|28=>164|29=>165|20=>174|21=>175|22=>176|23=>177|24=>178|25=>179|26=>180|27=>181|46=>192|47=>185|48=>186|49=>193|50=>194|57=>205|n=>n,fun|22=>114|24=>127|25=>218|3=>3|39=>230|0=>0|53=>245|55=>247|4=>4|46=>239|45=>238|50=>170|5=>5|9=>9|66=>260|70=>264|76=>275|77=>276|n=>n,fun|n=>n⟩
theorem aHK:Go.Proofs.SlLaysF0.n6 Tryz.prog aEx:={
 mixed:=by kernel_rfl
 f6:=⟨Tryz.f138.name,by decide,Tryz.func138.trans (congrArg some (by kernel_rfl))⟩
 f14:=⟨Tryz.f151.name,by decide,Tryz.func151.trans (congrArg some (by kernel_rfl))⟩
 f15:=Tryz.func147.trans (congrArg some (by kernel_rfl))
 f20:=⟨Tryz.f174.name,by decide,Tryz.func174.trans (congrArg some (by kernel_rfl))⟩
 f21:=⟨Tryz.f175.name,by decide,Tryz.func175.trans (congrArg some (by kernel_rfl))⟩
 f22:=⟨Tryz.f176.name,by decide,Tryz.func176.trans (congrArg some (by kernel_rfl))⟩
 f23:=⟨Tryz.f177.name,by decide,Tryz.func177.trans (congrArg some (by kernel_rfl))⟩
 f24:=⟨Tryz.f178.name,by decide,Tryz.func178.trans (congrArg some (by kernel_rfl))⟩
 f25:=⟨Tryz.f179.name,by decide,Tryz.func179.trans (congrArg some (by kernel_rfl))⟩
 f26:=⟨Tryz.f180.name,by decide,Tryz.func180.trans (congrArg some (by kernel_rfl))⟩
 f27:=⟨Tryz.f181.name,by decide,Tryz.func181.trans (congrArg some (by kernel_rfl))⟩
 f28:=Tryz.func164.trans (congrArg some (by kernel_rfl))
 f29:=Tryz.func165.trans (congrArg some (by kernel_rfl))
 f46:=⟨Tryz.f192.name,by decide,Tryz.func192.trans (congrArg some (by kernel_rfl))⟩
 f47:=Tryz.func185.trans (congrArg some (by kernel_rfl))
 f48:=Tryz.func186.trans (congrArg some (by kernel_rfl))
 f49:=⟨Tryz.f193.name,by decide,Tryz.func193.trans (congrArg some (by kernel_rfl))⟩
 f50:=⟨Tryz.f194.name,by decide,Tryz.func194.trans (congrArg some (by kernel_rfl))⟩
 f57:=⟨Tryz.f205.name,by decide,Tryz.func205.trans (congrArg some (by kernel_rfl))⟩
 t0:=Tryz.underlying0
 a0:=Tryz.isAgg0
 z0:=Tryz.sizeOf0
 v0:=Tryz.zeroValue0
 t3:=Tryz.underlying3
 a3:=Tryz.isAgg3
 z3:=Tryz.sizeOf3
 v3:=Tryz.zeroValue3
 t4:=Tryz.underlying4
 a4:=Tryz.isAgg4
 z4:=Tryz.sizeOf4
 v4:=Tryz.zeroValue4
 t5:=Tryz.underlying5
 a5:=Tryz.isAgg5
 z5:=Tryz.sizeOf5
 v5:=Tryz.zeroValue5
 t9:=Tryz.underlying9
 a9:=Tryz.isAgg9
 z9:=Tryz.sizeOf9
 v9:=Tryz.zeroValue9
 t22:=Tryz.underlying114
 a22:=Tryz.isAgg114
 z22:=Tryz.sizeOf114
 v22:=Tryz.zeroValue114
 t25:=Tryz.underlying218
 a25:=Tryz.isAgg218
 z25:=Tryz.sizeOf218
 v25:=Tryz.zeroValue218
 t39:=Tryz.underlying230
 a39:=Tryz.isAgg230
 z39:=Tryz.sizeOf230
 v39:=Tryz.zeroValue230
 t45:=Tryz.underlying238
 a45:=Tryz.isAgg238
 z45:=Tryz.sizeOf238
 v45:=Tryz.zeroValue238
 t46:=Tryz.underlying239
 a46:=Tryz.isAgg239
 z46:=Tryz.sizeOf239
 v46:=Tryz.zeroValue239
 t50:=Tryz.underlying170
 a50:=Tryz.isAgg170
 z50:=Tryz.sizeOf170
 v50:=Tryz.zeroValue170
 t53:=Tryz.underlying245
 a53:=Tryz.isAgg245
 z53:=Tryz.sizeOf245
 v53:=Tryz.zeroValue245
 t55:=Tryz.underlying247
 a55:=Tryz.isAgg247
 z55:=Tryz.sizeOf247
 v55:=Tryz.zeroValue247
 t66:=Tryz.underlying260
 a66:=Tryz.isAgg260
 z66:=Tryz.sizeOf260
 v66:=Tryz.zeroValue260
 t70:=Tryz.underlying264
 a70:=Tryz.isAgg264
 z70:=Tryz.sizeOf264
 v70:=Tryz.zeroValue264
 t76:=Tryz.underlying275
 a76:=Tryz.isAgg275
 z76:=Tryz.sizeOf275
 v76:=Tryz.zeroValue275
 t77:=Tryz.underlying276
 a77:=Tryz.isAgg276
 z77:=Tryz.sizeOf276
 v77:=Tryz.zeroValue276}
def aHj:Go.Shelf.Ren:=⟨fun|5=>70|7=>106|n=>n,fun|23=>122|25=>37|3=>3|4=>4|20=>20|n=>n,fun|n=>n⟩
theorem aJS:Go.Proofs.SlLaysW.n5 Tryz.prog aHj:={
 mixed:=by kernel_rfl
 f5:=⟨Tryz.f70.name,by decide,Tryz.func70.trans (congrArg some (by kernel_rfl))⟩
 f7:=Tryz.func106.trans (congrArg some (by kernel_rfl))
 t4:=Tryz.underlying4
 a4:=Tryz.isAgg4
 z4:=Tryz.sizeOf4
 v4:=Tryz.zeroValue4
 t20:=Tryz.underlying20
 a20:=Tryz.isAgg20
 z20:=Tryz.sizeOf20
 v20:=Tryz.zeroValue20
 t23:=Tryz.underlying122
 a23:=Tryz.isAgg122
 z23:=Tryz.sizeOf122
 v23:=Tryz.zeroValue122}
end Go.Proofs.YtecepaehmojpgaaGreat
namespace Go.Proofs.YtecepaehmojpgaaGreat
open Go.Proofs.YtecepaehmojpgaaGreat renaming gW→uA,fK→uB,cU→uC,cV→uD,cK→uE,gX→uF,dI→uG,cW→uH,cX→uI,cL→uJ,dH→uK,dN→uL,fL→uM,gY→uN,eG→uO,bQ→uP,kN→uQ,iP→uR,eU→uS
open Go.RowKit Go.Sort
attribute [local irreducible] IntKind.wrap
def Pa.then(p q:Pa):Pa×Int:=
 if (!p.ok|| !q.ok)=true then (Pa.nought,2)
 else if q.n=true then (q,0)
 else if Pa.ok ⟨p.n,p.a+q.a⟩=false then (Pa.nought,1) else (⟨p.n,p.a+q.a⟩,0)
theorem Pa.then_thn(p q:Pa):p.thn q=if (p.then q).2=0 then some (p.then q).1 else none:=by
 unfold Pa.thn Pa.then
 split
 ·rfl
 split
 ·rfl
 split<;>rfl
theorem aGi(p q:Pa)(h1:p.ok=true)(h2:q.ok=true):IntKind.i64.wrap (p.a+q.a)=p.a+q.a:=by
 simp only[Pa.ok,Bool.and_eq_true,decide_eq_true_eq] at h1 h2
 rw[bM]<;>omega
theorem nE(p q:Pa)(h:Hp):aZ Tryz.prog 108 [p.v,q.v] h (.tup [(p.then q).1.v,dO (p.then q).2]):=by
 refine aU (fun L=>by simp[V.names,bP,Pa.v,rI]) fun h' nx hh=>aD L.stamp_Path_Then_low fun hd=>?_
 obtain⟨n,a⟩:=p
 obtain⟨m,b⟩:=q
 have hw:=aGi ⟨n,a⟩ ⟨m,b⟩
 simp only[jL,jM,jA,jB,jN,jO,jP,jQ,V.undef]
 (repeat' (first|(with_reducible first|refine stp ?_|refine uP (by decide) ?_|refine uQ (fun _=>?_) (fun _=>?_))|((first|(with_reducible refine uA ?_;first|refine uB rfl ?_ ?_|refine aQ (kX ⟨_,_⟩ _) rfl (aR _) ?_|(first|refine uC rfl ?_|refine uD rfl ?_)|refine uE rfl ?_)|(with_reducible refine uF ?_;first|refine uG rfl ?_ ?_|(first|refine uH rfl ?_|refine uI rfl ?_)|refine uJ rfl ?_|refine uK (uL ?_)|refine uK (uM ?_))|(with_reducible refine uN ?_;refine uO rfl ?_))<;>try simp only[Pa.v,go_sem,reduceIte,jA,jB,jC,jD,reduceCtorEq,jE,jF])|(with_reducible refine uR ?_;refine uS rfl ?_)|omega))
 all_goals refine dD (by simp only[go_sem,reduceIte,jA,jB,jC,jD,reduceCtorEq,jE,jF]) h' (by repeat (first|exact Hp.le_refl _|refine aJ hd ?_ (by omega) _|refine aK hd ?_ (by omega))) ⟨?_,rfl⟩
 all_goals simp only[go_sem,reduceIte,jA,jB,jC,jD,reduceCtorEq,jE,jF]
 all_goals cases hp:Pa.ok ⟨n,a⟩<;>cases ht:Pa.ok ⟨m,b⟩<;>simp_all [Pa.then,dO,Pa.nought]
theorem sH(p q:Pa)(h:Hp):aZ Tryz.prog 135 [p.v,q.v] h (.bool (p.le q)):=by
 refine aU (fun L=>trivial) fun h' nx hh=>aD L.stamp_Path_AtMost_low fun hd=>?_
 obtain⟨n,a⟩:=p
 obtain⟨m,b⟩:=q
 simp only[jL,jM,jA,jB,jN,jO,jP,jQ,V.undef]
 cases n<;>cases m<;>(repeat' (first|(with_reducible first|refine stp ?_|refine uP (by decide) ?_|refine uQ (fun _=>?_) (fun _=>?_))|((first|(with_reducible refine uA ?_;first|refine uB rfl ?_ ?_|(first|refine uC rfl ?_|refine uD rfl ?_)|refine uE rfl ?_)|(with_reducible refine uF ?_;first|refine uG rfl ?_ ?_|(first|refine uH rfl ?_|refine uI rfl ?_)|refine uJ rfl ?_|refine uK (uL ?_)|refine uK (uM ?_))|(with_reducible refine uN ?_;refine uO rfl ?_))<;>try simp only[Pa.v,go_sem,reduceIte,jA,jB,jC,jD,reduceCtorEq,jE,jF])|(with_reducible refine uR ?_;refine uS rfl ?_)|omega))
 all_goals refine aG h' (by repeat (first|exact Hp.le_refl _|refine aJ hd ?_ (by omega) _|refine aK hd ?_ (by omega))) ⟨?_,rfl⟩
 all_goals ((try simp_all [Pa.le])<;>(try omega))
theorem aAU(x p:Pa)(n:Nat)(h:Hp)(hn:h n=some (.arr (.agg 2) [p.v])):aZ Tryz.prog 134 [x.v, .ptr n (.agg 2) 0 0] h (.bool (x.le p)):=by
 refine aU (fun L=>trivial) fun h' nx hh=>aD L.path_put_1_low fun hd=>?_
 have hn':=hh n _ hn rfl
 have hlt:=hd n _ hn'
 simp only[jL,jM,jA,jB,jN,jO,jP,jQ,V.undef]
 have C1:=fun h=>sH x p h
 refine aue (ee3 hn' hlt Pa.fits_v) ?_
 exact aG h' (by repeat (first|exact Hp.le_refl _|refine aJ hd ?_ (by omega) _|refine aK hd ?_ (by omega))) ⟨rfl,rfl⟩
theorem aGr(x p:Pa)(n:Nat)(h:Hp)(hn:h n=some (.arr (.agg 2) [p.v])):aZ Tryz.prog 137 [x.v, .ptr n (.agg 2) 0 0] h (.bool (p.le x)):=by
 refine aU (fun L=>trivial) fun h' nx hh=>aD L.path_put_2_low fun hd=>?_
 have hn':=hh n _ hn rfl
 have hlt:=hd n _ hn'
 simp only[jL,jM,jA,jB,jN,jO,jP,jQ,V.undef]
 have C1:=fun h=>sH p x h
 refine aue (ee3 hn' hlt Pa.fits_v) ?_
 exact aG h' (by repeat (first|exact Hp.le_refl _|refine aJ hd ?_ (by omega) _|refine aK hd ?_ (by omega))) ⟨rfl,rfl⟩
def zQ(a b:Pa):Int:=num a.n-num b.n
theorem aAT(a b:Pa):aZ Tryz.prog 139 [a.v,b.v] Hp.none (.int .i64 (zQ a b)):=by
 refine aU (fun L=>trivial) fun h' nx hh=>aD L.path_put_3_low fun hd=>?_
 have hw:IntKind.i64.wrap (num a.n-num b.n)=zQ a b:=by
  unfold zQ num
  rw[bM]<;>(split<;>split<;>omega)
 simp only[jL,jM,jA,jB,jN,jO,jP,jQ,V.undef]
 (repeat' (first|(with_reducible first|refine stp ?_|refine uP (by decide) ?_|refine uQ (fun _=>?_) (fun _=>?_))|((first|(with_reducible refine uA ?_;first|refine uB rfl ?_ ?_|(first|refine uC rfl ?_|refine uD rfl ?_)|refine uE rfl ?_)|(with_reducible refine uF ?_;first|refine uG rfl ?_ ?_|refine bL (vZ _ _) rfl (bX _) ?_|(first|refine uH rfl ?_|refine uI rfl ?_)|refine uJ rfl ?_|refine uK (uL ?_)|refine uK (uM ?_))|(with_reducible refine uN ?_;refine uO rfl ?_))<;>try simp only[Pa.v,hw,go_sem,reduceIte,jA,jB,jC,jD,reduceCtorEq,jE,jF])|(with_reducible refine uR ?_;refine uS rfl ?_)|omega))
 exact aG h' (by repeat (first|exact Hp.le_refl _|refine aJ hd ?_ (by omega) _|refine aK hd ?_ (by omega))) ⟨rfl,rfl⟩
theorem aCo(a b:Pa):ltOf zQ a b=decide (a.n=false∧b.n=true):=by
 unfold ltOf zQ num
 cases a.n<;>cases b.n<;>decide
theorem aCF:SWO (ltOf zQ):=by
 refine⟨fun x=>?_,fun x y z=>?_,fun x y z=>?_⟩<;>simp only[aCo,decide_eq_true_eq,decide_eq_false_iff_not]
 ·cases x.n<;>simp
 ·cases x.n<;>cases y.n<;>cases z.n<;>simp
 cases x.n<;>cases y.n<;>cases z.n<;>simp
theorem aEt{l ys:List Pa}{p:Pa}(hc:Can l)(hd:¬kM l p)(hp:ys.Perm ((l.filter fun x=> !(p.le x))++[p]))(hs:iU zQ ys):ys=fC l p:=by
 have hcp:=hc.put hd
 --no two of one kind
 have hperm:ys.Perm (fC l p):=by
  refine hp.trans ?_
  unfold fC
  split
  ·exact List.Perm.refl _
  exact List.perm_append_comm
 refine List.Perm.eq_of_pairwise (le:=fun x y=>ltOf zQ y x=false) (fun x y hx hy h1 h2=>?_) hs (hcp.imp fun{x y} h=>?_) hperm
 ·have hx':=hperm.mem_iff.1 hx
  have key:∀{m:List Pa},Can m→∀a∈m,∀b∈m,a.n=b.n→a=b:=by
   intro m hm
   induction m with
   |nil=>intro a ha;cases ha
   |cons z m ih=>
    obtain⟨k1,k2⟩:=List.pairwise_cons.1 hm
    intro a ha b hb hab
    rcases List.mem_cons.1 ha with e1|ha2<;>rcases List.mem_cons.1 hb with e2|hb2
    ·rw[e1,e2]
    ·have:=k1 b hb2;rw[e1,this.1,this.2.1] at hab;cases hab
    ·have:=k1 a ha2;rw[e2,this.1,this.2.1] at hab;cases hab
    exact ih k2 a ha2 b hb2 hab
  refine key hcp x hx' y hy ?_
  simp only[aCo,decide_eq_false_iff_not] at h1 h2
  cases hxn:x.n<;>cases hyn:y.n<;>simp_all
 simp[aCo,h.1]
abbrev aIA:Nat:=134
abbrev aJQ:Nat:=137
abbrev aJP:Nat:=139
abbrev jT(m:Nat)(l:List Pa):V:=tG (.agg 2) m (l.map Pa.v)
theorem lS:aH Tryz.prog 136=some (LB.DeleteFunc (.agg 2) (.agg [.bool false, .int .i64 0]) 118):=by kernel_rfl
theorem aKd(m:Nat)(l:List Pa)(p:Pa)(hl:l.length≤1000)(hd:kM l p)(h:Hp)(hm:l≠ []→h m=some (.arr (.agg 2) (l.map Pa.v))):
 ∀h' nx,h.has h'→aW Tryz.prog 109 [jT m l,p.v] h' nx fun v h'' _=>v= .tup [jT m l, .bool false]∧h''=h':=by
 intro h' nx hh
 have hne:l≠ []:=fun e=>by obtain⟨q,hq,_⟩:=hd;rw[e] at hq;cases hq
 have hm':=hh m _ (hm hne) rfl
 have hrow:jT m l= .rs m (.agg 2) 0 l.length:=by
  unfold jT tG
  cases l with
  |nil=>exact absurd rfl hne
  |cons=>simp
 have hany:(l.any fun x=>x.le p)=true:=(aDI l p).2 hd
 rw[hrow]
 refine aD L.path_put_low fun hdm=>?_
 have hlt:=hdm m _ hm'
 have hneq:(m=nx)=False:=eq_false (by omega)
 have hbox:(h'.set nx (.arr (.agg 2) [p.v])) nx=some (.arr (.agg 2) [p.v]):=by simp only[go_sem,reduceIte,jA,jB,jC,jD,reduceCtorEq,jE,jF]
 have hmb:(h'.set nx (.arr (.agg 2) [p.v])) m=some (.arr (.agg 2) (l.map Pa.v)):=by simp only[hneq,hm',go_sem,reduceIte,jA,jB,jC,jD,reduceCtorEq,jE,jF]
 simp only[jL,jM,jA,jB,jN,jO,jP,jQ,V.undef]
 refine aue (ee2 Pa.fits_v hany) ?_
 refine aQ (nY Pa.v Pa.fits_v eS dR (fun x=>x.le p) m l aIA [.ptr nx (.agg 2) 0 0] _ hmb (fun x _=>aAU x p nx _ hbox) (by omega)) rfl (aR _) ?_
 simp only[hany,go_sem,reduceIte,jA,jB,jC,jD,reduceCtorEq,jE,jF]
 refine aue (ee2 Pa.fits_v hany) ?_
 refine iF h' (kB (Hp.le_refl _) (aM.none hdm (Nat.le_refl _)) _) ⟨?_,rfl⟩
 simp only[go_sem,reduceIte,jA,jB,jC,jD,reduceCtorEq,jE,jF]
theorem aFG(m:Nat)(l:List Pa)(p:Pa)(hc:Can l)(hl:l.length≤1000)(hd:¬kM l p)(h:Hp)(hm:l≠ []→h m=some (.arr (.agg 2) (l.map Pa.v))):
 aHp Tryz.prog 109 [jT m l,p.v] h (if l=[] then none else some ⟨m, .arr (.agg 2) (l.map Pa.v),none⟩) (fun a=> .tup [.rs a (.agg 2) 0 (fC l p).length, .bool true]) (.agg 2) ((fC l p).map Pa.v):=by
 refine aJd (aGA _ _ _) (fun L=>cF (Pa.names_v L) _) (fun L n hn=>by simp[V.names,bP,hn]) (fun c' hc'=>?_) fun h' nx hh=>?_
 ·split at hc'
  ·cases hc'
  rename_i hne
  injection hc' with hc'
  subst hc'
  exact⟨rfl,⟨_,_,rfl⟩,hm hne⟩
 have hany:(l.any fun x=>x.le p)=false:=by
  cases e:l.any fun x=>x.le p with
  |false=>rfl
  |true=>exact absurd ((aDI l p).1 e) hd
 have hfin:∀ys:List Pa,ys.Perm ((l.filter fun x=> !(p.le x))++[p])→iU zQ ys→ys=fC l p:=fun ys h1 h2=>aEt hc hd h1 h2
 refine aD L.path_put_low fun hdm=>?_
 by_cases hne:l=[]
 ·subst hne
  have hpl:fC ([]:List Pa) p=[p]:=by unfold fC;split<;>rfl
  have hcl:=dB Pa.v Pa.fits_v eS dR (fun x=>x.le p) .nil [] aIA [.ptr nx (.agg 2) 0 0] (h'.set nx (.arr (.agg 2) [p.v])) (fun x hx=>by cases hx) (by simp)
  have hdl:=zN Pa.v Pa.fits_v lS dR (fun x=>p.le x) aJQ [.ptr nx (.agg 2) 0 0] (h'.set nx (.arr (.agg 2) [p.v]))
  have hrw:jT m []= .sl (.agg 2) .nil []:=rfl
  rw[hrw,hpl]
  simp only[List.map_nil,List.any_nil] at hcl
  simp only[jL,jM,jA,jB,jN,jO,jP,jQ,V.undef]
  (repeat' (first|(with_reducible first|refine stp ?_|refine uP (by decide) ?_|refine uQ (fun _=>?_) (fun _=>?_))|((first|(with_reducible refine uA ?_;first|refine uB rfl ?_ ?_|refine aQ (hcl) rfl (aR _) ?_|refine aQ (hdl) rfl (aR _) ?_|(first|refine uC rfl ?_|refine uD rfl ?_)|refine uE rfl ?_)|(with_reducible refine uF ?_;first|refine uG rfl ?_ ?_|(first|refine uH rfl ?_|refine uI rfl ?_)|refine uJ rfl ?_|refine uK (uL ?_)|refine uK (uM ?_))|(with_reducible refine uN ?_;refine uO rfl ?_))<;>try simp only[Pa.fits_v,go_sem,reduceIte,jA,jB,jC,jD,reduceCtorEq,jE,jF])|(with_reducible refine uR ?_;refine uS rfl ?_)|omega))
  refine nW rfl rfl (by simp) (by simp only[jL,jM];omega) ?_
  simp only[jL,jM,go_sem,reduceIte,jA,jB,jC,jD,reduceCtorEq,jE,jF]
  refine aue Pa.fits_v ?_
  refine aX ((nB aHK 2 (by intro w;exact Tryz.isAgg127 w) (by intro w;exact Tryz.sizeOf127 w) (by kernel_rfl) Pa.v Pa.fits_v zQ aCF aJP [] (fun x y=>by simpa using aAT x y) _ [p] (by simp) _ _ (by simp only[List.map_cons,List.map_nil,go_sem,reduceIte,jA,jB,jC,jD,reduceCtorEq,jE,jF]) (by simp)).mono ?_)
  rintro v2 h2 nx2 hnx2 ⟨rfl,rfl,ys,hp,hs,rfl⟩
  have hys:ys=[p]:=List.perm_singleton.1 hp
  subst hys
  unfold cR
  simp only[jL,jM,List.map_cons,List.map_nil,go_sem,reduceIte,jA,jB,jC,jD,reduceCtorEq,jE,jF]
  refine au ?_
  refine iF (h'.set (nx+2) (.arr (.agg 2) [p.v])) ?_ ⟨nx+2,by omega,?_,rfl⟩
  ·intro x b hx
   by_cases e:x=nx+2
   ·subst e;simp only[go_sem,reduceIte,jA,jB,jC,jD,reduceCtorEq,jE,jF] at hx⊢;exact hx
   have hx':h' x=some b:=by unfold Hp.set at hx;rwa [if_neg e] at hx
   have:=hdm x b hx'
   have e1:(x=nx)=False:=eq_false (by omega)
   have e2:(x=nx+1)=False:=eq_false (by omega)
   simp only[e,e1,e2,go_sem,reduceIte,jA,jB,jC,jD,reduceCtorEq,jE,jF];exact hx'
  simp only[go_sem,reduceIte,jA,jB,jC,jD,reduceCtorEq,jE,jF]
 have hm':=hh m _ (hm hne) rfl
 have hrow:jT m l= .rs m (.agg 2) 0 l.length:=by
  unfold jT tG
  cases l with
  |nil=>exact absurd rfl hne
  |cons=>simp
 have hlt:=hdm m _ hm'
 have hneq:(m=nx)=False:=eq_false (by omega)
 have hbox:(h'.set nx (.arr (.agg 2) [p.v])) nx=some (.arr (.agg 2) [p.v]):=by simp only[go_sem,reduceIte,jA,jB,jC,jD,reduceCtorEq,jE,jF]
 have hmb:(h'.set nx (.arr (.agg 2) [p.v])) m=some (.arr (.agg 2) (l.map Pa.v)):=by simp only[hneq,hm',go_sem,reduceIte,jA,jB,jC,jD,reduceCtorEq,jE,jF]
 rw[hrow]
 simp only[jL,jM,jA,jB,jN,jO,jP,jQ,V.undef]
 refine aue (ee2 Pa.fits_v hany) ?_
 refine aQ (nY Pa.v Pa.fits_v eS dR (fun x=>x.le p) m l aIA [.ptr nx (.agg 2) 0 0] _ hmb (fun x _=>aAU x p nx _ hbox) (by omega)) rfl (aR _) ?_
 simp only[hany,go_sem,reduceIte,jA,jB,jC,jD,reduceCtorEq,jE,jF]
 refine aue (ee2 Pa.fits_v hany) ?_
 --those that it is at most are left out
 have hcn:(Hp.none.set nx (.arr (.agg 2) [p.v])) m=none:=by simp only[hneq,Hp.none,go_sem,reduceIte,jA,jB,jC,jD,reduceCtorEq,jE,jF]
 have hcd:aM (Hp.none.set nx (.arr (.agg 2) [p.v])) (nx+1):=fun x b e=>by
  unfold Hp.set at e
  split at e
  ·omega
  cases e
 have hcb:(Hp.none.set nx (.arr (.agg 2) [p.v])) nx=some (.arr (.agg 2) [p.v]):=by simp only[go_sem,reduceIte,jA,jB,jC,jD,reduceCtorEq,jE,jF]
 have hch:Hp.has (Hp.none.set nx (.arr (.agg 2) [p.v])) (h'.set nx (.arr (.agg 2) [p.v])):=fun x k e _=>by
  unfold Hp.set at e⊢
  split at e
  ·rename_i hx;rw[if_pos hx];exact e
  cases e
 refine aX ((vJ Pa.v lS dR rfl Pa.fits_v (fun x=>p.le x) m l aJQ [.ptr nx (.agg 2) 0 0] _ (Hp.none.set nx (.arr (.agg 2) [p.v])) (nx+1) hmb hcn hch hcd (fun x _=>aGr x p nx _ hcb) (by omega)).mono ?_)
 rintro v1 h1 nx1 hnx1 ⟨zs,rfl,rfl⟩
 unfold cR
 simp only[go_sem,reduceIte,jA,jB,jC,jD,reduceCtorEq,jE,jF]
 obtain⟨L,hL⟩:∃L,L=l.filter fun x=> !(p.le x):=⟨_,rfl⟩
 rw[←hL]
 have hLl:L.length≤1000:=by rw[hL];exact Nat.le_trans (List.length_filter_le _ _) hl
 have htk:(L.map Pa.v++zs).take L.length=L.map Pa.v:=by rw[List.take_append_of_le_length (by simp)];exact List.take_of_length_le (by simp)
 have hmv:(L.map Pa.v)++[p.v]=(L++[p]).map Pa.v:=by simp
 have hlen1:L.length+1=(L++[p]).length:=by simp
 have hneq2:(nx=m)=False:=eq_false (by omega)
 have hneq3:(m=nx1)=False:=eq_false (by omega)
 have hneq4:(nx=nx1)=False:=eq_false (by omega)
 (repeat' (first|(with_reducible first|refine stp ?_|refine uP (by decide) ?_|refine uQ (fun _=>?_) (fun _=>?_))|((first|(with_reducible refine uA ?_;first|refine uB rfl ?_ ?_|(first|refine uC rfl ?_|refine uD rfl ?_)|refine uE rfl ?_)|(with_reducible refine uF ?_;first|refine uG rfl ?_ ?_|(first|refine uH rfl ?_|refine uI rfl ?_)|refine uJ rfl ?_|refine uK (uL ?_)|refine uK (uM ?_))|(with_reducible refine uN ?_;refine uO rfl ?_))<;>try simp only[Pa.fits_v,hneq,hneq2,go_sem,reduceIte,jA,jB,jC,jD,reduceCtorEq,jE,jF])|(with_reducible refine uR ?_;refine uS rfl ?_)|omega))
 refine wR (es:=L.map Pa.v++zs) rfl (by simp only[hneq,hneq3,go_sem,reduceIte,jA,jB,jC,jD,reduceCtorEq,jE,jF]) (by simp) rfl (by simp) (by simp only[jL,jM];omega) ?_
 simp only[htk,hmv,hlen1,go_sem,reduceIte,jA,jB,jC,jD,reduceCtorEq,jE,jF]
 refine aue (ee2 Pa.fits_v hneq) ?_
 refine aX ((nB aHK 2 (by intro w;exact Tryz.isAgg127 w) (by intro w;exact Tryz.sizeOf127 w) (by kernel_rfl) Pa.v Pa.fits_v zQ aCF aJP [] (fun x y=>by simpa using aAT x y) _ (L++[p]) (by simp) _ _ (by simp only[go_sem,reduceIte,jA,jB,jC,jD,reduceCtorEq,jE,jF]) (by simp;omega)).mono ?_)
 rintro v2 h2 nx2 hnx2 ⟨rfl,rfl,ys,hp,hs,rfl⟩
 have hys:=hfin ys (by rw[←hL];exact hp) hs
 unfold cR
 subst hys
 have hpl:(L++[p]).length=(fC l p).length:=hp.length_eq.symm
 simp only[hpl,go_sem,reduceIte,jA,jB,jC,jD,reduceCtorEq,jE,jF]
 refine au ?_
 refine iF ((h'.del m).set (nx1+1) (.arr (.agg 2) ((fC l p).map Pa.v))) ?_ ⟨nx1+1,by omega,?_,?_⟩
 ·intro x b hx
  by_cases e:x=nx1+1
  ·subst e;simp only[go_sem,reduceIte,jA,jB,jC,jD,reduceCtorEq,jE,jF] at hx⊢;exact hx
  have hx':(h'.del m) x=some b:=by unfold Hp.set at hx;rwa [if_neg e] at hx
  have hxm:x≠m:=fun e2=>by subst e2;simp only[Hp.del,if_pos] at hx';cases hx'
  have hx2:h' x=some b:=by unfold Hp.del at hx';rwa [if_neg hxm] at hx'
  have:=hdm x b hx2
  have e1:(x=nx)=False:=eq_false (by omega)
  have e2:(x=nx1)=False:=eq_false (by omega)
  simp only[e,e1,e2,hxm,go_sem,reduceIte,jA,jB,jC,jD,reduceCtorEq,jE,jF];exact hx2
 ·simp only[go_sem,reduceIte,jA,jB,jC,jD,reduceCtorEq,jE,jF]
 simp only[hne,if_false]
abbrev aKR:Nat:=94
abbrev aJw:Nat:=132
theorem aCC(own:Own)(n:Nat)(l:List We)(w:We)(b1 b2:Nat)(hfit:aAJ n l)(hn:n≤200)(hl:l.length≤1000)(hw:w.t<n)(h:Hp)(h1:h b1=some (.arr .leaf [.int .i64 n]))(h2:h b2=some (.arr .leaf [wes own l])):
 aZ Tryz.prog 132 [w.v, .ptr b1 .leaf 0 0, .ptr b2 .leaf 0 0] h (.bool (w.p.n&&oP l w.t w.f)):=by
 refine aU (fun L=>trivial) fun h' nx hh=>aD L.path_turns_1_low fun hd=>?_
 have h1':=hh b1 _ h1 rfl
 have h2':=hh b2 _ h2 rfl
 have e1:=hd b1 _ h1'
 have e2:=hd b2 _ h2'
 obtain⟨f,t,nn,a⟩:=w
 simp only[jL,jM,jA,jB,jN,jO,jP,jQ,V.undef]
 cases nn<;>(repeat' (first|(with_reducible first|refine stp ?_|refine uP (by decide) ?_|refine uQ (fun _=>?_) (fun _=>?_))|((first|(with_reducible refine uA ?_;first|refine uB rfl ?_ ?_|refine aQ (aAs own n l t f hfit hw hn hl _) rfl (aR _) ?_|(first|refine uC rfl ?_|refine uD rfl ?_)|refine uE rfl ?_)|(with_reducible refine uF ?_;first|refine uG rfl ?_ ?_|(first|refine uH rfl ?_|refine uI rfl ?_)|refine uJ rfl ?_|refine uK (uL ?_)|refine uK (uM ?_))|(with_reducible refine uN ?_;refine uO rfl ?_))<;>try simp only[We.v,h1',h2',e1,e2,go_sem,reduceIte,jA,jB,jC,jD,reduceCtorEq,jE,jF])|(with_reducible refine uR ?_;refine uS rfl ?_)|omega))
 all_goals refine aG h' (by repeat (first|exact Hp.le_refl _|refine aJ hd ?_ (by omega) _|refine aK hd ?_ (by omega))) ⟨?_,rfl⟩
 all_goals simp only[go_sem,reduceIte,jA,jB,jC,jD,reduceCtorEq,jE,jF]
noncomputable def xI(l:List We):Bool:=l.any fun w=>w.p.n&&oP l w.t w.f
theorem xH(l:List We):xI l=true↔aBA l:=by
 unfold xI aBA
 simp only[List.any_eq_true,Bool.and_eq_true,qX]
 constructor
 ·rintro⟨w,h1,h2,h3⟩;exact⟨w,h1,h2,h3.imp (fun e=>e.symm) (fun e=>e)⟩
 rintro⟨w,h1,h2,h3⟩;exact⟨w,h1,h2,h3.imp (fun e=>e.symm) (fun e=>e)⟩
theorem aEq(own:Own)(n:Nat)(l:List We)(hfit:aAJ n l)(hn:n≤200)(hl:l.length≤1000)(h:Hp):aZ Tryz.prog 103 [.int .i64 n,wes own l] h (.bool (xI l)):=by
 refine aU (fun L=>trivial) fun h' nx hh=>aD L.path_turns_low fun hd=>?_
 have b1:((h'.set nx (.arr .leaf [.int .i64 (n:Int)])).set (nx+1) (.arr .leaf [wes own l])) nx=some (.arr .leaf [.int .i64 (n:Int)]):=by simp only[go_sem,reduceIte,jA,jB,jC,jD,reduceCtorEq,jE,jF]
 have b2:((h'.set nx (.arr .leaf [.int .i64 (n:Int)])).set (nx+1) (.arr .leaf [wes own l])) (nx+1)=some (.arr .leaf [wes own l]):=by simp only[go_sem,reduceIte,jA,jB,jC,jD,reduceCtorEq,jE,jF]
 have hc:=dB We.v We.fits_v kG mP (fun w=>w.p.n&&oP l w.t w.f) own l aJw [.ptr nx .leaf 0 0, .ptr (nx+1) .leaf 0 0] _ (fun w hw=>aCC own n l w nx (nx+1) hfit hn hl (hfit w hw).2.1 _ b1 b2) (by omega)
 simp only[jL,jM,jA,jB,jN,jO,jP,jQ,V.undef]
 have C5:=hc
 refine au ?_
 exact aG h' (by repeat (first|exact Hp.le_refl _|refine aJ hd ?_ (by omega) _|refine aK hd ?_ (by omega))) ⟨rfl,rfl⟩
theorem aGz(w:Wy)(P:Int)(b:Nat)(h:Hp)(h1:h b=some (.arr .leaf [.int .i64 P])):aZ Tryz.prog 94 [w.v, .ptr b .leaf 0 0] h (.bool (!(w.fit P))):=by
 refine aU (fun L=>trivial) fun h' nx hh=>aD L.path_New_1_low fun hd=>?_
 have h1':=hh b _ h1 rfl
 have e1:=hd b _ h1'
 simp only[jL,jM,jA,jB,jN,jO,jP,jQ,V.undef]
 have C1:=fun h=>aBT w P h
 refine aue (ee3 Wy.fits_v h1' e1) ?_
 exact aG h' (by repeat (first|exact Hp.le_refl _|refine aJ hd ?_ (by omega) _|refine aK hd ?_ (by omega))) ⟨rfl,rfl⟩
theorem yJ:aH Tryz.prog 97=some (LB.Compact (.agg 4) (.agg [.int .i64 0, .int .i64 0, .bool false, .int .i64 0]) (.plain (.agg 4) [.int, .int, .bool, .int])):=by kernel_rfl
theorem aEk(x y:Wy):veq (.plain (.agg 4) [.int, .int, .bool, .int]) x.v y.v=some (decide (x=y)):=by
 obtain⟨f,t,⟨n,a⟩⟩:=x;obtain⟨f',t',⟨n',a'⟩⟩:=y
 simp only[Wy.v,go_sem,reduceIte,jA,jB,jC,jD,reduceCtorEq,jE,jF]
 simp only[Wy.mk.injEq,Pa.mk.injEq,Option.some.injEq]
 rw[Bool.eq_iff_iff]
 simp
theorem zP(h:Hp):aZ Tryz.prog 97 [.sl (.agg 4) .nil []] h (.sl (.agg 4) .nil []):=by
 refine aU (fun L=>by simp[V.names,bP]) fun h' nx hh=>aD L.slices_Compact_path_Way_path_Way_low fun hd=>?_
 have hc:decide (((0:Nat):Int)<2)=true:=by decide
 simp only[jL,jM,jA,jB,jN,jO,jP,jQ,V.undef]
 refine aue hc ?_
 exact aG h' (Hp.le_refl _) ⟨rfl,rfl⟩
def aDf(P:Int)(l:List Wy):V:= .agg [.int .i64 P,lst (.agg 4) (l.map Wy.v)]
theorem aEN(P:Int)(l:List Wy)(L:Nat→Prop):(aDf P l).names L:=by
 have:=eV (k:= .agg 4) (fun L=>cF (fun x=>Wy.names_v L x) l) L
 simp[aDf,V.names,bP,this]
theorem mN:aDf 0 []= .agg [.int .i64 0, .sl (.agg 4) .nil []]:=rfl
open Classical in
set_option maxHeartbeats 1000000 in
theorem aCY(o:Own)(P:Int)(ws:List Wy)(h' h2:Hp)(nx nx2:Nat)(ho:(.sl (.agg 4) o ((cB ws).map Wy.v):V)=lst (.agg 4) ((cB ws).map Wy.v))(hl:ws.length≤1000)(hbad:¬(P<0∨200<P∨∃w∈ws,w.fit P=false))(hdm:aM h' nx)
 (h1:h2 nx=some (.arr .leaf [.int .i64 P])) (h3:h2 (nx+1)=some (.arr (.agg 2) [.agg [.int .i64 0, .sl (.agg 4) .nil []]])) (hle:h'.le h2) (hnx:nx+2≤nx2):
 lwp Tryz.prog (.seq (.seq (.ops L.path_New_r5) (.cond (.slot 28) (.seq (.ops L.path_New_r6) .ret) .skip)) (.seq (.seq (.ops L.path_New_r7) (.cond (.slot 38) (.seq (.ops L.path_New_r8) .ret) .skip)) (.seq (.ops L.path_New_r9) .ret)))
  (mK [.cell 4 (.agg 2), .slot 5] fun v' h'' _=>v'= .tup [aDf (eE P ws).1.1 (eE P ws).1.2,dO (eE P ws).2]∧h''=h') ⟨aB 44 0 [(2, .ptr nx .leaf 0 0),(4, .ptr (nx+1) (.agg 2) 0 0),(5, .nilIface),(7, .sl (.agg 4) o ((cB ws).map Wy.v))],h2,nx2⟩:=by
 have hfit:∀w∈cB ws,w.fit P=true:=fun w hw=>by
  cases e:w.fit P with
  |true=>rfl
  |false=>exact absurd (.inr (.inr ⟨w,(nS ws w).1 hw,e⟩)) hbad
 have hP:0≤P∧P≤200:=by
  constructor
  ·exact Classical.byContradiction fun h=>hbad (.inl (by omega))
  exact Classical.byContradiction fun h=>hbad (.inr (.inl (by omega)))
 have hcl:(cB ws).length≤1000:=Nat.le_trans (rO ws) hl
 obtain⟨k1,k2⟩:=aDA hfit
 obtain⟨l,hlw⟩:∃l,l=(cB ws).map Wy.we:=⟨_,rfl⟩
 rw[←hlw] at k1 k2
 have hll:l.length≤1000:=by rw[hlw];simpa using hcl
 have hwl:(cB ws).map Wy.v=l.map We.v:=by rw[k1,aJU]
 have hPn:P=((P.toNat:Nat):Int):=by omega
 have hb:∀w∈cB ws,0≤w.p.a∧w.p.a≤1048576:=fun w hw=>by
  have:=hfit w hw
  simp only[Wy.fit,Bool.and_eq_true,Pa.ok,decide_eq_true_eq] at this
  exact this.2.2.2.2
 have ci:∀h,aZ Tryz.prog 102 [.int .i64 P, .sl (.agg 4) o ((cB ws).map Wy.v)] h (.bool (aDr l)):=fun h=>by
  rw[hwl,hPn];exact aGO o P.toNat l k2 (by omega) hll h
 have ct:∀h,aZ Tryz.prog 103 [.int .i64 P, .sl (.agg 4) o ((cB ws).map Wy.v)] h (.bool (xI l)):=fun h=>by
  rw[hwl,hPn];exact aEq o P.toNat l k2 (by omega) hll h
 have ca:∀h,aZ Tryz.prog 101 [.sl (.agg 4) o ((cB ws).map Wy.v)] h (.int .i64 (eN (cB ws))):=fun h=>aFw o (cB ws) hcl hb h
 have hlt:nx<nx2:=by omega
 have hlt1:nx+1<nx2:=by omega
 unfold eE
 rw[if_neg hbad,←hlw]
 simp only[aB,go_sem,reduceIte,jA,jB,jC,jD,reduceCtorEq,jE,jF]
 have hset:∀b,h'.le (h2.set (nx+1) b):=fun b=>kB hle (hdm.none (by omega)) _
 rcases Int.lt_or_le 1048576 (eN (cB ws)) with ha|ha
 ·have hc:decide ((1048576:Int)<eN (cB ws))=true:=decide_eq_true ha
  rw[if_pos ha]
  have C1:=fun h=>ca h
  refine aue (ee5 hc h1 h3 hlt hlt1) ?_
  refine dD (by simp only[go_sem,reduceIte,jA,jB,jC,jD,reduceCtorEq,jE,jF]) h' (hset _) ⟨?_,rfl⟩
  simp only[mN,dO,go_sem,reduceIte,jA,jB,jC,jD,reduceCtorEq,jE,jF]
  trivial
 have hc:decide ((1048576:Int)<eN (cB ws))=false:=decide_eq_false (by omega)
 rw[if_neg (by omega)]
 cases hi:aDr l with
 |true=>
  rw[if_pos (.inl ((uY l).1 hi))]
  have C1:=fun h=>ca h
  have C2:=fun h=>ci h
  refine aue (ee6 hc h1 h3 hlt hlt1 hi) ?_
  refine dD (by simp only[go_sem,reduceIte,jA,jB,jC,jD,reduceCtorEq,jE,jF]) h' (hset _) ⟨?_,rfl⟩
  simp only[mN,dO,go_sem,reduceIte,jA,jB,jC,jD,reduceCtorEq,jE,jF]
  trivial
 |false=>
  have hni:¬aHs l:=fun h=>by rw[(uY l).2 h] at hi;cases hi
  cases ht:xI l with
  |true=>
   rw[if_pos (.inr ((xH l).1 ht))]
   have C1:=fun h=>ca h
   have C2:=fun h=>ci h
   have C3:=fun h=>ct h
   refine aue (ee7 hc h1 h3 hlt hlt1 hi ht) ?_
   refine dD (by simp only[go_sem,reduceIte,jA,jB,jC,jD,reduceCtorEq,jE,jF]) h' (hset _) ⟨?_,rfl⟩
   simp only[mN,dO,go_sem,reduceIte,jA,jB,jC,jD,reduceCtorEq,jE,jF]
   trivial
  |false=>
   have hnt:¬aBA l:=fun h=>by rw[(xH l).2 h] at ht;cases ht
   rw[if_neg (fun h=>h.elim hni hnt)]
   have C1:=fun h=>ca h
   have C2:=fun h=>ci h
   have C3:=fun h=>ct h
   refine aue (ee7 hc h1 h3 hlt hlt1 hi ht) ?_
   refine dD (by simp only[go_sem,reduceIte,jA,jB,jC,jD,reduceCtorEq,jE,jF]) h' (hset _) ⟨?_,rfl⟩
   simp only[aDf,ho,dO,go_sem,reduceIte,jA,jB,jC,jD,reduceCtorEq,jE,jF]
   try trivial
theorem aCZ(own:Own)(P:Int)(ws:List Wy)(hl:ws.length≤1000)(h:Hp):aZ Tryz.prog 62 [.int .i64 P,wys own ws] h (.tup [aDf (eE P ws).1.1 (eE P ws).1.2,dO (eE P ws).2]):=by
 refine aU (fun L=>by simp[V.names,bP,aEN,rI]) fun h' nx hh=>aD L.path_New_low fun hd=>?_
 have hb1:((h'.set nx (.arr .leaf [.int .i64 P])).set (nx+1) (.arr (.agg 2) [.agg [.int .i64 0, .sl (.agg 4) .nil []]])) nx=some (.arr .leaf [.int .i64 P]):=by simp only[go_sem,reduceIte,jA,jB,jC,jD,reduceCtorEq,jE,jF]
 have hcl:=dB Wy.v Wy.fits_v kG mP (fun w=> !(w.fit P)) own ws aKR [.ptr nx .leaf 0 0] _ (fun w _=>aGz w P nx _ hb1) (by omega)
 simp only[jL,jM,jA,jB,jN,jO,jP,jQ,V.undef]
 by_cases hbad:P<0∨200<P∨∃w∈ws,w.fit P=false
 ·have hn:eE P ws=((0,[]),1):=by unfold eE;rw[if_pos hbad]
  rw[hn]
  have hbx:¬P<0→¬200<P→(ws.any fun w=> !(w.fit P))=true:=fun h1 h2=>by
   rcases hbad with h|h|⟨w,hw,h⟩
   ·exact absurd h h1
   ·exact absurd h h2
   exact List.any_eq_true.2 ⟨w,hw,by rw[h];rfl⟩
  (repeat' (first|(with_reducible first|refine stp ?_|refine uP (by decide) ?_|refine uQ (fun _=>?_) (fun _=>?_))|((first|(with_reducible refine uA ?_;first|refine uB rfl ?_ ?_|refine aQ (hcl) rfl (aR _) ?_|(first|refine uC rfl ?_|refine uD rfl ?_)|refine uE rfl ?_)|(with_reducible refine uF ?_;first|refine uG rfl ?_ ?_|(first|refine uH rfl ?_|refine uI rfl ?_)|refine uJ rfl ?_|refine uK (uL ?_)|refine uK (uM ?_))|(with_reducible refine uN ?_;refine uO rfl ?_))<;>try simp only[ go_sem,reduceIte,jA,jB,jC,jD,reduceCtorEq,jE,jF])|(with_reducible refine uR ?_;refine uS rfl ?_)|omega))
  ·refine dD (by simp only[go_sem,reduceIte,jA,jB,jC,jD,reduceCtorEq,jE,jF]) h' (by repeat (first|exact Hp.le_refl _|refine aJ hd ?_ (by omega) _|refine aK hd ?_ (by omega))) ⟨?_,rfl⟩
   simp only[mN,dO,go_sem,reduceIte,jA,jB,jC,jD,reduceCtorEq,jE,jF]
   trivial
  ·refine dD (by simp only[go_sem,reduceIte,jA,jB,jC,jD,reduceCtorEq,jE,jF]) h' (by repeat (first|exact Hp.le_refl _|refine aJ hd ?_ (by omega) _|refine aK hd ?_ (by omega))) ⟨?_,rfl⟩
   simp only[mN,dO,go_sem,reduceIte,jA,jB,jC,jD,reduceCtorEq,jE,jF]
   trivial
  ·refine dD (by simp only[go_sem,reduceIte,jA,jB,jC,jD,reduceCtorEq,jE,jF]) h' (by repeat (first|exact Hp.le_refl _|refine aJ hd ?_ (by omega) _|refine aK hd ?_ (by omega))) ⟨?_,rfl⟩
   simp only[mN,dO,go_sem,reduceIte,jA,jB,jC,jD,reduceCtorEq,jE,jF]
   trivial
  rename_i x1 x2 x3
  rw[hbx (of_decide_eq_false x1) (of_decide_eq_false x2)] at x3
  cases x3
 have g1:decide (P<0)=false:=decide_eq_false (fun h=>hbad (.inl h))
 have g2:decide (200<P)=false:=decide_eq_false (fun h=>hbad (.inr (.inl h)))
 have g3:(ws.any fun w=> !(w.fit P))=false:=by
  cases e:ws.any fun w=> !(w.fit P) with
  |false=>rfl
  |true=>
   obtain⟨w,hw,h⟩:=List.any_eq_true.1 e
   exact absurd (.inr (.inr ⟨w,hw,by simpa using h⟩)) hbad
 have hs:∃own',(wys own ws).loose=wys own' ws:=by cases own<;>exact⟨_,rfl⟩
 obtain⟨own',hs⟩:=hs
 have C5:=hcl
 refine aue (ee3 g1 g2 g3) ?_
 refine aQ (xF aAu own (ws.map Wy.v) (fun L=>cF (Wy.names_v L) _) Hp.none) rfl (bX _) ?_
 rw[hs]
 simp only[go_sem,reduceIte,jA,jB,jC,jD,reduceCtorEq,jE,jF]
 refine aX ((mJ Wy.v aJZ Wy.fits_v (by intro w;exact Tryz.isAgg129 w) (by intro w;exact Tryz.sizeOf129 w) (by kernel_rfl) sN yK uT rfl (by omega) rfl _ _ Hp.none ws
  (rV Wy.v Wy.fits_v wO rfl own' ws (by omega)) (by omega) Wy.cmp Wy.swo _ [] (fun x y=>by simpa using aEH x y) _ _ (bX _)).mono ?_)
 rintro v1 h1 nx1 hnx1 ⟨es,⟨ys,hp,hs2,rfl⟩,hF⟩
 have hys:ys=dF Wy.cmp ws:=qH Wy.tot _ _ (hp.trans (dE _ _).symm) hs2 (gJ Wy.swo ws)
 subst hys
 have hle0:h'.le ((h'.set nx (.arr .leaf [.int .i64 P])).set (nx+1) (.arr (.agg 2) [.agg [.int .i64 0, .sl (.agg 4) .nil []]])):=(by repeat (first|exact Hp.le_refl _|refine aJ hd ?_ (by omega) _|refine aK hd ?_ (by omega)))
 unfold cR
 dsimp only at hnx1
 rcases hF with⟨he,rfl,rfl⟩|⟨hne,id,hid,rfl,rfl⟩
 ·have hw:ws=[]:=by
   have:(dF Wy.cmp ws).length=0:=by have:=congrArg List.length he;simpa using this
   rw[(dE Wy.cmp ws).length_eq] at this
   exact List.length_eq_zero_iff.1 this
  subst hw
  have hcn:cB []=[]:=List.length_eq_zero_iff.1 (Nat.le_zero.1 (rO []))
  simp only[go_sem,reduceIte,jA,jB,jC,jD,reduceCtorEq,jE,jF]
  refine aQ (zP _) rfl (aR _) ?_
  simp only[go_sem,reduceIte,jA,jB,jC,jD,reduceCtorEq,jE,jF]
  refine eW rfl (by simp only[ go_sem,reduceIte,jA,jB,jC,jD,reduceCtorEq,jE,jF];try omega) ?_
  simp only[ go_sem,reduceIte,jA,jB,jC,jD,reduceCtorEq,jE,jF]
  refine(kI ⟨aB 44 0 [(2, .ptr nx .leaf 0 0),(4, .ptr (nx+1) (.agg 2) 0 0),(5, .nilIface),(7, .sl (.agg 4) .nil ((cB []).map Wy.v))],_,_⟩ (nV ?_ (Hp.le_refl _) (Nat.le_refl _)) (aCY .nil P [] h' _ nx _ (by rw[hcn];rfl) (by simp) hbad hd (by simp only[go_sem,reduceIte,jA,jB,jC,jD,reduceCtorEq,jE,jF]) (by simp only[go_sem,reduceIte,jA,jB,jC,jD,reduceCtorEq,jE,jF]) hle0 (by omega)))
  simp only[WkL,aB,jH,jI,jJ,hcn,List.map_nil,go_sem,reduceIte,jA,jB,jC,jD,reduceCtorEq,jE,jF]
 dsimp only at hid
 have hmb:(((h'.set nx (.arr .leaf [.int .i64 P])).set (nx+1) (.arr (.agg 2) [.agg [.int .i64 0, .sl (.agg 4) .nil []]])).set id (.arr (.agg 4) ((dF Wy.cmp ws).map Wy.v))) id=some (.arr (.agg 4) ((dF Wy.cmp ws).map Wy.v)):=by simp only[go_sem,reduceIte,jA,jB,jC,jD,reduceCtorEq,jE,jF]
 have hlen:((dF Wy.cmp ws).map Wy.v).length=(dF Wy.cmp ws).length:=by simp
 have hll:(dF Wy.cmp ws).length=ws.length:=(dE Wy.cmp ws).length_eq
 have hie:(nx=id)=False:=eq_false (by omega)
 have hie1:(nx+1=id)=False:=eq_false (by omega)
 have hne2:cB ws≠ []:=fun e=>by
  have h1:=nS ws
  have:ws=[]:=by
   cases hws:ws with
   |nil=>rfl
   |cons x l=>have:=(h1 x).2 (by rw[hws];simp);rw[e] at this;cases this
  subst this
  exact hne (by rw[List.map_eq_nil_iff];exact List.length_eq_zero_iff.1 hll)
 rw[hlen]
 simp only[go_sem,reduceIte,jA,jB,jC,jD,reduceCtorEq,jE,jF]
 refine aX ((tN (G:=fun es=>es=(cs (dF Wy.cmp ws)).map Wy.v) (aAB Wy.v yJ rfl Wy.fits_v aEk id (dF Wy.cmp ws) (by omega) _ _ hmb)).mono ?_)
 rintro v2 h2 nx2 hnx2 ⟨es,rfl,rfl,hes⟩
 have hes:es=(cB ws).map Wy.v:=hes
 dsimp only at hnx2
 subst hes
 unfold cR
 simp only[go_sem,reduceIte,jA,jB,jC,jD,reduceCtorEq,jE,jF]
 refine eW rfl (by simp only[ go_sem,reduceIte,jA,jB,jC,jD,reduceCtorEq,jE,jF];try omega) ?_
 simp only[ go_sem,reduceIte,jA,jB,jC,jD,reduceCtorEq,jE,jF]
 refine(kI ⟨aB 44 0 [(2, .ptr nx .leaf 0 0),(4, .ptr (nx+1) (.agg 2) 0 0),(5, .nilIface),(7, .sl (.agg 4) .free ((cB ws).map Wy.v))],_,_⟩ (nV ?_ (Hp.le_refl _) (Nat.le_refl _)) (aCY .free P ws h' _ nx _ ?_ hl hbad hd (by simp only[hie,go_sem,reduceIte,jA,jB,jC,jD,reduceCtorEq,jE,jF]) (by simp only[hie1,go_sem,reduceIte,jA,jB,jC,jD,reduceCtorEq,jE,jF]) ?_ (by omega)))
 ·simp only[WkL,aB,jH,jI,jJ,go_sem,reduceIte,jA,jB,jC,jD,reduceCtorEq,jE,jF]
 ·cases hcw:cB ws with
  |nil=>exact absurd hcw hne2
  |cons x l=>rfl
 intro m b hm
 have hml:=hd m b hm
 have e1:(m=id)=False:=eq_false (by omega)
 have:=hle0 m b hm
 simp only[e1,go_sem,reduceIte,jA,jB,jC,jD,reduceCtorEq,jE,jF] at this⊢
 exact this
abbrev mps(o:Own)(P:Int)(ws:List Wy):V:= .agg [.int .i64 P,wys o ws]
theorem aIf(o:Own)(P:Int)(ws:List Wy):(mps o P ws).fits (.agg 2)=true:=by simp[V.fits,V.leafy]
theorem aGy(P:Int)(ws:List Wy):(eE P ws).1.2.length≤ws.length:=by
 unfold eE
 split
 ·simp
 split
 ·simp
 split
 ·simp
 exact rO ws
theorem aIg(P:Int)(l:List Wy):∃o,aDf P l=mps o P l:=by
 obtain⟨o,ho⟩:=mC (.agg 4) (l.map Wy.v)
 exact⟨o,by unfold aDf;rw[ho]⟩
theorem lY(o:Own)(P:Int)(ws:List Wy)(hl:ws.length≤1000)(h:Hp):aZ Tryz.prog 63 [mps o P ws] h (.bool (jZ P ws)):=by
 refine aU (fun L=>trivial) fun h' nx hh=>aD L.path_Right_low fun hd=>?_
 have hn:=aCZ o P ws hl
 obtain⟨o2,ho2⟩:=aIg (eE P ws).1.1 (eE P ws).1.2
 rw[ho2] at hn
 have hlen:=aGy P ws
 have he:=aBo Wy.v Wy.fits_v sP aEk o2 o (eE P ws).1.2 ws (by omega)
 have hrm:jZ P ws=(decide ((eE P ws).2=0)&&decide ((eE P ws).1.2=ws)):=by
  rw[Bool.eq_iff_iff]
  unfold jZ
  simp
 rw[hrm]
 simp only[jL,jM,jA,jB,jN,jO,jP,jQ,V.undef]
 (repeat' (first|(with_reducible first|refine stp ?_|refine uP (by decide) ?_|refine uQ (fun _=>?_) (fun _=>?_))|((first|(with_reducible refine uA ?_;first|refine uB rfl ?_ ?_|refine aQ (hn _) rfl (aR _) ?_|refine aQ (he _) rfl (aR _) ?_|(first|refine uC rfl ?_|refine uD rfl ?_)|refine uE rfl ?_)|(with_reducible refine uF ?_;first|refine uG rfl ?_ ?_|(first|refine uH rfl ?_|refine uI rfl ?_)|refine uJ rfl ?_|refine uK (uL ?_)|refine uK (uM ?_))|(with_reducible refine uN ?_;refine uO rfl ?_))<;>try simp only[aIf,dP,go_sem,reduceIte,jA,jB,jC,jD,reduceCtorEq,jE,jF])|(with_reducible refine uR ?_;refine uS rfl ?_)|omega))
 all_goals refine aG h' (by repeat (first|exact Hp.le_refl _|refine aJ hd ?_ (by omega) _|refine aK hd ?_ (by omega))) ⟨?_,rfl⟩
 all_goals rename_i hx
 all_goals simp only[hx,go_sem,reduceIte,jA,jB,jC,jD,reduceCtorEq,jE,jF]
open Classical in
noncomputable def bG(l:List We)(a k:Nat):List Pa:=if h:∃m,gZ l a k m then Classical.choose h else []
theorem mR{l:List We}{a k:Nat}{m:List Pa}(h:gZ l a k m):bG l a k=m:=by
 unfold bG
 rw[dif_pos ⟨m,h⟩]
 exact(Classical.choose_spec (⟨m,h⟩:∃m,gZ l a k m)).unique h
noncomputable def qO(n:Nat)(l:List We)(a:Nat):List (List Pa):=(List.range n).map (bG l a)
theorem aIx{n:Nat}{l:List We}{a:Nat}{out:List (List Pa)}(hl:out.length=n)(h:∀k,k<n→gZ l a k (out.getD k [])):qO n l a=out:=by
 refine List.ext_getElem (by simp[qO,hl]) fun i h1 h2=>?_
 have hi:i<n:=by omega
 have:=mR (h i hi)
 simp only[qO,List.getElem_map,List.getElem_range,this]
 rw[List.getD_eq_getElem?_getD,List.getElem?_eq_getElem h2];rfl
theorem aHT{P:Program}{f:FuncId}{args:List V}{h:Hp}{v:V}{m:Nat}{k:Sh}{es:List V}(hm:h m=some (.arr k es))(hv:∀L:Nat→Prop,L m→v.names L)(hc:∀h' nx,h.has h'→aW P f args h' nx fun v' h'' _=>v'=v∧h''=h'):aZ P f args h v:=by
 intro h' nx hh
 have c:=hc h' nx hh
 refine⟨c.1,fun K cargs hlv hrel hargs=>(c.2 K cargs hlv hrel hargs).mono ?_⟩
 rintro e w' ⟨K',v',cv,h'',nx',rfl,he,hle,hvr,hrel',hlv',hnx,rfl,rfl⟩
 have hml:=hrel.lt m _ (hh m _ hm rfl)
 have hleO:K.le (K'.only fun n=>K'.live n∧n<nx):=⟨fun n hn=>⟨hle.live n hn,hlv n hn⟩,hle.mu,hle.tp,hle.fro,hle.imm,hle.cell,hle.shape,hle.below⟩
 exact⟨K'.only fun n=>K'.live n∧n<nx,v',cv,h'',nx,rfl,he,hleO,hvr.only _ (hv _ ⟨hle.live m hml,hlv m hml⟩),hrel.back hrel' hleO.toV (fun n hn=>⟨hle.live n hn,hlv n hn⟩),fun n hn=>⟨hn.2,(hlv' n hn.1).2⟩,Nat.le_refl _,rfl,rfl,rfl⟩
theorem aCS(m:Nat)(l:List Pa)(p:Pa)(hl:l.length≤1000)(hd:kM l p)(h:Hp)(hm:h m=some (.arr (.agg 2) (l.map Pa.v))):aZ Tryz.prog 109 [jT m l,p.v] h (.tup [jT m l, .bool false]):=by
 refine aHT hm (fun L hL=>?_) (aKd m l p hl hd h (fun _=>hm))
 unfold jT tG
 split<;>simp[V.names,bP,hL]
theorem aIO{P:Program}{k:Sh}{f bs:Nat}(hL:aH P f=some (LB.Clone k bs))(hbs:bs≤140737)(m:Nat)(es:List V)(hl:es.length≤1000000000)(hv:∀L,bP L es)(h:Hp)(hm:h m=some (.arr k es)):pI P f [.rs m k 0 es.length] h k es:=by
 refine aDv hv fun h' nx hh=>aD hL fun hd=>?_
 have hm':=hh m _ hm rfl
 have hlt:=hd m _ hm'
 have hb:es.length*bs≤140737488355328:=Nat.le_trans (Nat.mul_le_mul hl hbs) (by omega)
 simp only[jL,jM,jA,jB,jN,jO,jP,jQ,V.undef]
 have hrf:(es.length≤es.length)=True:=eq_true (Nat.le_refl _)
 (repeat' (first|(with_reducible first|refine stp ?_|refine uP (by decide) ?_|refine uQ (fun _=>?_) (fun _=>?_))|((first|(with_reducible refine uA ?_;first|refine uB rfl ?_ ?_|refine oW rfl rfl (by simp only[hm',hlt,hb,hrf,if_true,hm',hlt,hb,hrf,if_true,go_sem,reduceIte,jA,jB,jC,jD,reduceCtorEq,jE,jF];try omega) ?_|(first|refine uC rfl ?_|refine uD rfl ?_)|refine uE rfl ?_)|(with_reducible refine uF ?_;first|refine uG rfl ?_ ?_|(first|refine uH rfl ?_|refine uI rfl ?_)|refine uJ rfl ?_|refine uK (uL ?_)|refine uK (uM ?_))|(with_reducible refine uN ?_;refine uO rfl ?_))<;>try simp only[hm',hlt,hb,hrf,if_true,go_sem,reduceIte,jA,jB,jC,jD,reduceCtorEq,jE,jF])|(with_reducible refine uR ?_;refine uS rfl ?_)|omega))
 refine aG (h'.set (nx+1) .tip) ?_ ⟨nx+1,by omega,?_,rfl⟩
 ·intro x b hx
  by_cases e:x=nx+1
  ·subst e;simp only[go_sem,reduceIte,jA,jB,jC,jD,reduceCtorEq,jE,jF] at hx⊢;exact hx
  have hx':h' x=some b:=by unfold Hp.set at hx;rwa [if_neg e] at hx
  have:=hd x b hx'
  have e1:(x=nx)=False:=eq_false (by omega)
  simp only[e,e1,go_sem,reduceIte,jA,jB,jC,jD,reduceCtorEq,jE,jF];exact hx'
 simp only[go_sem,reduceIte,jA,jB,jC,jD,reduceCtorEq,jE,jF]
end Go.Proofs.YtecepaehmojpgaaGreat
namespace Go.Proofs.YtecepaehmojpgaaGreat
open Go.RowKit Go.Sort
attribute [local irreducible] IntKind.wrap
theorem aEF(m:Nat)(l:List Pa):(jT m l).leafy=true:=by unfold jT tG;split<;>rfl
theorem aAV(m:Nat)(l:List Pa):(jT m l).fits .leaf=true:=by rw[vF];exact aEF m l
def eB(n:Nat)(ν:Nat→Nat)(out:List (List Pa)):List V:=(List.range n).map fun k=>jT (ν k) (out.getD k [])
theorem rN(n:Nat)(ν:Nat→Nat)(out:List (List Pa)):(eB n ν out).length=n:=by simp[eB]
theorem zU{n:Nat}{ν:Nat→Nat}{out:List (List Pa)}{t:Nat}(ht:t<n):(eB n ν out).getD t (.tup [])=jT (ν t) (out.getD t []):=by
 unfold eB
 rw[List.getD_eq_getElem?_getD,List.getElem?_eq_getElem (by simpa using ht)]
 simp
structure nU(h' hp:Hp)(nx nx1 n:Nat)(mv:V)(out:List (List Pa))(ν:Nat→Nat):Prop where
 box:hp nx=some (.arr (.agg 2) [mv])
 tab:hp (nx+1)=some (.arr .leaf (eB n ν out))
 row:∀k,k<n→out.getD k []≠ []→hp (ν k)=some (.arr (.agg 2) ((out.getD k []).map Pa.v))∧nx+2≤ν k∧ν k<nx1
 apart:∀j k,j<n→k<n→j≠k→out.getD j []≠ []→out.getD k []≠ []→ν j≠ν k
 dom:aM hp nx1
 ge:nx+2≤nx1
 same:Hp.same nx h' hp
theorem nU.box'{h' hp:Hp}{nx nx1 n:Nat}{mv:V}{out:List (List Pa)}{ν:Nat→Nat}(F:nU h' hp nx nx1 n mv out ν){x:Nat}(h1:nx1≤x){nx2:Nat}(h2:x<nx2)(b:Blk):nU h' (hp.set x b) nx nx2 n mv out ν:=by
 have hge:=F.ge
 have hs:∀y,y<nx1→(hp.set x b) y=hp y:=fun y hy=>by unfold Hp.set;rw[if_neg (by omega)]
 refine⟨by rw[hs _ (by omega)];exact F.box,by rw[hs _ (by omega)];exact F.tab,fun k hk hne=>?_,F.apart,F.dom.set (by omega) (by omega) b,by omega,(by(try dsimp only);repeat (first|exact F.same|refine bJ ?_ (by omega) _|refine bO ?_ (by omega)))⟩
 obtain⟨a,b',c⟩:=F.row k hk hne
 exact⟨by rw[hs _ c];exact a,b',by omega⟩
theorem nU.again{h' hp:Hp}{nx nx1 n:Nat}{mv:V}{out:List (List Pa)}{ν:Nat→Nat}(F:nU h' hp nx nx1 n mv out ν){x:Nat}(hx:nx+2≤x)(hx1:x<nx1)(hν:∀k,k<n→out.getD k []≠ []→ν k≠x)(b:Blk):nU h' (hp.set x b) nx nx1 n mv out ν:=by
 have hge:=F.ge
 have hs:∀y,y≠x→(hp.set x b) y=hp y:=fun y hy=>by unfold Hp.set;rw[if_neg hy]
 refine⟨by rw[hs _ (by omega)];exact F.box,by rw[hs _ (by omega)];exact F.tab,fun k hk hne=>?_,F.apart,F.dom.set2 hx1 b,by omega,(by(try dsimp only);repeat (first|exact F.same|refine bJ ?_ (by omega) _|refine bO ?_ (by omega)))⟩
 obtain⟨a,b',c⟩:=F.row k hk hne
 exact⟨by rw[hs _ (hν k hk hne)];exact a,b',c⟩
theorem nU.del{h' hp:Hp}{nx nx1 n:Nat}{mv:V}{out:List (List Pa)}{ν:Nat→Nat}(F:nU h' hp nx nx1 n mv out ν){id:Nat}(hid:hp id=some .tip)(hge:nx+2≤id):nU h' (hp.del id) nx nx1 n mv out ν:=by
 have hs:∀y,hp y≠some .tip→(hp.del id) y=hp y:=fun y hy=>by unfold Hp.del;rw[if_neg (fun e=>hy (by rw[e];exact hid))]
 refine⟨by rw[hs _ (by rw[F.box];exact(fun e=>by cases e))];exact F.box,by rw[hs _ (by rw[F.tab];exact(fun e=>by cases e))];exact F.tab,fun k hk hne=>?_,F.apart,F.dom.del,F.ge,(by(try dsimp only);repeat (first|exact F.same|refine bJ ?_ (by omega) _|refine bO ?_ (by omega)))⟩
 obtain⟨a,b',c⟩:=F.row k hk hne
 exact⟨by rw[hs _ (by rw[a];exact(fun e=>by cases e))];exact a,b',c⟩
theorem nU.put{h' hp:Hp}{nx nx1 nx2 n:Nat}{mv:V}{out:List (List Pa)}{ν:Nat→Nat}(F:nU h' hp nx nx1 n mv out ν)(hlen:out.length=n){t x:Nat}(ht:t<n)(L':List Pa)(hL:L'≠ [])(hx:nx1≤x)(hx2:x<nx2)
 {hq:Hp} (h1:hq x=some (.arr (.agg 2) (L'.map Pa.v))) (h2:hq (nx+1)=some (.arr .leaf ((eB n ν out).set t (.rs x (.agg 2) 0 L'.length)))) (h3:∀y,y≠x→y≠nx+1→(out.getD t []≠ []→y≠ν t)→y<nx1→hq y=hp y) (hd:aM hq nx2):
 nU h' hq nx nx2 n mv (out.set t L') (fun k=>if k=t then x else ν k):=by
 have hge:=F.ge
 have hset:∀j,(out.set t L').getD j []=if j=t then L' else out.getD j []:=fun j=>kQ _ _ _ _ _ (by rw[hlen];exact ht)
 refine⟨?_,?_,fun k hk hne=>?_,fun j k hj hk hjk hnj hnk=>?_,hd,by omega,fun y hy=>?_⟩
 ·rw[h3 nx (by omega) (by omega) (fun hne e=>by have:=(F.row t ht hne).2.1;omega) (by omega)];exact F.box
 ·rw[h2]
  congr 2
  refine List.ext_getElem (by simp[eB]) fun i i1 i2=>?_
  have hin:i<n:=by simpa [eB] using i2
  rw[List.getElem_set]
  simp only[eB,List.getElem_map,List.getElem_range,hset]
  by_cases e:t=i
  ·subst e
   simp only[if_true]
   unfold jT tG
   cases L' with
   |nil=>exact absurd rfl hL
   |cons=>simp
  have e':¬i=t:=fun h=>e h.symm
  simp only[e,e',if_false]
 ·rw[hset] at hne⊢
  by_cases e:k=t
  ·simp only[e,if_true];exact⟨h1,by omega,hx2⟩
  simp only[e,if_false] at hne⊢
  obtain⟨a,b,c⟩:=F.row k hk hne
  exact⟨by rw[h3 _ (by omega) (by omega) (fun hnt=>F.apart k t hk ht e hne hnt) c];exact a,b,by omega⟩
 ·rw[hset] at hnj hnk
  by_cases e:j=t<;>by_cases e2:k=t
  ·omega
  ·simp only[e,e2,if_true,if_false] at hnk⊢
   have:=(F.row k hk hnk).2.2;omega
  ·simp only[e,e2,if_true,if_false] at hnj⊢
   have:=(F.row j hj hnj).2.2;omega
  simp only[e,e2,if_false] at hnj hnk⊢
  exact F.apart j k hj hk hjk hnj hnk
 rw[h3 y (by omega) (by omega) (fun hne e=>by have:=(F.row t ht hne).2.1;omega) (by omega)];exact F.same y hy
def coL(out:List (List Pa)):Nat:=(out.map co).sum
theorem aFT{out:List (List Pa)}{t:Nat}{L':List Pa}(ht:t<out.length)(hc:co L'+1≤co (out.getD t [])):coL (out.set t L')+1≤coL out:=by
 unfold coL
 induction out generalizing t with
 |nil=>simp at ht
 |cons x out ih=>
  cases t with
  |zero=>
   simp at hc
   simp only[List.set_cons_zero,List.map_cons,List.sum_cons]
   omega
  |succ t=>
   have:=ih (t:=t) (by simpa using ht) (by simpa using hc)
   simp only[List.set_cons_succ,List.map_cons,List.sum_cons]
   omega
theorem aKw(out:List (List Pa)):coL out≤out.length*2097154:=by
 unfold coL
 induction out with
 |nil=>simp
 |cons x out ih=>
  have h1:=sJ x
  have h2:=sJ (x.filter fun p=>p.n)
  simp only[List.map_cons,List.sum_cons,List.length_cons,co]
  omega
theorem tH{l:List Pa}(h:Can l):l.length≤2:=by
 match l,h with
 | [],_=>simp
 | [a],_=>simp
 | [a,b],_=>simp
 |a::b::c::l,h=>
  have h1:=(List.pairwise_cons.1 h).1 b (by simp)
  have h2:=(List.pairwise_cons.1 (List.pairwise_cons.1 h).2).1 c (by simp)
  rw[h1.2.1] at h2
  cases h2.1
end Go.Proofs.YtecepaehmojpgaaGreat
namespace Go.Proofs.YtecepaehmojpgaaGreat
open Go.Proofs.YtecepaehmojpgaaGreat renaming gW→uA,fK→uB,cU→uC,cV→uD,cK→uE,gX→uF,dI→uG,cW→uH,cX→uI,cL→uJ,dH→uK,dN→uL,fL→uM,gY→uN,eG→uO,bQ→uP,kN→uQ,iP→uR,eU→uS
open Go.RowKit Go.Sort
attribute [local irreducible] IntKind.wrap
theorem aHi{h' hp:Hp}{nx nx1 n:Nat}{mv:V}{out:List (List Pa)}{ν:Nat→Nat}(F:nU h' hp nx nx1 n mv out ν){k:Nat}(hk:k<n)(hl:(out.getD k []).length≤1000){id:Nat}(hid:hp id=some .tip)(hidn:id<nx1):
 aW Tryz.prog 107 [jT (ν k) (out.getD k [])] hp nx1 fun v h2 nx2=>∃o,v=pas o (out.getD k [])∧nU h' h2 nx nx2 n mv out ν∧h2 id=some .tip∧id<nx2:=by
 by_cases hne:out.getD k []=[]
 ·rw[hne]
  have c:=zR sQ (by omega) .nil [] (by simp) (fun _=>rfl) (fun L=>trivial) hp hp nx1 (aR _)
  refine c.mono ?_
  rintro v h2 nx2 hnx ⟨rfl,rfl,rfl⟩
  exact⟨.nil,rfl,F,hid,hidn⟩
 have hrow:jT (ν k) (out.getD k [])= .rs (ν k) (.agg 2) 0 ((out.getD k []).map Pa.v).length:=by
  unfold jT tG
  cases e:out.getD k [] with
  |nil=>exact absurd e hne
  |cons=>simp
 rw[hrow]
 have c:=(aIO sQ (by omega) (ν k) ((out.getD k []).map Pa.v) (by rw[jK];omega) (fun L=>cF (Pa.names_v L) _) hp (F.row k hk hne).1).2 hp nx1 (aR _)
 refine c.mono ?_
 rintro v h2 nx2 hnx ⟨rfl,rfl,rfl⟩
 refine⟨.tok nx1,rfl,F.box' (Nat.le_refl _) (by omega) _,?_,by omega⟩
 unfold Hp.set
 rw[if_neg (by omega)]
 exact hid
set_option maxRecDepth 100000 in
set_option maxHeartbeats 4000000 in
theorem aGV(ow:Own)(n:Nat)(l:List We)(a:Nat)(hfit:aAJ n l)(ha:a<n)(hn:n≤200)(hl:l.length≤1000)(h':Hp)(nx:Nat):
 aW Tryz.prog 72 [.agg [.int .i64 n,wes ow l], .int .i64 a] h' nx fun v h'' _=>∃O ν ls es,v= .rs O .leaf 0 ls.length∧nx≤O∧(∀i (hi:i<ls.length),ls[i]≠ []→nx≤ν i)∧aAf h'' O (.agg 2) ν ls 0 es∧(∀x,x<nx→h'' x=h' x)∧ls=(qO n l a).map (List.map Pa.v):=by
 refine aD L.path_from_low fun hd=>?_
 have hmf:(V.agg [.int .i64 (n:Int),wes ow l]).fits (.agg 2)=true:=by simp[V.fits,V.leafy]
 simp only[jL,jM,jA,jB,jN,jO,jP,jQ,V.undef]
 repeat (first|with_reducible refine bI ?_|with_reducible refine cT ?_|with_reducible refine dZ ?_|with_reducible refine aO ?_|with_reducible refine bT ?_|with_reducible refine bN ?_|with_reducible refine dL ?_)
 refine eW rfl (by simp only[hmf,go_sem,reduceIte,jA,jB,jC,jD,reduceCtorEq,jE,jF];try omega) ?_
 simp only[hmf,go_sem,reduceIte,jA,jB,jC,jD,reduceCtorEq,jE,jF]
 repeat (first|with_reducible refine bI ?_|with_reducible refine cT ?_|with_reducible refine dZ ?_|with_reducible refine aO ?_|with_reducible refine bT ?_|with_reducible refine bN ?_|with_reducible refine dL ?_)
 refine eW rfl (by simp only[hmf,go_sem,reduceIte,jA,jB,jC,jD,reduceCtorEq,jE,jF];try omega) ?_
 simp only[hmf,go_sem,reduceIte,jA,jB,jC,jD,reduceCtorEq,jE,jF]
 repeat (first|with_reducible refine bI ?_|with_reducible refine cT ?_|with_reducible refine dZ ?_|with_reducible refine aO ?_|with_reducible refine bT ?_|with_reducible refine bN ?_|with_reducible refine dL ?_)
 refine bB 3 rfl (by simp only[go_sem,reduceIte,jA,jB,jC,jD,reduceCtorEq,jE,jF]) ?_
 simp only[go_sem,reduceIte,jA,jB,jC,jD,reduceCtorEq,jE,jF]
 refine wQ (by simp[aL.ev,V.fits,V.leafy]) ?_
 simp only[jL,jM,List.map_cons,List.map_nil,go_sem,reduceIte,jA,jB,jC,jD,reduceCtorEq,jE,jF]
 have hg0:(List.replicate n (V.sl (.agg 2) .nil [])).getD a (.tup [])= .sl (.agg 2) .nil []:=by
  rw[List.getD_eq_getElem?_getD,List.getElem?_replicate,if_pos ha];rfl
 have hst0:bR .leaf 0 (V.sl (.agg 2) .nil []) (.rs (nx+2) (.agg 2) 0 1)= .rs (nx+2) (.agg 2) 0 1:=cG rfl rfl
 (repeat' (first|(with_reducible first|refine stp ?_|refine uP (by decide) ?_|refine uQ (fun _=>?_) (fun _=>?_))|((first|(with_reducible refine uA ?_;first|refine uB rfl ?_ ?_|(first|refine uC rfl ?_|refine uD rfl ?_)|refine uE rfl ?_)|(with_reducible refine uF ?_;first|refine uG rfl ?_ ?_|(first|refine uH rfl ?_|refine uI rfl ?_)|refine uJ rfl ?_|refine uK (uL ?_)|refine uK (uM ?_))|(with_reducible refine uN ?_;refine uO rfl ?_))<;>try simp only[ha,List.length_replicate,hg0,hst0,go_sem,reduceIte,jA,jB,jC,jD,reduceCtorEq,jE,jF])|(with_reducible refine uR ?_;refine uS rfl ?_)|omega))
 obtain⟨mv,hmv⟩:∃mv:V,mv= .agg [.int .i64 (n:Int),wes ow l]:=⟨_,rfl⟩
 have F0:nU h' ((h'.set nx (.arr (.agg 2) [mv])).set (nx+1) (.arr .leaf (List.replicate n (.sl (.agg 2) .nil [])))) nx (nx+2) n mv (List.replicate n []) (fun _=>0):=by
  have hrep:∀k,(List.replicate n ([]:List Pa)).getD k []=[]:=fun k=>by rw[List.getD_eq_getElem?_getD,List.getElem?_replicate];split<;>rfl
  refine⟨by simp only[go_sem,reduceIte,jA,jB,jC,jD,reduceCtorEq,jE,jF],?_,fun k hk hne=>absurd (hrep k) hne,fun j k hj hk hjk hnj=>absurd (hrep j) hnj,(by(try dsimp only);repeat (first|exact aM.up hd (by omega)|refine aM.set2 ?_ (by omega) _|refine aM.del ?_|refine aM.delO ?_ _)),Nat.le_refl _,(by(try dsimp only);repeat (first|exact Hp.same.rfl'|refine bJ ?_ (by omega) _|refine bO ?_ (by omega)))⟩
  simp only[go_sem,reduceIte,jA,jB,jC,jD,reduceCtorEq,jE,jF]
  congr 1
  refine List.ext_getElem (by simp[eB]) fun i i1 i2=>?_
  simp only[eB,List.getElem_map,List.getElem_range,hrep,List.getElem_replicate]
  rfl
 have hin:a<(List.replicate n ([]:List Pa)).length:=by simpa using ha
 have F1:=F0.put (by simp) ha [Pa.nought] (by simp) (x:=nx+2) (nx2:=nx+5) (by omega) (by omega) (hq:=((((h'.set nx (.arr (.agg 2) [mv])).set (nx+1) (.arr .leaf (List.replicate n (.sl (.agg 2) .nil [])))).set (nx+2) (.arr (.agg 2) [Pa.nought.v])).set (nx+1) (.arr .leaf ((List.replicate n (.sl (.agg 2) .nil [])).set a (.rs (nx+2) (.agg 2) 0 1)))).set (nx+4) .tip)
  (by simp only[List.map_cons,List.map_nil,go_sem,reduceIte,jA,jB,jC,jD,reduceCtorEq,jE,jF]) (by
    have:eB n (fun _=>0) (List.replicate n [])=List.replicate n (.sl (.agg 2) .nil []):=by
     have:=F0.tab
     simp only[go_sem,reduceIte,jA,jB,jC,jD,reduceCtorEq,jE,jF] at this
     injection this with _ h2
     exact h2.symm
    simp only[this,jL,jM,go_sem,reduceIte,jA,jB,jC,jD,reduceCtorEq,jE,jF]) (fun y h1 h2 _ h4=>by
    have e1:(y=nx+4)=False:=eq_false (by omega)
    have e2:(y=nx+1)=False:=eq_false h2
    have e3:(y=nx+2)=False:=eq_false h1
    simp only[e1,e2,e3,go_sem,reduceIte,jA,jB,jC,jD,reduceCtorEq,jE,jF]) (by(try dsimp only);repeat (first|exact aM.up hd (by omega)|refine aM.set2 ?_ (by omega) _|refine aM.del ?_|refine aM.delO ?_ _))
 refine aY (fun q:List (List Pa)×(Nat→Nat)×List Nat×Nat=>aB 88 0 [(2, .ptr nx (.agg 2) 0 0),(5, .rs (nx+1) .leaf 0 n),(6,fS q.2.2.2 q.2.2.1)])
  (fun q hp nx1=>nU h' hp nx nx1 n mv q.1 q.2.1∧hp q.2.2.2=some .tip∧nx+2≤q.2.2.2∧q.2.2.2<nx1∧aCv l n a q.1 q.2.2.1∧coL q.1+q.2.2.1.length≤1000000000)
  (fun q=>coL q.1+q.2.2.1.length) ((List.replicate n []).set a [Pa.nought],(fun k=>if k=a then nx+2 else 0),[a],nx+4) ⟨?_,?_,by dsimp only;omega,by dsimp only;omega,aCv.first ha,?_⟩ ?_ ?_
 ·rw[←hmv];exact F1
 ·simp only[go_sem,reduceIte,jA,jB,jC,jD,reduceCtorEq,jE,jF]
 ·have:=aKw ((List.replicate n ([]:List Pa)).set a [Pa.nought])
  simp only[List.length_set,List.length_replicate,jL,jM] at this⊢
  omega
 ·simp only[WkL,aB,jH,jI,jJ,fS,go_sem,reduceIte,jA,jB,jC,jD,reduceCtorEq,jE,jF]
 clear F0 F1 hg0 hst0
 rintro⟨out,ν,todo,id⟩ hp nx1 ⟨F,q2,q3,q4,W,q6⟩
 generalize hQ:bZ _ _ _ _ _=Q0
 dsimp only at q2 q3 q4 q6 F W
 simp only[aB,go_sem,reduceIte,jA,jB,jC,jD,reduceCtorEq,jE,jF]
 have hbox:=F.box
 rw[hmv] at hbox
 have htab:=F.tab
 have hge:=F.ge
 cases todo with
 |nil=>
  have hc:decide ((0:Int)<((0:Nat):Int))=false:=by decide
  (repeat' (first|(with_reducible first|refine stp ?_|refine uP (by decide) ?_|refine uQ (fun _=>?_) (fun _=>?_))|((first|(with_reducible refine uA ?_;first|refine uB rfl ?_ ?_|(first|refine uC rfl ?_|refine uD rfl ?_)|refine uE rfl ?_)|(with_reducible refine uF ?_;first|refine uG rfl ?_ ?_|(first|refine uH rfl ?_|refine uI rfl ?_)|refine uJ rfl ?_|refine uK (uL ?_)|refine uK (uM ?_))|(with_reducible refine uN ?_;refine uO rfl ?_))<;>try simp only[fS,hc,jK,go_sem,reduceIte,jA,jB,jC,jD,reduceCtorEq,jE,jF])|(with_reducible refine uR ?_;refine uS rfl ?_)|omega))
  rw[←hQ]
  refine au ?_
  have hfl:qO n l a=out:=aIx W.len fun k hk=>W.done (fun w hw=>(hfit w hw).2.1) ha k
  have hol:=W.len
  refine aG hp (Hp.le_refl _) ⟨nx+1,ν,out.map (List.map Pa.v),eB n ν out,?_,by omega,fun i hi hne=>?_,?_,F.same,by rw[hfl]⟩
  ·simp only[jK,hol,go_sem,reduceIte,jA,jB,jC,jD,reduceCtorEq,jE,jF]
  ·have hi':i<n:=by simpa [hol] using hi
   have hgi:out.getD i []=out[i]'(by omega):=by rw[List.getD_eq_getElem?_getD,List.getElem?_eq_getElem (by omega)];rfl
   have:=(F.row i hi' (by rw[hgi];intro e;exact hne (by simp[e]))).2.1
   omega
  have hgi:∀i (hi:i<n),out.getD i []=out[i]'(by omega):=fun i hi=>by rw[List.getD_eq_getElem?_getD,List.getElem?_eq_getElem (by omega)];rfl
  refine⟨htab,by rw[rN];simp[hol],fun i hi hi' h0=>absurd h0 (by omega),fun i hi hi' _=>?_,fun i hi _ hne=>?_,fun i i' hi hi' _ hlt hne hne'=>?_⟩
  ·have hin:i<n:=by simpa [hol] using hi
   simp only[eB,List.getElem_map,List.getElem_range,hgi i hin]
  ·have hin:i<n:=by simpa [hol] using hi
   have:=F.row i hin (by rw[hgi i hin];intro e;exact hne (by simp[e]))
   rw[hgi i hin] at this
   exact⟨by rw[this.1];simp,by omega⟩
  have hin:i<n:=by simpa [hol] using hi
  have hin':i'<n:=by simpa [hol] using hi'
  exact F.apart i i' hin hin' (by omega) (by rw[hgi i hin];intro e;exact hne (by simp[e])) (by rw[hgi i' hin'];intro e;exact hne' (by simp[e]))
 |cons k rest=>
  have hk:k<n:=W.lt k (by simp)
  have hget:=zU (ν:=ν) (out:=out) hk
  have hlenk:=rN n ν out
  have hfitp:=aAV (ν k) (out.getD k [])
  have hcanl:(out.getD k []).length≤1000:=Nat.le_trans (tH (W.can k)) (by omega)
  have hcl:=aHi F hk hcanl q2 q4
  (repeat' (first|(with_reducible first|refine stp ?_|refine uP (by decide) ?_|refine uQ (fun _=>?_) (fun _=>?_))|((first|(with_reducible refine uA ?_;first|refine uB rfl ?_ ?_|(first|refine uC rfl ?_|refine uD rfl ?_)|refine uE rfl ?_)|(with_reducible refine uF ?_;first|refine uG rfl ?_ ?_|(first|refine uH rfl ?_|refine uI rfl ?_)|refine uJ rfl ?_|refine uK (uL ?_)|refine uK (uM ?_))|(with_reducible refine uN ?_;refine uO rfl ?_))<;>try simp only[fS,aKn,aFb,hbox,htab,hk,hget,hlenk,hfitp,jK,jG,go_sem,reduceIte,jA,jB,jC,jD,reduceCtorEq,jE,jF])|(with_reducible refine uR ?_;refine uS rfl ?_)|omega))
  refine aX (hcl.mono ?_)
  rintro v2 hq nx2 hnx2 ⟨o8,rfl,F2,q2b,q4b⟩
  unfold cR
  have hfl:List.take rest.length (rest.map fun x:Nat=>V.int .i64 (x:Int))=rest.map fun x:Nat=>V.int .i64 (x:Int):=List.take_of_length_le (by simp)
  have hbox2:=F2.box
  rw[hmv] at hbox2
  have hpl:=tH (W.can k)
  have WI:=W.begin
  obtain⟨paths,hpaths⟩:∃paths,paths=out.getD k []:=⟨_,rfl⟩
  rw[←hpaths] at hpl WI⊢
  simp only[hfl,go_sem,reduceIte,jA,jB,jC,jD,reduceCtorEq,jE,jF]
  refine aue hbox2 ?_
  refine aY (fun q:Nat×List (List Pa)×(Nat→Nat)×List Nat×Nat=>aB 88 0 [(2, .ptr nx (.agg 2) 0 0),(5, .rs (nx+1) .leaf 0 n),(6,fS q.2.2.2.2 q.2.2.2.1),(7, .int .i64 k),(8,pas o8 paths),(40,wes ow l),(41, .int .i64 l.length),(42, .int .i64 q.1)])
   (fun q hp nx1=>q.1≤l.length∧nU h' hp nx nx1 n mv q.2.1 q.2.2.1∧hp q.2.2.2.2=some .tip∧nx+2≤q.2.2.2.2∧q.2.2.2.2<nx1∧lM l n a k paths (fun w _=>w∈l.take q.1) q.2.1 q.2.2.2.1∧coL q.2.1+q.2.2.2.1.length≤coL out+rest.length)
   (fun q=>l.length-q.1) (0,out,ν,rest,id) ⟨Nat.zero_le _,F2,q2b,q3,q4b,WI.more (fun w hw p hp h=>by simp at h),Nat.le_refl _⟩ ?_ ?_
  ·simp only[WkL,aB,jH,jI,jJ,fS,pas,wes,go_sem,reduceIte,jA,jB,jC,jD,reduceCtorEq,jE,jF]
  rintro⟨j,out3,ν3,rest3,id3⟩ hp3 nx3 ⟨r1,F3,r2,r3,r4,W3,r6⟩
  generalize hQ3:bZ _ _ _ _ _=Q3
  dsimp only at r1 r2 r3 r4 r6 F3 W3
  simp only[aB,go_sem,reduceIte,jA,jB,jC,jD,reduceCtorEq,jE,jF]
  rcases Nat.lt_or_ge j l.length with hlt|hge3
  ·have hc:decide ((j:Int)<(l.length:Int))=true:=decide_eq_true (by omega)
   have hg:(l.map We.v).getD j (.tup [])=l[j].v:=cE We.v l j hlt
   have hw:IntKind.i64.wrap ((j:Int)+1)=((j+1:Nat):Int):=by rw[bM]<;>omega
   have htk:l.take (j+1)=l.take j++[l[j]]:=List.take_succ_eq_append_getElem hlt
   have hge:=F3.ge
   have hwf:=hfit l[j] (List.getElem_mem _)
   by_cases hfk:l[j].f=k
   ·have hcf:((l[j].f:Int) != (k:Int))=false:=by simp[hfk]
    refine aue (ee6 hc hg hw hlt hcf We.v.eq_1) ?_
    obtain⟨bA,hbA⟩:∃bA:Blk,bA= .arr (.agg 4) [V.agg [V.int IntKind.i64 0,V.int IntKind.i64 0,V.bool false,V.int IntKind.i64 0]]:=⟨_,rfl⟩
    have F4:nU h' ((hp3.set nx3 bA).set nx3 (.arr (.agg 4) [l[j].v])) nx (nx3+2) n mv out3 ν3:=(F3.box' (x:=nx3) (Nat.le_refl _) (nx2:=nx3+2) (by omega) _).again (by omega) (by omega) (fun k hk hne=>by have:=(F3.row k hk hne).2.2;omega) _
    rw[←hbA]
    have e1:(id3=nx3)=False:=eq_false (by omega)
    refine aY (fun q:Nat×List (List Pa)×(Nat→Nat)×List Nat×Nat=>aB 88 0 [(2, .ptr nx (.agg 2) 0 0),(5, .rs (nx+1) .leaf 0 n),(6,fS q.2.2.2.2 q.2.2.2.1),(7, .int .i64 k),(8,pas o8 paths),(10, .ptr nx3 (.agg 4) 0 0),(40,wes ow l),(41, .int .i64 l.length),(42, .int .i64 j),(50,pas o8 paths),(51, .int .i64 paths.length),(52, .int .i64 q.1)])
     (fun q hp nx1=>q.1≤paths.length∧nU h' hp nx nx1 n mv q.2.1 q.2.2.1∧hp q.2.2.2.2=some .tip∧nx+2≤q.2.2.2.2∧q.2.2.2.2<nx1∧hp nx3=some (.arr (.agg 4) [l[j].v])∧nx3+2≤nx1∧(∀k,k<n→q.2.1.getD k []≠ []→q.2.2.1 k≠nx3)∧lM l n a k paths (fun w p=>w∈l.take j∨(w=l[j]∧p∈paths.take q.1)) q.2.1 q.2.2.2.1∧coL q.2.1+q.2.2.2.1.length≤coL out+rest.length)
     (fun q=>paths.length-q.1) (0,out3,ν3,rest3,id3) ⟨Nat.zero_le _,F4,by simp only[e1,r2,go_sem,reduceIte,jA,jB,jC,jD,reduceCtorEq,jE,jF],r3,by dsimp only;omega,by simp only[We.v,go_sem,reduceIte,jA,jB,jC,jD,reduceCtorEq,jE,jF],Nat.le_refl _,fun k hk hne=>by have:=(F3.row k hk hne).2.2;dsimp only;omega,W3.more (fun w hw p hp h hf=> .inl (h.elim (fun h=>h) fun h=>by simp at h)),r6⟩ ?_ ?_
    ·have e50:paths.length=(paths.map Pa.v).length:=by simp
     simp only[WkL,aB,jH,jI,jJ,fS,pas,wes,jK,We.v,go_sem,reduceIte,jA,jB,jC,jD,reduceCtorEq,jE,jF]
    rintro⟨i,out4,ν4,rest4,id4⟩ hp4 nx4 ⟨s1,F5,s2,s3,s4,s5,s6,s7,W4,s8⟩
    generalize hQ4:bZ _ _ _ _ _=Q4
    dsimp only at s1 s2 s3 s4 s5 s6 s7 s8 F5 W4
    simp only[aB,go_sem,reduceIte,jA,jB,jC,jD,reduceCtorEq,jE,jF]
    have htab4:=F5.tab
    have hge4:=F5.ge
    rcases Nat.lt_or_ge i paths.length with hlt4|hge5
    ·have hc:decide ((i:Int)<(paths.length:Int))=true:=decide_eq_true (by omega)
     have hg4:(paths.map Pa.v).getD i (.tup [])=paths[i].v:=cE Pa.v paths i hlt4
     have hw4:IntKind.i64.wrap ((i:Int)+1)=((i+1:Nat):Int):=by rw[bM]<;>omega
     have hti:l[j].t<n:=hwf.2.1
     have hthn:=Pa.then_thn paths[i] l[j].p
     have htk4:paths.take (i+1)=paths.take i++[paths[i]]:=List.take_succ_eq_append_getElem hlt4
     have hpi:paths[i]∈paths:=List.getElem_mem _
     have hwj:l[j]∈l:=List.getElem_mem _
     have hlp:=iZ (k:=Sh.agg 2) (Pa.fits_v paths[i])
     have hfp:=Pa.fits_v paths[i]
     have hft:=Pa.fits_v (paths[i].then l[j].p).1
     have hget:=zU (ν:=ν4) (out:=out4) hti
     have hlenk:=rN n ν4 out4
     have hfitp:=aAV (ν4 l[j].t) (out4.getD l[j].t [])
     have n1:(nx=nx4+1)=False:=eq_false (by omega)
     have n2:(nx+1=nx4)=False:=eq_false (by omega)
     have n3:nx+1<nx4:=by omega
     have n4:nx3<nx4:=by omega
     have n5:(nx3=nx4)=False:=eq_false (by omega)
     have n6:(nx3=nx4+2)=False:=eq_false (by omega)
     have i1:(id4=nx4)=False:=eq_false (by omega)
     have i2:(id4=nx4+2)=False:=eq_false (by omega)
     have n7:((0:Int)≤(i:Int))=True:=eq_true (by omega)
     have n8:((i:Int)<(paths.length:Int))=True:=eq_true (by omega)
     have n9:((0:Int)≤(l[j].t:Int))=True:=eq_true (by omega)
     have n10:((l[j].t:Int)<(n:Int))=True:=eq_true (by omega)
     by_cases he:(paths[i].then l[j].p).2=0
     ·rw[if_pos he] at hthn
      have hce:decide ((paths[i].then l[j].p).2=0)=true:=decide_eq_true he
      obtain⟨r,hr⟩:∃r,r=(paths[i].then l[j].p).1:=⟨_,rfl⟩
      rw[←hr] at hthn hft
      have hfr:=Pa.fits_v r
      by_cases hdo:kM (out4.getD l[j].t []) r
      ·(repeat' (first|(with_reducible first|refine stp ?_|refine uP (by decide) ?_|refine uQ (fun _=>?_) (fun _=>?_))|((first|(with_reducible refine uA ?_;first|refine uB rfl ?_ ?_|refine aQ (nE paths[i] l[j].p _) rfl (aR _) ?_|(first|refine uC rfl ?_|refine uD rfl ?_)|refine uE rfl ?_)|(with_reducible refine uF ?_;first|refine uG rfl ?_ ?_|(first|refine uH rfl ?_|refine uI rfl ?_)|refine uJ rfl ?_|refine uK (uL ?_)|refine uK (uM ?_))|(with_reducible refine uN ?_;refine uO rfl ?_))<;>try simp only[hc,hg4,hlt4,hw4,hce,dP,hlp,hfp,hft,hget,hlenk,hti,hfitp,n1,n2,n3,n4,n5,n6,n7,n8,n9,n10,and_self,and_true,true_and,s5,s6,htab4,We.v,←hr,jK,jG,go_sem,reduceIte,jA,jB,jC,jD,reduceCtorEq,jE,jF])|(with_reducible refine uR ?_;refine uS rfl ?_)|omega))
       have hne4:out4.getD l[j].t []≠ []:=fun e=>by obtain⟨q,hq,_⟩:=hdo;rw[e] at hq;cases hq
       have hrow4:=(F5.row _ hti hne4).1
       have hl4:=tH (W4.can l[j].t)
       have hst:bR .leaf 0 (jT (ν4 l[j].t) (out4.getD l[j].t [])) (jT (ν4 l[j].t) (out4.getD l[j].t []))=jT (ν4 l[j].t) (out4.getD l[j].t []):=cG hfitp hfitp
       have hself:(eB n ν4 out4).set l[j].t (jT (ν4 l[j].t) (out4.getD l[j].t []))=eB n ν4 out4:=by
        refine List.ext_getElem (by simp) fun i i1 i2=>?_
        rw[List.getElem_set]
        split
        ·rename_i e
         subst e
         rw[←hget,List.getD_eq_getElem?_getD,List.getElem?_eq_getElem i2];rfl
        rfl
       have hsame:∀hx:Hp,(hx (nx+1)=some (.arr .leaf (eB n ν4 out4)))→hx.set (nx+1) (.arr .leaf (eB n ν4 out4))=hx:=fun hx e=>by
        funext y;unfold Hp.set;split
        ·rename_i e';subst e';exact e.symm
        rfl
       refine aFk (aCS (ν4 l[j].t) (out4.getD l[j].t []) r (by omega) hdo (Hp.set (fun _=>none) (ν4 l[j].t) (.arr (.agg 2) ((out4.getD l[j].t []).map Pa.v))) ?_) rfl ?_ ?_
       ·simp only[go_sem,reduceIte,jA,jB,jC,jD,reduceCtorEq,jE,jF]
       ·intro y es e _
        unfold Hp.set at e
        split at e
        ·rename_i ey
         have h1:=(F5.row _ hti hne4).2.2
         have m1:(ν4 l[j].t=nx4)=False:=eq_false (by omega)
         have m2:(ν4 l[j].t=nx4+2)=False:=eq_false (by omega)
         rw[←e,ey]
         simp only[iQ,m1,m2,hrow4,go_sem,reduceIte,jA,jB,jC,jD,reduceCtorEq,jE,jF]
        cases e
       simp only[go_sem,reduceIte,jA,jB,jC,jD,reduceCtorEq,jE,jF]
       refine aue and_self ?_
       refine nP (es:=eB n ν4 out4) rfl (mS (by omega) (by simp only[n1,n2,htab4,go_sem,reduceIte,jA,jB,jC,jD,reduceCtorEq,jE,jF]) (by simp only[cZ])) (by rw[hlenk];exact hti) (by first|exact jU _|simp only[go_sem,reduceIte,jA,jB,jC,jD,reduceCtorEq,jE,jF]) hfitp ?_
       simp only[hget,hst,hself,jG,go_sem,reduceIte,jA,jB,jC,jD,reduceCtorEq,jE,jF]
       refine aue (aLe hget hlenk hti hfitp n1 n2 n3 n4 n5 n6 n9 n10 and_self and_true true_and htab4) ?_
       rw[←hQ4,hsame _ (by simp only[n1,n2,htab4,go_sem,reduceIte,jA,jB,jC,jD,reduceCtorEq,jE,jF])]
       have FB:=((((F5.box' (x:=nx4) (Nat.le_refl _) (nx2:=nx4+20) (by omega) (.arr (.agg 2) [V.agg [V.bool false,V.int IntKind.i64 0]])).again (by omega) (by omega) (fun k hk hne=>by have:=(F5.row k hk hne).2.2;omega) (.arr (.agg 2) [paths[i].v])).again (x:=nx4+2) (by omega) (by omega) (fun k hk hne=>by have:=(F5.row k hk hne).2.2;omega) (.arr (.agg 2) [V.agg [V.bool false,V.int IntKind.i64 0]])).again (x:=nx4+2) (by omega) (by omega) (fun k hk hne=>by have:=(F5.row k hk hne).2.2;omega) (.arr (.agg 2) [r.v]))
       refine aI (i+1,out4,ν4,rest4,id4) (by dsimp only;omega) ⟨hlt4,FB,by simp only[i1,i2,s2,go_sem,reduceIte,jA,jB,jC,jD,reduceCtorEq,jE,jF],s3,by dsimp only;omega,by simp only[n5,n6,s5,go_sem,reduceIte,jA,jB,jC,jD,reduceCtorEq,jE,jF],by omega,fun k hk hne=>s7 k hk hne,W4.more (fun w hw p hp h hf=>?_),s8⟩ ?_
       ·rcases h with h|⟨h1,h2⟩
        ·exact .inl (.inl h)
        dsimp only at h2
        rw[htk4] at h2
        rcases List.mem_append.1 h2 with h|h
        ·exact .inl (.inr ⟨h1,h⟩)
        refine .inr fun r' hr'=>?_
        rw[h1,List.mem_singleton.1 h,hthn] at hr'
        injection hr' with hr'
        rw[h1,←hr']
        exact hdo
       simp only[WkL,aB,jH,jI,jJ,fS,pas,wes,hw4,go_sem,reduceIte,jA,jB,jC,jD,reduceCtorEq,jE,jF]
      have hl4:=tH (W4.can l[j].t)
      by_cases hne4:out4.getD l[j].t []=[]
      --PUT0
      ·have hpy:=aFG (ν4 l[j].t) (out4.getD l[j].t []) r (W4.can _) (by omega) hdo ((((hp4.set nx4 (.arr (.agg 2) [V.agg [V.bool false,V.int .i64 0]])).set nx4 (.arr (.agg 2) [paths[i].v])).set (nx4+2) (.arr (.agg 2) [V.agg [V.bool false,V.int .i64 0]])).set (nx4+2) (.arr (.agg 2) [r.v]))
        (fun hne=>absurd hne4 hne)
       rw[if_pos hne4] at hpy
       (repeat' (first|(with_reducible first|refine stp ?_|refine uP (by decide) ?_|refine uQ (fun _=>?_) (fun _=>?_))|((first|(with_reducible refine uA ?_;first|refine uB rfl ?_ ?_|refine aQ (nE paths[i] l[j].p _) rfl (aR _) ?_|(first|refine uC rfl ?_|refine uD rfl ?_)|refine uE rfl ?_)|(with_reducible refine uF ?_;first|refine uG rfl ?_ ?_|(first|refine uH rfl ?_|refine uI rfl ?_)|refine uJ rfl ?_|refine uK (uL ?_)|refine uK (uM ?_))|(with_reducible refine uN ?_;refine uO rfl ?_))<;>try simp only[hc,hg4,hlt4,hw4,hce,dP,hlp,hfp,hft,hfr,hget,hlenk,hti,hfitp,n1,n2,n3,n4,n5,n6,n7,n8,n9,n10,and_self,and_true,true_and,s5,s6,htab4,We.v,←hr,jK,jG,go_sem,reduceIte,jA,jB,jC,jD,reduceCtorEq,jE,jF])|(with_reducible refine uR ?_;refine uS rfl ?_)|omega))
       refine zJ hpy rfl (fun c' ec=>by cases ec) trivial ?_
       simp only[go_sem,reduceIte,jA,jB,jC,jD,reduceCtorEq,jE,jF]
       refine aue and_self ?_
       refine nP (es:=eB n ν4 out4) rfl (mS (by omega) (by simp only[n1,n2,htab4,go_sem,reduceIte,jA,jB,jC,jD,reduceCtorEq,jE,jF]) (by simp only[cZ])) (by rw[hlenk];exact hti) (by first|exact jU _|simp only[go_sem,reduceIte,jA,jB,jC,jD,reduceCtorEq,jE,jF]) rfl ?_
       have hst:∀x L,bR .leaf 0 (jT (ν4 l[j].t) (out4.getD l[j].t [])) (.rs x (.agg 2) 0 L)= .rs x (.agg 2) 0 L:=fun x L=>cG hfitp rfl
       simp only[hget,hst,jG,go_sem,reduceIte,jA,jB,jC,jD,reduceCtorEq,jE,jF]
       have k1:(id4=nx+1)=False:=eq_false (fun e=>by rw[e,htab4] at s2;cases s2)
       have k3:(nx3=nx+1)=False:=eq_false (by omega)
       have k5:(id4=nx4+13)=False:=eq_false (by omega)
       have k6:(id4=nx4+20)=False:=eq_false (by omega)
       have hrl:rest4.length≤1000000000:=by simp only[jL] at q6;omega
       have hrl2:(rest4.length+1)*8≤140737488355328:=by omega
       (repeat' (first|(with_reducible first|refine stp ?_|refine uP (by decide) ?_|refine uQ (fun _=>?_) (fun _=>?_))|((first|(with_reducible refine uA ?_;first|refine uB rfl ?_ ?_|refine oW rfl rfl (by simp only[n1,n2,n3,n4,n5,n6,n9,n10,k1,k3,k5,i1,i2,s2,s4,s5,s6,hrl2,fS,We.v,jK,and_self,and_true,true_and,n1,n2,n3,n4,n5,n6,n9,n10,k1,k3,k5,i1,i2,s2,s4,s5,s6,hrl2,fS,We.v,jK,and_self,and_true,true_and,go_sem,reduceIte,jA,jB,jC,jD,reduceCtorEq,jE,jF];try omega) ?_|(first|refine uC rfl ?_|refine uD rfl ?_)|refine uE rfl ?_)|(with_reducible refine uF ?_;first|refine uG rfl ?_ ?_|(first|refine uH rfl ?_|refine uI rfl ?_)|refine uJ rfl ?_|refine uK (uL ?_)|refine uK (uM ?_))|(with_reducible refine uN ?_;refine uO rfl ?_))<;>try simp only[n1,n2,n3,n4,n5,n6,n9,n10,k1,k3,k5,i1,i2,s2,s4,s5,s6,hrl2,fS,We.v,jK,and_self,and_true,true_and,go_sem,reduceIte,jA,jB,jC,jD,reduceCtorEq,jE,jF])|(with_reducible refine uR ?_;refine uS rfl ?_)|omega))
       rw[←hQ4]
       have hx0:nx4+13<nx4+20:=by omega
       have p1:(nx4+13=nx+1)=False:=eq_false (by omega)
       have p2:(nx4+12=nx)=False:=eq_false (by omega)
       have hnil:fC (out4.getD l[j].t []) r≠ []:=by unfold fC;split<;>simp
       have FA:=F5.put W4.len hti (fC (out4.getD l[j].t []) r) hnil (x:=nx4+13) (nx2:=nx4+20) (by omega) hx0 (hq:=((((((hp4.set nx4 (.arr (.agg 2) [V.agg [V.bool false,V.int .i64 0]])).set nx4 (.arr (.agg 2) [paths[i].v])).set (nx4+2) (.arr (.agg 2) [V.agg [V.bool false,V.int .i64 0]])).set (nx4+2) (.arr (.agg 2) [r.v])).set (nx4+13) (.arr (.agg 2) ((fC (out4.getD l[j].t []) r).map Pa.v)))).set (nx+1) (.arr .leaf ((eB n ν4 out4).set l[j].t (.rs (nx4+13) (.agg 2) 0 (fC (out4.getD l[j].t []) r).length))))
        (by simp only[p1,p2,go_sem,reduceIte,jA,jB,jC,jD,reduceCtorEq,jE,jF]) (by simp only[go_sem,reduceIte,jA,jB,jC,jD,reduceCtorEq,jE,jF]) (fun y y1 y2 y3 y4=>by
          have z1:(y=nx4)=False:=eq_false (by omega)
          have z2:(y=nx4+2)=False:=eq_false (by omega)
          have z3:(y=nx4+13)=False:=eq_false (by omega)
          have z4:(y=nx+1)=False:=eq_false y2
          simp only[z1,z2,z3,z4,go_sem,reduceIte,jA,jB,jC,jD,reduceCtorEq,jE,jF]) (by(try dsimp only);repeat (first|exact aM.up F5.dom (by omega)|refine aM.set2 ?_ (by omega) _|refine aM.del ?_|refine aM.delO ?_ _))
       have FB:=((FA.box' (x:=nx4+20) (Nat.le_refl _) (nx2:=nx4+21) (by omega) .tip).del (id:=id4) (by simp only[i1,i2,k1,k5,k6,s2,go_sem,reduceIte,jA,jB,jC,jD,reduceCtorEq,jE,jF]) s3).box' (x:=nx4+21) (Nat.le_refl _) (nx2:=nx4+22) (by omega) .tip
       have hco:=aFT (by rw[W4.len];exact hti) (aIM (fun x hx=>(W4.val l[j].t x hx).ok) ((hfk▸W4.pv _ hpi:Val l a l[j].f paths[i]).step hwj hthn).ok hdo)
       have WP:=W4.put hwj hfk hti hpi hthn hdo
       have k7:(nx3=id4)=False:=eq_false (fun e=>by rw[←e,s5] at s2;cases s2)
       have k8:(nx3=nx4+13)=False:=eq_false (by omega)
       have k9:(nx3=nx4+20)=False:=eq_false (by omega)
       have k10:(nx3=nx4+21)=False:=eq_false (by omega)
       refine aI (i+1,out4.set l[j].t (fC (out4.getD l[j].t []) r),(fun k=>if k=l[j].t then nx4+13 else ν4 k),rest4++[l[j].t],nx4+21) (by dsimp only;omega) ⟨hlt4,FB,by simp only[go_sem,reduceIte,jA,jB,jC,jD,reduceCtorEq,jE,jF],by dsimp only;omega,by dsimp only;omega,by simp only[n5,n6,k3,k7,k8,k9,k10,s5,go_sem,reduceIte,jA,jB,jC,jD,reduceCtorEq,jE,jF],by(try dsimp only);omega,fun k' hk' hne=>?_,WP.more (fun w hw p hp h hf=> .inl ?_),by simp only[List.length_append,jL,jM];omega⟩ ?_
       ·dsimp only
        dsimp only at hne
        split
        ·omega
        rename_i hkt
        rw[kQ _ _ _ _ _ (by rw[W4.len];exact hti),if_neg hkt] at hne
        exact s7 k' hk' hne
       ·rcases h with h|⟨h1,h2⟩
        ·exact .inl (.inl h)
        dsimp only at h2
        rw[htk4] at h2
        rcases List.mem_append.1 h2 with h|h
        ·exact .inl (.inr ⟨h1,h⟩)
        exact .inr ⟨h1,List.mem_singleton.1 h⟩
       simp only[WkL,aB,jH,jI,jJ,fS,pas,wes,hw4,List.map_append,List.map_cons,List.map_nil,go_sem,reduceIte,jA,jB,jC,jD,reduceCtorEq,jE,jF]
      ·have hrow4:=(F5.row _ hti hne4).1
       have hν4:=(F5.row _ hti hne4).2
       have m1:(ν4 l[j].t=nx4)=False:=eq_false (by omega)
       have m2:(ν4 l[j].t=nx4+2)=False:=eq_false (by omega)
       have hpy:=aFG (ν4 l[j].t) (out4.getD l[j].t []) r (W4.can _) (by omega) hdo ((((hp4.set nx4 (.arr (.agg 2) [V.agg [V.bool false,V.int .i64 0]])).set nx4 (.arr (.agg 2) [paths[i].v])).set (nx4+2) (.arr (.agg 2) [V.agg [V.bool false,V.int .i64 0]])).set (nx4+2) (.arr (.agg 2) [r.v]))
        (fun _=>by simp only[m1,m2,hrow4,go_sem,reduceIte,jA,jB,jC,jD,reduceCtorEq,jE,jF])
       rw[if_neg hne4] at hpy
       (repeat' (first|(with_reducible first|refine stp ?_|refine uP (by decide) ?_|refine uQ (fun _=>?_) (fun _=>?_))|((first|(with_reducible refine uA ?_;first|refine uB rfl ?_ ?_|refine aQ (nE paths[i] l[j].p _) rfl (aR _) ?_|(first|refine uC rfl ?_|refine uD rfl ?_)|refine uE rfl ?_)|(with_reducible refine uF ?_;first|refine uG rfl ?_ ?_|(first|refine uH rfl ?_|refine uI rfl ?_)|refine uJ rfl ?_|refine uK (uL ?_)|refine uK (uM ?_))|(with_reducible refine uN ?_;refine uO rfl ?_))<;>try simp only[hc,hg4,hlt4,hw4,hce,dP,hlp,hfp,hft,hfr,hget,hlenk,hti,hfitp,n1,n2,n3,n4,n5,n6,n7,n8,n9,n10,and_self,and_true,true_and,s5,s6,htab4,We.v,←hr,jK,jG,go_sem,reduceIte,jA,jB,jC,jD,reduceCtorEq,jE,jF])|(with_reducible refine uR ?_;refine uS rfl ?_)|omega))
       refine zJ hpy rfl (fun c' ec x hx m k i o ex=>?_) (mS (by dsimp only;omega) (by simp only[m1,m2,hrow4,go_sem,reduceIte,jA,jB,jC,jD,reduceCtorEq,jE,jF]) (by simp only[cZ])) ?_
       ·rw[List.mem_singleton.1 hx] at ex
        injection ec with ec
        subst ec
        injection ex with ex
        dsimp only
        exact ex▸(s7 _ hti hne4).symm
       simp only[go_sem,reduceIte,jA,jB,jC,jD,reduceCtorEq,jE,jF]
       refine aue and_self ?_
       have m3:(ν4 l[j].t=nx+1)=False:=eq_false (by omega)
       have m4:(nx+1=ν4 l[j].t)=False:=eq_false (by omega)
       have m5:nx+1≠ν4 l[j].t:=by omega
       refine nP (es:=eB n ν4 out4) rfl (mS (by omega) (by simp only[n1,n2,htab4,go_sem,reduceIte,jA,jB,jC,jD,reduceCtorEq,jE,jF]) ⟨m5,(by simp only[cZ])⟩) (by rw[hlenk];exact hti) (by first|exact jU _|simp only[go_sem,reduceIte,jA,jB,jC,jD,reduceCtorEq,jE,jF]) rfl ?_
       have hst:∀x L,bR .leaf 0 (jT (ν4 l[j].t) (out4.getD l[j].t [])) (.rs x (.agg 2) 0 L)= .rs x (.agg 2) 0 L:=fun x L=>cG hfitp rfl
       simp only[hget,hst,jG,go_sem,reduceIte,jA,jB,jC,jD,reduceCtorEq,jE,jF]
       have k1:(id4=nx+1)=False:=eq_false (fun e=>by rw[e,htab4] at s2;cases s2)
       have k2:(id4=ν4 l[j].t)=False:=eq_false (fun e=>by rw[e,hrow4] at s2;cases s2)
       have k3:(nx3=nx+1)=False:=eq_false (by omega)
       have k4:(nx3=ν4 l[j].t)=False:=eq_false (s7 _ hti hne4).symm
       have k5:(id4=nx4+13)=False:=eq_false (by omega)
       have k6:(id4=nx4+20)=False:=eq_false (by omega)
       have hrl:rest4.length≤1000000000:=by simp only[jL] at q6;omega
       have hrl2:(rest4.length+1)*8≤140737488355328:=by omega
       (repeat' (first|(with_reducible first|refine stp ?_|refine uP (by decide) ?_|refine uQ (fun _=>?_) (fun _=>?_))|((first|(with_reducible refine uA ?_;first|refine uB rfl ?_ ?_|refine oW rfl rfl (by simp only[n1,n2,n3,n4,n5,n6,n9,n10,k1,k3,k2,k4,k5,i1,i2,s2,s4,s5,s6,hrl2,fS,We.v,jK,and_self,and_true,true_and,n1,n2,n3,n4,n5,n6,n9,n10,k1,k3,k2,k4,k5,i1,i2,s2,s4,s5,s6,hrl2,fS,We.v,jK,and_self,and_true,true_and,go_sem,reduceIte,jA,jB,jC,jD,reduceCtorEq,jE,jF];try omega) ?_|(first|refine uC rfl ?_|refine uD rfl ?_)|refine uE rfl ?_)|(with_reducible refine uF ?_;first|refine uG rfl ?_ ?_|(first|refine uH rfl ?_|refine uI rfl ?_)|refine uJ rfl ?_|refine uK (uL ?_)|refine uK (uM ?_))|(with_reducible refine uN ?_;refine uO rfl ?_))<;>try simp only[n1,n2,n3,n4,n5,n6,n9,n10,k1,k3,k2,k4,k5,i1,i2,s2,s4,s5,s6,hrl2,fS,We.v,jK,and_self,and_true,true_and,go_sem,reduceIte,jA,jB,jC,jD,reduceCtorEq,jE,jF])|(with_reducible refine uR ?_;refine uS rfl ?_)|omega))
       rw[←hQ4]
       have hx0:nx4+13<nx4+20:=by omega
       have p1:(nx4+13=nx+1)=False:=eq_false (by omega)
       have p2:(nx4+12=nx)=False:=eq_false (by omega)
       have p3:(nx4+13=ν4 l[j].t)=False:=eq_false (by omega)
       have hnil:fC (out4.getD l[j].t []) r≠ []:=by unfold fC;split<;>simp
       have FA:=F5.put W4.len hti (fC (out4.getD l[j].t []) r) hnil (x:=nx4+13) (nx2:=nx4+20) (by omega) hx0 (hq:=((((((hp4.set nx4 (.arr (.agg 2) [V.agg [V.bool false,V.int .i64 0]])).set nx4 (.arr (.agg 2) [paths[i].v])).set (nx4+2) (.arr (.agg 2) [V.agg [V.bool false,V.int .i64 0]])).set (nx4+2) (.arr (.agg 2) [r.v])).set (nx4+13) (.arr (.agg 2) ((fC (out4.getD l[j].t []) r).map Pa.v))).del (ν4 l[j].t)).set (nx+1) (.arr .leaf ((eB n ν4 out4).set l[j].t (.rs (nx4+13) (.agg 2) 0 (fC (out4.getD l[j].t []) r).length))))
        (by simp only[p1,p2,p3,go_sem,reduceIte,jA,jB,jC,jD,reduceCtorEq,jE,jF]) (by simp only[go_sem,reduceIte,jA,jB,jC,jD,reduceCtorEq,jE,jF]) (fun y y1 y2 y3 y4=>by
          have z1:(y=nx4)=False:=eq_false (by omega)
          have z2:(y=nx4+2)=False:=eq_false (by omega)
          have z3:(y=nx4+13)=False:=eq_false (by omega)
          have z4:(y=nx+1)=False:=eq_false y2
          have z5:(y=ν4 l[j].t)=False:=eq_false (y3 hne4)
          simp only[z1,z2,z3,z4,z5,go_sem,reduceIte,jA,jB,jC,jD,reduceCtorEq,jE,jF]) (by(try dsimp only);repeat (first|exact aM.up F5.dom (by omega)|refine aM.set2 ?_ (by omega) _|refine aM.del ?_|refine aM.delO ?_ _))
       have FB:=((FA.box' (x:=nx4+20) (Nat.le_refl _) (nx2:=nx4+21) (by omega) .tip).del (id:=id4) (by simp only[i1,i2,k1,k2,k5,k6,s2,go_sem,reduceIte,jA,jB,jC,jD,reduceCtorEq,jE,jF]) s3).box' (x:=nx4+21) (Nat.le_refl _) (nx2:=nx4+22) (by omega) .tip
       have hco:=aFT (by rw[W4.len];exact hti) (aIM (fun x hx=>(W4.val l[j].t x hx).ok) ((hfk▸W4.pv _ hpi:Val l a l[j].f paths[i]).step hwj hthn).ok hdo)
       have WP:=W4.put hwj hfk hti hpi hthn hdo
       have k7:(nx3=id4)=False:=eq_false (fun e=>by rw[←e,s5] at s2;cases s2)
       have k8:(nx3=nx4+13)=False:=eq_false (by omega)
       have k9:(nx3=nx4+20)=False:=eq_false (by omega)
       have k10:(nx3=nx4+21)=False:=eq_false (by omega)
       refine aI (i+1,out4.set l[j].t (fC (out4.getD l[j].t []) r),(fun k=>if k=l[j].t then nx4+13 else ν4 k),rest4++[l[j].t],nx4+21) (by dsimp only;omega) ⟨hlt4,FB,by simp only[go_sem,reduceIte,jA,jB,jC,jD,reduceCtorEq,jE,jF],by dsimp only;omega,by dsimp only;omega,by simp only[n5,n6,k3,k4,k7,k8,k9,k10,s5,go_sem,reduceIte,jA,jB,jC,jD,reduceCtorEq,jE,jF],by(try dsimp only);omega,fun k' hk' hne=>?_,WP.more (fun w hw p hp h hf=> .inl ?_),by simp only[List.length_append,jL,jM];omega⟩ ?_
       ·dsimp only
        dsimp only at hne
        split
        ·omega
        rename_i hkt
        rw[kQ _ _ _ _ _ (by rw[W4.len];exact hti),if_neg hkt] at hne
        exact s7 k' hk' hne
       ·rcases h with h|⟨h1,h2⟩
        ·exact .inl (.inl h)
        dsimp only at h2
        rw[htk4] at h2
        rcases List.mem_append.1 h2 with h|h
        ·exact .inl (.inr ⟨h1,h⟩)
        exact .inr ⟨h1,List.mem_singleton.1 h⟩
       simp only[WkL,aB,jH,jI,jJ,fS,pas,wes,hw4,List.map_append,List.map_cons,List.map_nil,go_sem,reduceIte,jA,jB,jC,jD,reduceCtorEq,jE,jF]
      --PUT1
     rw[if_neg he] at hthn
     have hce:decide ((paths[i].then l[j].p).2=0)=false:=decide_eq_false he
     (repeat' (first|(with_reducible first|refine stp ?_|refine uP (by decide) ?_|refine uQ (fun _=>?_) (fun _=>?_))|((first|(with_reducible refine uA ?_;first|refine uB rfl ?_ ?_|refine aQ (nE paths[i] l[j].p _) rfl (aR _) ?_|(first|refine uC rfl ?_|refine uD rfl ?_)|refine uE rfl ?_)|(with_reducible refine uF ?_;first|refine uG rfl ?_ ?_|(first|refine uH rfl ?_|refine uI rfl ?_)|refine uJ rfl ?_|refine uK (uL ?_)|refine uK (uM ?_))|(with_reducible refine uN ?_;refine uO rfl ?_))<;>try simp only[hc,hg4,hlt4,hw4,hce,dP,hlp,hfp,hft,hget,hlenk,hti,hfitp,n1,n2,n3,n4,n5,n6,n7,n8,n9,n10,and_self,and_true,true_and,s5,s6,htab4,We.v,jK,jG,go_sem,reduceIte,jA,jB,jC,jD,reduceCtorEq,jE,jF])|(with_reducible refine uR ?_;refine uS rfl ?_)|omega))
     rw[←hQ4]
     have FB:=((((F5.box' (x:=nx4) (Nat.le_refl _) (nx2:=nx4+4) (by omega) (.arr (.agg 2) [V.agg [V.bool false,V.int IntKind.i64 0]])).again (by omega) (by omega) (fun k hk hne=>by have:=(F5.row k hk hne).2.2;omega) (.arr (.agg 2) [paths[i].v])).again (x:=nx4+2) (by omega) (by omega) (fun k hk hne=>by have:=(F5.row k hk hne).2.2;omega) (.arr (.agg 2) [V.agg [V.bool false,V.int IntKind.i64 0]])).again (x:=nx4+2) (by omega) (by omega) (fun k hk hne=>by have:=(F5.row k hk hne).2.2;omega) (.arr (.agg 2) [(paths[i].then l[j].p).1.v]))
     refine aI (i+1,out4,ν4,rest4,id4) (by dsimp only;omega) ⟨hlt4,FB,by simp only[i1,i2,s2,go_sem,reduceIte,jA,jB,jC,jD,reduceCtorEq,jE,jF],s3,by dsimp only;omega,by simp only[n5,n6,s5,go_sem,reduceIte,jA,jB,jC,jD,reduceCtorEq,jE,jF],by omega,fun k hk hne=>s7 k hk hne,W4.more (fun w hw p hp h hf=>?_),s8⟩ ?_
     ·rcases h with h|⟨h1,h2⟩
      ·exact .inl (.inl h)
      dsimp only at h2
      rw[htk4] at h2
      rcases List.mem_append.1 h2 with h|h
      ·exact .inl (.inr ⟨h1,h⟩)
      refine .inr fun r hr=>?_
      rw[h1,List.mem_singleton.1 h,hthn] at hr
      cases hr
     simp only[WkL,aB,jH,jI,jJ,fS,pas,wes,go_sem,reduceIte,jA,jB,jC,jD,reduceCtorEq,jE,jF]
    have hc:decide ((i:Int)<(paths.length:Int))=false:=decide_eq_false (by omega)
    refine aue hc ?_
    rw[←hQ4]
    refine au ?_
    rw[←hQ3]
    refine aI (j+1,out4,ν4,rest4,id4) (by dsimp only;omega) ⟨hlt,F5,s2,s3,s4,W4.more (fun w hw p hp h hf=> .inl ?_),s8⟩ ?_
    ·dsimp only at h
     rw[htk] at h
     rcases List.mem_append.1 h with h|h
     ·exact .inl h
     exact .inr ⟨List.mem_singleton.1 h,by rw[show i=paths.length by omega,List.take_length];exact hp⟩
    simp only[WkL,aB,jH,jI,jJ,fS,pas,wes,hw,go_sem,reduceIte,jA,jB,jC,jD,reduceCtorEq,jE,jF]
   have hcf:((l[j].f:Int) != (k:Int))=true:=by simp;omega
   refine aue (ee6 hc hg hw hlt hcf We.v.eq_1) ?_
   rw[←hQ3]
   refine aI (j+1,out3,ν3,rest3,id3) (by dsimp only;omega) ⟨hlt,(F3.box' (x:=nx3) (Nat.le_refl _) (nx2:=nx3+2) (by omega) _).again (by omega) (by omega) (fun k hk hne=>by have:=(F3.row k hk hne).2.2;omega) _,?_,r3,by dsimp only;omega,W3.more (fun w hw p hp hD hf=>?_),r6⟩ ?_
   ·have e1:(id3=nx3)=False:=eq_false (by omega)
    simp only[e1,r2,go_sem,reduceIte,jA,jB,jC,jD,reduceCtorEq,jE,jF]
   ·dsimp only at hD
    rw[htk] at hD
    rcases List.mem_append.1 hD with h|h
    ·exact .inl h
    exact absurd (by rw[←List.mem_singleton.1 h];exact hf) hfk
   simp only[WkL,aB,jH,jI,jJ,fS,pas,wes,go_sem,reduceIte,jA,jB,jC,jD,reduceCtorEq,jE,jF]
  have hc:decide ((j:Int)<(l.length:Int))=false:=decide_eq_false (by omega)
  refine aue hc ?_
  rw[←hQ3]
  refine au ?_
  rw[←hQ]
  refine aI (out3,ν3,rest3,id3) (by simp only[jL];omega) ⟨F3,r2,r3,r4,(W3.more (D':=fun _ _=>True) fun w hw p hp _ _=> .inl (by rw[show j=l.length by omega,List.take_length];exact hw)).finish,by simp only[jL] at q6;dsimp only;omega⟩ ?_
  simp only[WkL,aB,jH,jI,jJ,fS,go_sem,reduceIte,jA,jB,jC,jD,reduceCtorEq,jE,jF]
end Go.Proofs.YtecepaehmojpgaaGreat
