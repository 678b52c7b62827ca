/-
Texts of this proof,one behind the other. No conditions.
-/
import Derived.Shelf.SlSortCmp.WholeK
import Derived.Shelf.SlSortCmp.NoneTotal
import Derived.Shelf.SlSortCmp.Whole1
import Derived.Test.YtemjhgboialjpaaGreatProg
import Derived.Shelf.SlMaps.Clone
import Derived.Test.YtemjhgboialjpaaGreatKd
import Derived.Test.YtemjhgboialjpaaGreatKf
import Derived.Test.YtemjhgboialjpaaGreatKe
open Nat renaming reduceAdd→jA,reduceSub→jB,reduceLT→jC,reduceLeDiff→jD,reduceEqDiff→jE
open Int renaming reduceToNat→jF,toNat_natCast→jG,natCast_add→jH,natCast_one→jI,natCast_zero→jJ
open List renaming length_map→jK,length_cons→jL,length_nil→jM,replicate_succ→jN,replicate_zero→jO,cons_append→jP,nil_append→jQ
set_option linter.unusedSimpArgs false
set_option linter.unusedVariables false
set_option linter.unusedSectionVars false
namespace Go.Proofs.YtemjhgboialjpaaGreat
open Go.Shelf
def aFT:Go.Shelf.Ren:=⟨fun|6=>223|15=>201|14=>258|28=>235|29=>236|20=>288|21=>289|22=>290|23=>291|24=>292|25=>293|26=>294|27=>295|46=>305|47=>261|48=>262|49=>306|50=>307|57=>310|n=>n,fun|22=>60|24=>73|25=>278|3=>3|39=>290|0=>0|53=>318|55=>320|4=>4|46=>312|45=>311|50=>236|5=>5|9=>9|66=>338|70=>342|76=>364|77=>365|n=>n,fun|n=>n⟩
theorem aKI:Go.Proofs.SlLaysF0.n6 Tryz.prog aFT:={
 mixed:=by kernel_rfl
 f6:=⟨Tryz.f223.name,by decide,Tryz.func223.trans (congrArg some (by kernel_rfl))⟩
 f14:=⟨Tryz.f258.name,by decide,Tryz.func258.trans (congrArg some (by kernel_rfl))⟩
 f15:=Tryz.func201.trans (congrArg some (by kernel_rfl))
 f20:=⟨Tryz.f288.name,by decide,Tryz.func288.trans (congrArg some (by kernel_rfl))⟩
 f21:=⟨Tryz.f289.name,by decide,Tryz.func289.trans (congrArg some (by kernel_rfl))⟩
 f22:=⟨Tryz.f290.name,by decide,Tryz.func290.trans (congrArg some (by kernel_rfl))⟩
 f23:=⟨Tryz.f291.name,by decide,Tryz.func291.trans (congrArg some (by kernel_rfl))⟩
 f24:=⟨Tryz.f292.name,by decide,Tryz.func292.trans (congrArg some (by kernel_rfl))⟩
 f25:=⟨Tryz.f293.name,by decide,Tryz.func293.trans (congrArg some (by kernel_rfl))⟩
 f26:=⟨Tryz.f294.name,by decide,Tryz.func294.trans (congrArg some (by kernel_rfl))⟩
 f27:=⟨Tryz.f295.name,by decide,Tryz.func295.trans (congrArg some (by kernel_rfl))⟩
 f28:=Tryz.func235.trans (congrArg some (by kernel_rfl))
 f29:=Tryz.func236.trans (congrArg some (by kernel_rfl))
 f46:=⟨Tryz.f305.name,by decide,Tryz.func305.trans (congrArg some (by kernel_rfl))⟩
 f47:=Tryz.func261.trans (congrArg some (by kernel_rfl))
 f48:=Tryz.func262.trans (congrArg some (by kernel_rfl))
 f49:=⟨Tryz.f306.name,by decide,Tryz.func306.trans (congrArg some (by kernel_rfl))⟩
 f50:=⟨Tryz.f307.name,by decide,Tryz.func307.trans (congrArg some (by kernel_rfl))⟩
 f57:=⟨Tryz.f310.name,by decide,Tryz.func310.trans (congrArg some (by kernel_rfl))⟩
 t0:=Tryz.underlying0
 a0:=Tryz.isAgg0
 z0:=Tryz.sizeOf0
 v0:=Tryz.zeroValue0
 t3:=Tryz.underlying3
 a3:=Tryz.isAgg3
 z3:=Tryz.sizeOf3
 v3:=Tryz.zeroValue3
 t4:=Tryz.underlying4
 a4:=Tryz.isAgg4
 z4:=Tryz.sizeOf4
 v4:=Tryz.zeroValue4
 t5:=Tryz.underlying5
 a5:=Tryz.isAgg5
 z5:=Tryz.sizeOf5
 v5:=Tryz.zeroValue5
 t9:=Tryz.underlying9
 a9:=Tryz.isAgg9
 z9:=Tryz.sizeOf9
 v9:=Tryz.zeroValue9
 t22:=Tryz.underlying60
 a22:=Tryz.isAgg60
 z22:=Tryz.sizeOf60
 v22:=Tryz.zeroValue60
 t25:=Tryz.underlying278
 a25:=Tryz.isAgg278
 z25:=Tryz.sizeOf278
 v25:=Tryz.zeroValue278
 t39:=Tryz.underlying290
 a39:=Tryz.isAgg290
 z39:=Tryz.sizeOf290
 v39:=Tryz.zeroValue290
 t45:=Tryz.underlying311
 a45:=Tryz.isAgg311
 z45:=Tryz.sizeOf311
 v45:=Tryz.zeroValue311
 t46:=Tryz.underlying312
 a46:=Tryz.isAgg312
 z46:=Tryz.sizeOf312
 v46:=Tryz.zeroValue312
 t50:=Tryz.underlying236
 a50:=Tryz.isAgg236
 z50:=Tryz.sizeOf236
 v50:=Tryz.zeroValue236
 t53:=Tryz.underlying318
 a53:=Tryz.isAgg318
 z53:=Tryz.sizeOf318
 v53:=Tryz.zeroValue318
 t55:=Tryz.underlying320
 a55:=Tryz.isAgg320
 z55:=Tryz.sizeOf320
 v55:=Tryz.zeroValue320
 t66:=Tryz.underlying338
 a66:=Tryz.isAgg338
 z66:=Tryz.sizeOf338
 v66:=Tryz.zeroValue338
 t70:=Tryz.underlying342
 a70:=Tryz.isAgg342
 z70:=Tryz.sizeOf342
 v70:=Tryz.zeroValue342
 t76:=Tryz.underlying364
 a76:=Tryz.isAgg364
 z76:=Tryz.sizeOf364
 v76:=Tryz.zeroValue364
 t77:=Tryz.underlying365
 a77:=Tryz.isAgg365
 z77:=Tryz.sizeOf365
 v77:=Tryz.zeroValue365}
def aFS:Go.Shelf.Ren:=⟨fun|6=>180|15=>201|14=>213|28=>235|29=>236|20=>240|21=>241|22=>242|23=>243|24=>244|25=>245|26=>246|27=>247|46=>274|47=>261|48=>262|49=>275|50=>276|57=>300|n=>n,fun|22=>34|24=>134|25=>215|3=>3|39=>290|0=>0|53=>318|55=>320|4=>4|46=>312|45=>311|50=>236|5=>5|9=>9|66=>338|70=>342|76=>364|77=>365|n=>n,fun|n=>n⟩
theorem aKH:Go.Proofs.SlLaysF0.n6 Tryz.prog aFS:={
 mixed:=by kernel_rfl
 f6:=⟨Tryz.f180.name,by decide,Tryz.func180.trans (congrArg some (by kernel_rfl))⟩
 f14:=⟨Tryz.f213.name,by decide,Tryz.func213.trans (congrArg some (by kernel_rfl))⟩
 f15:=Tryz.func201.trans (congrArg some (by kernel_rfl))
 f20:=⟨Tryz.f240.name,by decide,Tryz.func240.trans (congrArg some (by kernel_rfl))⟩
 f21:=⟨Tryz.f241.name,by decide,Tryz.func241.trans (congrArg some (by kernel_rfl))⟩
 f22:=⟨Tryz.f242.name,by decide,Tryz.func242.trans (congrArg some (by kernel_rfl))⟩
 f23:=⟨Tryz.f243.name,by decide,Tryz.func243.trans (congrArg some (by kernel_rfl))⟩
 f24:=⟨Tryz.f244.name,by decide,Tryz.func244.trans (congrArg some (by kernel_rfl))⟩
 f25:=⟨Tryz.f245.name,by decide,Tryz.func245.trans (congrArg some (by kernel_rfl))⟩
 f26:=⟨Tryz.f246.name,by decide,Tryz.func246.trans (congrArg some (by kernel_rfl))⟩
 f27:=⟨Tryz.f247.name,by decide,Tryz.func247.trans (congrArg some (by kernel_rfl))⟩
 f28:=Tryz.func235.trans (congrArg some (by kernel_rfl))
 f29:=Tryz.func236.trans (congrArg some (by kernel_rfl))
 f46:=⟨Tryz.f274.name,by decide,Tryz.func274.trans (congrArg some (by kernel_rfl))⟩
 f47:=Tryz.func261.trans (congrArg some (by kernel_rfl))
 f48:=Tryz.func262.trans (congrArg some (by kernel_rfl))
 f49:=⟨Tryz.f275.name,by decide,Tryz.func275.trans (congrArg some (by kernel_rfl))⟩
 f50:=⟨Tryz.f276.name,by decide,Tryz.func276.trans (congrArg some (by kernel_rfl))⟩
 f57:=⟨Tryz.f300.name,by decide,Tryz.func300.trans (congrArg some (by kernel_rfl))⟩
 t0:=Tryz.underlying0
 a0:=Tryz.isAgg0
 z0:=Tryz.sizeOf0
 v0:=Tryz.zeroValue0
 t3:=Tryz.underlying3
 a3:=Tryz.isAgg3
 z3:=Tryz.sizeOf3
 v3:=Tryz.zeroValue3
 t4:=Tryz.underlying4
 a4:=Tryz.isAgg4
 z4:=Tryz.sizeOf4
 v4:=Tryz.zeroValue4
 t5:=Tryz.underlying5
 a5:=Tryz.isAgg5
 z5:=Tryz.sizeOf5
 v5:=Tryz.zeroValue5
 t9:=Tryz.underlying9
 a9:=Tryz.isAgg9
 z9:=Tryz.sizeOf9
 v9:=Tryz.zeroValue9
 t22:=Tryz.underlying34
 a22:=Tryz.isAgg34
 z22:=Tryz.sizeOf34
 v22:=Tryz.zeroValue34
 t25:=Tryz.underlying215
 a25:=Tryz.isAgg215
 z25:=Tryz.sizeOf215
 v25:=Tryz.zeroValue215
 t39:=Tryz.underlying290
 a39:=Tryz.isAgg290
 z39:=Tryz.sizeOf290
 v39:=Tryz.zeroValue290
 t45:=Tryz.underlying311
 a45:=Tryz.isAgg311
 z45:=Tryz.sizeOf311
 v45:=Tryz.zeroValue311
 t46:=Tryz.underlying312
 a46:=Tryz.isAgg312
 z46:=Tryz.sizeOf312
 v46:=Tryz.zeroValue312
 t50:=Tryz.underlying236
 a50:=Tryz.isAgg236
 z50:=Tryz.sizeOf236
 v50:=Tryz.zeroValue236
 t53:=Tryz.underlying318
 a53:=Tryz.isAgg318
 z53:=Tryz.sizeOf318
 v53:=Tryz.zeroValue318
 t55:=Tryz.underlying320
 a55:=Tryz.isAgg320
 z55:=Tryz.sizeOf320
 v55:=Tryz.zeroValue320
 t66:=Tryz.underlying338
 a66:=Tryz.isAgg338
 z66:=Tryz.sizeOf338
 v66:=Tryz.zeroValue338
 t70:=Tryz.underlying342
 a70:=Tryz.isAgg342
 z70:=Tryz.sizeOf342
 v70:=Tryz.zeroValue342
 t76:=Tryz.underlying364
 a76:=Tryz.isAgg364
 z76:=Tryz.sizeOf364
 v76:=Tryz.zeroValue364
 t77:=Tryz.underlying365
 a77:=Tryz.isAgg365
 z77:=Tryz.sizeOf365
 v77:=Tryz.zeroValue365}
def aFV:Go.Shelf.Ren:=⟨fun|6=>218|15=>201|14=>248|28=>235|29=>236|20=>277|21=>278|22=>279|23=>280|24=>281|25=>282|26=>283|27=>284|46=>301|47=>261|48=>262|49=>302|50=>303|57=>309|n=>n,fun|22=>186|24=>132|25=>302|3=>3|39=>290|0=>0|53=>318|55=>320|4=>4|46=>312|45=>311|50=>236|5=>5|9=>9|66=>338|70=>342|76=>364|77=>365|n=>n,fun|n=>n⟩
theorem aIL:Go.Proofs.SlLaysF0.n6 Tryz.prog aFV:={
 mixed:=by kernel_rfl
 f6:=⟨Tryz.f218.name,by decide,Tryz.func218.trans (congrArg some (by kernel_rfl))⟩
 f14:=⟨Tryz.f248.name,by decide,Tryz.func248.trans (congrArg some (by kernel_rfl))⟩
 f15:=Tryz.func201.trans (congrArg some (by kernel_rfl))
 f20:=⟨Tryz.f277.name,by decide,Tryz.func277.trans (congrArg some (by kernel_rfl))⟩
 f21:=⟨Tryz.f278.name,by decide,Tryz.func278.trans (congrArg some (by kernel_rfl))⟩
 f22:=⟨Tryz.f279.name,by decide,Tryz.func279.trans (congrArg some (by kernel_rfl))⟩
 f23:=⟨Tryz.f280.name,by decide,Tryz.func280.trans (congrArg some (by kernel_rfl))⟩
 f24:=⟨Tryz.f281.name,by decide,Tryz.func281.trans (congrArg some (by kernel_rfl))⟩
 f25:=⟨Tryz.f282.name,by decide,Tryz.func282.trans (congrArg some (by kernel_rfl))⟩
 f26:=⟨Tryz.f283.name,by decide,Tryz.func283.trans (congrArg some (by kernel_rfl))⟩
 f27:=⟨Tryz.f284.name,by decide,Tryz.func284.trans (congrArg some (by kernel_rfl))⟩
 f28:=Tryz.func235.trans (congrArg some (by kernel_rfl))
 f29:=Tryz.func236.trans (congrArg some (by kernel_rfl))
 f46:=⟨Tryz.f301.name,by decide,Tryz.func301.trans (congrArg some (by kernel_rfl))⟩
 f47:=Tryz.func261.trans (congrArg some (by kernel_rfl))
 f48:=Tryz.func262.trans (congrArg some (by kernel_rfl))
 f49:=⟨Tryz.f302.name,by decide,Tryz.func302.trans (congrArg some (by kernel_rfl))⟩
 f50:=⟨Tryz.f303.name,by decide,Tryz.func303.trans (congrArg some (by kernel_rfl))⟩
 f57:=⟨Tryz.f309.name,by decide,Tryz.func309.trans (congrArg some (by kernel_rfl))⟩
 t0:=Tryz.underlying0
 a0:=Tryz.isAgg0
 z0:=Tryz.sizeOf0
 v0:=Tryz.zeroValue0
 t3:=Tryz.underlying3
 a3:=Tryz.isAgg3
 z3:=Tryz.sizeOf3
 v3:=Tryz.zeroValue3
 t4:=Tryz.underlying4
 a4:=Tryz.isAgg4
 z4:=Tryz.sizeOf4
 v4:=Tryz.zeroValue4
 t5:=Tryz.underlying5
 a5:=Tryz.isAgg5
 z5:=Tryz.sizeOf5
 v5:=Tryz.zeroValue5
 t9:=Tryz.underlying9
 a9:=Tryz.isAgg9
 z9:=Tryz.sizeOf9
 v9:=Tryz.zeroValue9
 t22:=Tryz.underlying186
 a22:=Tryz.isAgg186
 z22:=Tryz.sizeOf186
 v22:=Tryz.zeroValue186
 t25:=Tryz.underlying302
 a25:=Tryz.isAgg302
 z25:=Tryz.sizeOf302
 v25:=Tryz.zeroValue302
 t39:=Tryz.underlying290
 a39:=Tryz.isAgg290
 z39:=Tryz.sizeOf290
 v39:=Tryz.zeroValue290
 t45:=Tryz.underlying311
 a45:=Tryz.isAgg311
 z45:=Tryz.sizeOf311
 v45:=Tryz.zeroValue311
 t46:=Tryz.underlying312
 a46:=Tryz.isAgg312
 z46:=Tryz.sizeOf312
 v46:=Tryz.zeroValue312
 t50:=Tryz.underlying236
 a50:=Tryz.isAgg236
 z50:=Tryz.sizeOf236
 v50:=Tryz.zeroValue236
 t53:=Tryz.underlying318
 a53:=Tryz.isAgg318
 z53:=Tryz.sizeOf318
 v53:=Tryz.zeroValue318
 t55:=Tryz.underlying320
 a55:=Tryz.isAgg320
 z55:=Tryz.sizeOf320
 v55:=Tryz.zeroValue320
 t66:=Tryz.underlying338
 a66:=Tryz.isAgg338
 z66:=Tryz.sizeOf338
 v66:=Tryz.zeroValue338
 t70:=Tryz.underlying342
 a70:=Tryz.isAgg342
 z70:=Tryz.sizeOf342
 v70:=Tryz.zeroValue342
 t76:=Tryz.underlying364
 a76:=Tryz.isAgg364
 z76:=Tryz.sizeOf364
 v76:=Tryz.zeroValue364
 t77:=Tryz.underlying365
 a77:=Tryz.isAgg365
 z77:=Tryz.sizeOf365
 v77:=Tryz.zeroValue365}
def aFU:Go.Shelf.Ren:=⟨fun|6=>190|15=>201|14=>221|28=>235|29=>236|20=>249|21=>250|22=>251|23=>252|24=>253|25=>254|26=>255|27=>256|46=>285|47=>261|48=>262|49=>286|50=>287|57=>304|n=>n,fun|22=>66|24=>75|25=>235|3=>3|39=>290|0=>0|53=>318|55=>320|4=>4|46=>312|45=>311|50=>236|5=>5|9=>9|66=>338|70=>342|76=>364|77=>365|n=>n,fun|n=>n⟩
theorem aKJ:Go.Proofs.SlLaysF0.n6 Tryz.prog aFU:={
 mixed:=by kernel_rfl
 f6:=⟨Tryz.f190.name,by decide,Tryz.func190.trans (congrArg some (by kernel_rfl))⟩
 f14:=⟨Tryz.f221.name,by decide,Tryz.func221.trans (congrArg some (by kernel_rfl))⟩
 f15:=Tryz.func201.trans (congrArg some (by kernel_rfl))
 f20:=⟨Tryz.f249.name,by decide,Tryz.func249.trans (congrArg some (by kernel_rfl))⟩
 f21:=⟨Tryz.f250.name,by decide,Tryz.func250.trans (congrArg some (by kernel_rfl))⟩
 f22:=⟨Tryz.f251.name,by decide,Tryz.func251.trans (congrArg some (by kernel_rfl))⟩
 f23:=⟨Tryz.f252.name,by decide,Tryz.func252.trans (congrArg some (by kernel_rfl))⟩
 f24:=⟨Tryz.f253.name,by decide,Tryz.func253.trans (congrArg some (by kernel_rfl))⟩
 f25:=⟨Tryz.f254.name,by decide,Tryz.func254.trans (congrArg some (by kernel_rfl))⟩
 f26:=⟨Tryz.f255.name,by decide,Tryz.func255.trans (congrArg some (by kernel_rfl))⟩
 f27:=⟨Tryz.f256.name,by decide,Tryz.func256.trans (congrArg some (by kernel_rfl))⟩
 f28:=Tryz.func235.trans (congrArg some (by kernel_rfl))
 f29:=Tryz.func236.trans (congrArg some (by kernel_rfl))
 f46:=⟨Tryz.f285.name,by decide,Tryz.func285.trans (congrArg some (by kernel_rfl))⟩
 f47:=Tryz.func261.trans (congrArg some (by kernel_rfl))
 f48:=Tryz.func262.trans (congrArg some (by kernel_rfl))
 f49:=⟨Tryz.f286.name,by decide,Tryz.func286.trans (congrArg some (by kernel_rfl))⟩
 f50:=⟨Tryz.f287.name,by decide,Tryz.func287.trans (congrArg some (by kernel_rfl))⟩
 f57:=⟨Tryz.f304.name,by decide,Tryz.func304.trans (congrArg some (by kernel_rfl))⟩
 t0:=Tryz.underlying0
 a0:=Tryz.isAgg0
 z0:=Tryz.sizeOf0
 v0:=Tryz.zeroValue0
 t3:=Tryz.underlying3
 a3:=Tryz.isAgg3
 z3:=Tryz.sizeOf3
 v3:=Tryz.zeroValue3
 t4:=Tryz.underlying4
 a4:=Tryz.isAgg4
 z4:=Tryz.sizeOf4
 v4:=Tryz.zeroValue4
 t5:=Tryz.underlying5
 a5:=Tryz.isAgg5
 z5:=Tryz.sizeOf5
 v5:=Tryz.zeroValue5
 t9:=Tryz.underlying9
 a9:=Tryz.isAgg9
 z9:=Tryz.sizeOf9
 v9:=Tryz.zeroValue9
 t22:=Tryz.underlying66
 a22:=Tryz.isAgg66
 z22:=Tryz.sizeOf66
 v22:=Tryz.zeroValue66
 t25:=Tryz.underlying235
 a25:=Tryz.isAgg235
 z25:=Tryz.sizeOf235
 v25:=Tryz.zeroValue235
 t39:=Tryz.underlying290
 a39:=Tryz.isAgg290
 z39:=Tryz.sizeOf290
 v39:=Tryz.zeroValue290
 t45:=Tryz.underlying311
 a45:=Tryz.isAgg311
 z45:=Tryz.sizeOf311
 v45:=Tryz.zeroValue311
 t46:=Tryz.underlying312
 a46:=Tryz.isAgg312
 z46:=Tryz.sizeOf312
 v46:=Tryz.zeroValue312
 t50:=Tryz.underlying236
 a50:=Tryz.isAgg236
 z50:=Tryz.sizeOf236
 v50:=Tryz.zeroValue236
 t53:=Tryz.underlying318
 a53:=Tryz.isAgg318
 z53:=Tryz.sizeOf318
 v53:=Tryz.zeroValue318
 t55:=Tryz.underlying320
 a55:=Tryz.isAgg320
 z55:=Tryz.sizeOf320
 v55:=Tryz.zeroValue320
 t66:=Tryz.underlying338
 a66:=Tryz.isAgg338
 z66:=Tryz.sizeOf338
 v66:=Tryz.zeroValue338
 t70:=Tryz.underlying342
 a70:=Tryz.isAgg342
 z70:=Tryz.sizeOf342
 v70:=Tryz.zeroValue342
 t76:=Tryz.underlying364
 a76:=Tryz.isAgg364
 z76:=Tryz.sizeOf364
 v76:=Tryz.zeroValue364
 t77:=Tryz.underlying365
 a77:=Tryz.isAgg365
 z77:=Tryz.sizeOf365
 v77:=Tryz.zeroValue365}
def aIn:Go.Shelf.Ren:=⟨fun|5=>71|7=>139|n=>n,fun|23=>141|25=>75|3=>3|4=>4|20=>20|n=>n,fun|n=>n⟩
theorem aKG:Go.Proofs.SlLaysW.n5 Tryz.prog aIn:={
 mixed:=by kernel_rfl
 f5:=⟨Tryz.f71.name,by decide,Tryz.func71.trans (congrArg some (by kernel_rfl))⟩
 f7:=Tryz.func139.trans (congrArg some (by kernel_rfl))
 t4:=Tryz.underlying4
 a4:=Tryz.isAgg4
 z4:=Tryz.sizeOf4
 v4:=Tryz.zeroValue4
 t20:=Tryz.underlying20
 a20:=Tryz.isAgg20
 z20:=Tryz.sizeOf20
 v20:=Tryz.zeroValue20
 t23:=Tryz.underlying141
 a23:=Tryz.isAgg141
 z23:=Tryz.sizeOf141
 v23:=Tryz.zeroValue141}
end Go.Proofs.YtemjhgboialjpaaGreat
namespace Go.Proofs.YtemjhgboialjpaaGreat
open Go.Proofs.YtemjhgboialjpaaGreat renaming fE→uA,dU→uB,cM→uC,cN→uD,bV→uE,fF→uF,bQ→uG,cO→uH,cP→uI,bW→uJ,bX→uK,cG→uL,dP→uM,fG→uN,dG→uO,aZ→uP,gR→uQ,fS→uR,dA→uS
open Go.RowKit Go.Sort
attribute [local irreducible] IntKind.wrap
def Pa.then(p q:Pa):Pa×Int:=
 if (!p.ok|| !q.ok)=true then (Pa.nought,2)
 else if q.n=true then (q,0)
 else if Pa.ok ⟨p.n,p.a+q.a⟩=false then (Pa.nought,1) else (⟨p.n,p.a+q.a⟩,0)
theorem Pa.then_thn(p q:Pa):p.thn q=if (p.then q).2=0 then some (p.then q).1 else none:=by
 unfold Pa.thn Pa.then
 split
 ·rfl
 split
 ·rfl
 split<;>rfl
theorem aBV(p q:Pa)(h1:p.ok=true)(h2:q.ok=true):IntKind.i64.wrap (p.a+q.a)=p.a+q.a:=by
 simp only[Pa.ok,Bool.and_eq_true,decide_eq_true_eq] at h1 h2
 rw[aV]<;>omega
theorem oJ(p q:Pa)(h:Hp):aW Tryz.prog 186 [p.v,q.v] h (.tup [(p.then q).1.v,jZ (p.then q).2]):=by
 refine aR (fun L=>by simp[V.names,bP,Pa.v,sX]) fun h' nx hh=>aD L.stamp_Path_Then_low fun hd=>?_
 obtain⟨n,a⟩:=p
 obtain⟨m,b⟩:=q
 have hw:=aBV ⟨n,a⟩ ⟨m,b⟩
 simp only[jL,jM,jA,jB,jN,jO,jP,jQ,V.undef]
 (repeat' (first|(with_reducible first|refine stp ?_|refine uP (by decide) ?_|refine uQ (fun _=>?_) (fun _=>?_))|((first|(with_reducible refine uA ?_;first|refine uB rfl ?_ ?_|refine aM (lS ⟨_,_⟩ _) rfl (aO _) ?_|(first|refine uC rfl ?_|refine uD rfl ?_)|refine uE rfl ?_)|(with_reducible refine uF ?_;first|refine uG rfl ?_ ?_|(first|refine uH rfl ?_|refine uI rfl ?_)|refine uJ rfl ?_|refine uK (uL ?_)|refine uK (uM ?_))|(with_reducible refine uN ?_;refine uO rfl ?_))<;>try simp only[Pa.v,go_sem,reduceIte,jA,jB,jC,jD,reduceCtorEq,jE,jF])|(with_reducible refine uR ?_;refine uS rfl ?_)|omega))
 all_goals refine cA (by simp only[go_sem,reduceIte,jA,jB,jC,jD,reduceCtorEq,jE,jF]) h' (by repeat (first|exact Hp.le_refl _|refine aK hd ?_ (by omega) _|refine aL hd ?_ (by omega))) ⟨?_,rfl⟩
 all_goals simp only[go_sem,reduceIte,jA,jB,jC,jD,reduceCtorEq,jE,jF]
 all_goals cases hp:Pa.ok ⟨n,a⟩<;>cases ht:Pa.ok ⟨m,b⟩<;>simp_all [Pa.then,jZ,Pa.nought]
theorem tV(p q:Pa)(h:Hp):aW Tryz.prog 215 [p.v,q.v] h (.bool (p.le q)):=by
 refine aR (fun L=>trivial) fun h' nx hh=>aD L.stamp_Path_AtMost_low fun hd=>?_
 obtain⟨n,a⟩:=p
 obtain⟨m,b⟩:=q
 simp only[jL,jM,jA,jB,jN,jO,jP,jQ,V.undef]
 cases n<;>cases m<;>(repeat' (first|(with_reducible first|refine stp ?_|refine uP (by decide) ?_|refine uQ (fun _=>?_) (fun _=>?_))|((first|(with_reducible refine uA ?_;first|refine uB rfl ?_ ?_|(first|refine uC rfl ?_|refine uD rfl ?_)|refine uE rfl ?_)|(with_reducible refine uF ?_;first|refine uG rfl ?_ ?_|(first|refine uH rfl ?_|refine uI rfl ?_)|refine uJ rfl ?_|refine uK (uL ?_)|refine uK (uM ?_))|(with_reducible refine uN ?_;refine uO rfl ?_))<;>try simp only[Pa.v,go_sem,reduceIte,jA,jB,jC,jD,reduceCtorEq,jE,jF])|(with_reducible refine uR ?_;refine uS rfl ?_)|omega))
 all_goals refine aF h' (by repeat (first|exact Hp.le_refl _|refine aK hd ?_ (by omega) _|refine aL hd ?_ (by omega))) ⟨?_,rfl⟩
 all_goals ((try simp_all [Pa.le])<;>(try omega))
theorem aCe(x p:Pa)(n:Nat)(h:Hp)(hn:h n=some (.arr (.agg 2) [p.v])):aW Tryz.prog 214 [x.v, .ptr n (.agg 2) 0 0] h (.bool (x.le p)):=by
 refine aR (fun L=>trivial) fun h' nx hh=>aD L.path_put_1_low fun hd=>?_
 have hn':=hh n _ hn rfl
 have hlt:=hd n _ hn'
 simp only[jL,jM,jA,jB,jN,jO,jP,jQ,V.undef]
 have C1:=fun h=>tV x p h
 refine aue (ee3 hn' hlt Pa.fits_v) ?_
 exact aF h' (by repeat (first|exact Hp.le_refl _|refine aK hd ?_ (by omega) _|refine aL hd ?_ (by omega))) ⟨rfl,rfl⟩
theorem aHv(x p:Pa)(n:Nat)(h:Hp)(hn:h n=some (.arr (.agg 2) [p.v])):aW Tryz.prog 217 [x.v, .ptr n (.agg 2) 0 0] h (.bool (p.le x)):=by
 refine aR (fun L=>trivial) fun h' nx hh=>aD L.path_put_2_low fun hd=>?_
 have hn':=hh n _ hn rfl
 have hlt:=hd n _ hn'
 simp only[jL,jM,jA,jB,jN,jO,jP,jQ,V.undef]
 have C1:=fun h=>tV p x h
 refine aue (ee3 hn' hlt Pa.fits_v) ?_
 exact aF h' (by repeat (first|exact Hp.le_refl _|refine aK hd ?_ (by omega) _|refine aL hd ?_ (by omega))) ⟨rfl,rfl⟩
def aBb(a b:Pa):Int:=num a.n-num b.n
theorem aCd(a b:Pa):aW Tryz.prog 219 [a.v,b.v] Hp.none (.int .i64 (aBb a b)):=by
 refine aR (fun L=>trivial) fun h' nx hh=>aD L.path_put_3_low fun hd=>?_
 have hw:IntKind.i64.wrap (num a.n-num b.n)=aBb a b:=by
  unfold aBb num
  rw[aV]<;>(split<;>split<;>omega)
 simp only[jL,jM,jA,jB,jN,jO,jP,jQ,V.undef]
 (repeat' (first|(with_reducible first|refine stp ?_|refine uP (by decide) ?_|refine uQ (fun _=>?_) (fun _=>?_))|((first|(with_reducible refine uA ?_;first|refine uB rfl ?_ ?_|(first|refine uC rfl ?_|refine uD rfl ?_)|refine uE rfl ?_)|(with_reducible refine uF ?_;first|refine uG rfl ?_ ?_|refine bF (xP _ _) rfl (bH _) ?_|(first|refine uH rfl ?_|refine uI rfl ?_)|refine uJ rfl ?_|refine uK (uL ?_)|refine uK (uM ?_))|(with_reducible refine uN ?_;refine uO rfl ?_))<;>try simp only[Pa.v,hw,go_sem,reduceIte,jA,jB,jC,jD,reduceCtorEq,jE,jF])|(with_reducible refine uR ?_;refine uS rfl ?_)|omega))
 exact aF h' (by repeat (first|exact Hp.le_refl _|refine aK hd ?_ (by omega) _|refine aL hd ?_ (by omega))) ⟨rfl,rfl⟩
theorem aDz(a b:Pa):ltOf aBb a b=decide (a.n=false∧b.n=true):=by
 unfold ltOf aBb num
 cases a.n<;>cases b.n<;>decide
theorem aDV:SWO (ltOf aBb):=by
 refine⟨fun x=>?_,fun x y z=>?_,fun x y z=>?_⟩<;>simp only[aDz,decide_eq_true_eq,decide_eq_false_iff_not]
 ·cases x.n<;>simp
 ·cases x.n<;>cases y.n<;>cases z.n<;>simp
 cases x.n<;>cases y.n<;>cases z.n<;>simp
theorem aFQ{l ys:List Pa}{p:Pa}(hc:Can l)(hd:¬kU l p)(hp:ys.Perm ((l.filter fun x=> !(p.le x))++[p]))(hs:iJ aBb ys):ys=fP l p:=by
 have hcp:=hc.put hd
 --no two of one kind
 have hperm:ys.Perm (fP l p):=by
  refine hp.trans ?_
  unfold fP
  split
  ·exact List.Perm.refl _
  exact List.perm_append_comm
 refine List.Perm.eq_of_pairwise (le:=fun x y=>ltOf aBb y x=false) (fun x y hx hy h1 h2=>?_) hs (hcp.imp fun{x y} h=>?_) hperm
 ·have hx':=hperm.mem_iff.1 hx
  have key:∀{m:List Pa},Can m→∀a∈m,∀b∈m,a.n=b.n→a=b:=by
   intro m hm
   induction m with
   |nil=>intro a ha;cases ha
   |cons z m ih=>
    obtain⟨k1,k2⟩:=List.pairwise_cons.1 hm
    intro a ha b hb hab
    rcases List.mem_cons.1 ha with e1|ha2<;>rcases List.mem_cons.1 hb with e2|hb2
    ·rw[e1,e2]
    ·have:=k1 b hb2;rw[e1,this.1,this.2.1] at hab;cases hab
    ·have:=k1 a ha2;rw[e2,this.1,this.2.1] at hab;cases hab
    exact ih k2 a ha2 b hb2 hab
  refine key hcp x hx' y hy ?_
  simp only[aDz,decide_eq_false_iff_not] at h1 h2
  cases hxn:x.n<;>cases hyn:y.n<;>simp_all
 simp[aDz,h.1]
abbrev aJp:Nat:=214
abbrev aKF:Nat:=217
abbrev aKE:Nat:=219
abbrev kO(m:Nat)(l:List Pa):V:=rZ (.agg 2) m (l.map Pa.v)
theorem mS:aG Tryz.prog 216=some (LB.DeleteFunc (.agg 2) (.agg [.bool false, .int .i64 0]) 198):=by kernel_rfl
theorem aKL(m:Nat)(l:List Pa)(p:Pa)(hl:l.length≤1000)(hd:kU l p)(h:Hp)(hm:l≠ []→h m=some (.arr (.agg 2) (l.map Pa.v))):
 ∀h' nx,h.has h'→aX Tryz.prog 187 [kO m l,p.v] h' nx fun v h'' _=>v= .tup [kO m l, .bool false]∧h''=h':=by
 intro h' nx hh
 have hne:l≠ []:=fun e=>by obtain⟨q,hq,_⟩:=hd;rw[e] at hq;cases hq
 have hm':=hh m _ (hm hne) rfl
 have hrow:kO m l= .rs m (.agg 2) 0 l.length:=by
  unfold kO rZ
  cases l with
  |nil=>exact absurd rfl hne
  |cons=>simp
 have hany:(l.any fun x=>x.le p)=true:=(aFu l p).2 hd
 rw[hrow]
 refine aD L.path_put_low fun hdm=>?_
 have hlt:=hdm m _ hm'
 have hneq:(m=nx)=False:=eq_false (by omega)
 have hbox:(h'.set nx (.arr (.agg 2) [p.v])) nx=some (.arr (.agg 2) [p.v]):=by simp only[go_sem,reduceIte,jA,jB,jC,jD,reduceCtorEq,jE,jF]
 have hmb:(h'.set nx (.arr (.agg 2) [p.v])) m=some (.arr (.agg 2) (l.map Pa.v)):=by simp only[hneq,hm',go_sem,reduceIte,jA,jB,jC,jD,reduceCtorEq,jE,jF]
 simp only[jL,jM,jA,jB,jN,jO,jP,jQ,V.undef]
 refine aue (ee2 Pa.fits_v hany) ?_
 refine aM (pI Pa.v Pa.fits_v gZ fJ (fun x=>x.le p) m l aJp [.ptr nx (.agg 2) 0 0] _ hmb (fun x _=>aCe x p nx _ hbox) (by omega)) rfl (aO _) ?_
 simp only[hany,go_sem,reduceIte,jA,jB,jC,jD,reduceCtorEq,jE,jF]
 refine aue (ee2 Pa.fits_v hany) ?_
 refine lI h' (dW (Hp.le_refl _) (aH.none hdm (Nat.le_refl _)) _) ⟨?_,rfl⟩
 simp only[go_sem,reduceIte,jA,jB,jC,jD,reduceCtorEq,jE,jF]
theorem aGP(m:Nat)(l:List Pa)(p:Pa)(hc:Can l)(hl:l.length≤1000)(hd:¬kU l p)(h:Hp)(hm:l≠ []→h m=some (.arr (.agg 2) (l.map Pa.v))):
 aIt Tryz.prog 187 [kO m l,p.v] h (if l=[] then none else some ⟨m, .arr (.agg 2) (l.map Pa.v),none⟩) (fun a=> .tup [.rs a (.agg 2) 0 (fP l p).length, .bool true]) (.agg 2) ((fP l p).map Pa.v):=by
 refine aJR (aHE _ _ _) (fun L=>bI (Pa.names_v L) _) (fun L n hn=>by simp[V.names,bP,hn]) (fun c' hc'=>?_) fun h' nx hh=>?_
 ·split at hc'
  ·cases hc'
  rename_i hne
  injection hc' with hc'
  subst hc'
  exact⟨rfl,⟨_,_,rfl⟩,hm hne⟩
 have hany:(l.any fun x=>x.le p)=false:=by
  cases e:l.any fun x=>x.le p with
  |false=>rfl
  |true=>exact absurd ((aFu l p).1 e) hd
 have hfin:∀ys:List Pa,ys.Perm ((l.filter fun x=> !(p.le x))++[p])→iJ aBb ys→ys=fP l p:=fun ys h1 h2=>aFQ hc hd h1 h2
 refine aD L.path_put_low fun hdm=>?_
 by_cases hne:l=[]
 ·subst hne
  have hpl:fP ([]:List Pa) p=[p]:=by unfold fP;split<;>rfl
  have hcl:=fK Pa.v Pa.fits_v gZ fJ (fun x=>x.le p) .nil [] aJp [.ptr nx (.agg 2) 0 0] (h'.set nx (.arr (.agg 2) [p.v])) (fun x hx=>by cases hx) (by simp)
  have hdl:=aAR Pa.v Pa.fits_v mS fJ (fun x=>p.le x) aKF [.ptr nx (.agg 2) 0 0] (h'.set nx (.arr (.agg 2) [p.v]))
  have hrw:kO m []= .sl (.agg 2) .nil []:=rfl
  rw[hrw,hpl]
  simp only[List.map_nil,List.any_nil] at hcl
  simp only[jL,jM,jA,jB,jN,jO,jP,jQ,V.undef]
  (repeat' (first|(with_reducible first|refine stp ?_|refine uP (by decide) ?_|refine uQ (fun _=>?_) (fun _=>?_))|((first|(with_reducible refine uA ?_;first|refine uB rfl ?_ ?_|refine aM (hcl) rfl (aO _) ?_|refine aM (hdl) rfl (aO _) ?_|(first|refine uC rfl ?_|refine uD rfl ?_)|refine uE rfl ?_)|(with_reducible refine uF ?_;first|refine uG rfl ?_ ?_|(first|refine uH rfl ?_|refine uI rfl ?_)|refine uJ rfl ?_|refine uK (uL ?_)|refine uK (uM ?_))|(with_reducible refine uN ?_;refine uO rfl ?_))<;>try simp only[Pa.fits_v,go_sem,reduceIte,jA,jB,jC,jD,reduceCtorEq,jE,jF])|(with_reducible refine uR ?_;refine uS rfl ?_)|omega))
  refine kT rfl rfl (by simp) (by simp only[jL,jM];omega) ?_
  simp only[jL,jM,go_sem,reduceIte,jA,jB,jC,jD,reduceCtorEq,jE,jF]
  refine aue Pa.fits_v ?_
  refine bS ((lA aIL 2 (by intro w;exact Tryz.isAgg132 w) (by intro w;exact Tryz.sizeOf132 w) (by kernel_rfl) Pa.v Pa.fits_v aBb aDV aKE [] (fun x y=>by simpa using aCd x y) _ [p] (by simp) _ _ (by simp only[List.map_cons,List.map_nil,go_sem,reduceIte,jA,jB,jC,jD,reduceCtorEq,jE,jF]) (by simp)).mono ?_)
  rintro v2 h2 nx2 hnx2 ⟨rfl,rfl,ys,hp,hs,rfl⟩
  have hys:ys=[p]:=List.perm_singleton.1 hp
  subst hys
  unfold dV
  simp only[jL,jM,List.map_cons,List.map_nil,go_sem,reduceIte,jA,jB,jC,jD,reduceCtorEq,jE,jF]
  refine au ?_
  refine lI (h'.set (nx+2) (.arr (.agg 2) [p.v])) ?_ ⟨nx+2,by omega,?_,rfl⟩
  ·intro x b hx
   by_cases e:x=nx+2
   ·subst e;simp only[go_sem,reduceIte,jA,jB,jC,jD,reduceCtorEq,jE,jF] at hx⊢;exact hx
   have hx':h' x=some b:=by unfold Hp.set at hx;rwa [if_neg e] at hx
   have:=hdm x b hx'
   have e1:(x=nx)=False:=eq_false (by omega)
   have e2:(x=nx+1)=False:=eq_false (by omega)
   simp only[e,e1,e2,go_sem,reduceIte,jA,jB,jC,jD,reduceCtorEq,jE,jF];exact hx'
  simp only[go_sem,reduceIte,jA,jB,jC,jD,reduceCtorEq,jE,jF]
 have hm':=hh m _ (hm hne) rfl
 have hrow:kO m l= .rs m (.agg 2) 0 l.length:=by
  unfold kO rZ
  cases l with
  |nil=>exact absurd rfl hne
  |cons=>simp
 have hlt:=hdm m _ hm'
 have hneq:(m=nx)=False:=eq_false (by omega)
 have hbox:(h'.set nx (.arr (.agg 2) [p.v])) nx=some (.arr (.agg 2) [p.v]):=by simp only[go_sem,reduceIte,jA,jB,jC,jD,reduceCtorEq,jE,jF]
 have hmb:(h'.set nx (.arr (.agg 2) [p.v])) m=some (.arr (.agg 2) (l.map Pa.v)):=by simp only[hneq,hm',go_sem,reduceIte,jA,jB,jC,jD,reduceCtorEq,jE,jF]
 rw[hrow]
 simp only[jL,jM,jA,jB,jN,jO,jP,jQ,V.undef]
 refine aue (ee2 Pa.fits_v hany) ?_
 refine aM (pI Pa.v Pa.fits_v gZ fJ (fun x=>x.le p) m l aJp [.ptr nx (.agg 2) 0 0] _ hmb (fun x _=>aCe x p nx _ hbox) (by omega)) rfl (aO _) ?_
 simp only[hany,go_sem,reduceIte,jA,jB,jC,jD,reduceCtorEq,jE,jF]
 refine aue (ee2 Pa.fits_v hany) ?_
 --those that it is at most are left out
 have hcn:(Hp.none.set nx (.arr (.agg 2) [p.v])) m=none:=by simp only[hneq,Hp.none,go_sem,reduceIte,jA,jB,jC,jD,reduceCtorEq,jE,jF]
 have hcd:aH (Hp.none.set nx (.arr (.agg 2) [p.v])) (nx+1):=fun x b e=>by
  unfold Hp.set at e
  split at e
  ·omega
  cases e
 have hcb:(Hp.none.set nx (.arr (.agg 2) [p.v])) nx=some (.arr (.agg 2) [p.v]):=by simp only[go_sem,reduceIte,jA,jB,jC,jD,reduceCtorEq,jE,jF]
 have hch:Hp.has (Hp.none.set nx (.arr (.agg 2) [p.v])) (h'.set nx (.arr (.agg 2) [p.v])):=fun x k e _=>by
  unfold Hp.set at e⊢
  split at e
  ·rename_i hx;rw[if_pos hx];exact e
  cases e
 refine bS ((xG Pa.v mS fJ rfl Pa.fits_v (fun x=>p.le x) m l aKF [.ptr nx (.agg 2) 0 0] _ (Hp.none.set nx (.arr (.agg 2) [p.v])) (nx+1) hmb hcn hch hcd (fun x _=>aHv x p nx _ hcb) (by omega)).mono ?_)
 rintro v1 h1 nx1 hnx1 ⟨zs,rfl,rfl⟩
 unfold dV
 simp only[go_sem,reduceIte,jA,jB,jC,jD,reduceCtorEq,jE,jF]
 obtain⟨L,hL⟩:∃L,L=l.filter fun x=> !(p.le x):=⟨_,rfl⟩
 rw[←hL]
 have hLl:L.length≤1000:=by rw[hL];exact Nat.le_trans (List.length_filter_le _ _) hl
 have htk:(L.map Pa.v++zs).take L.length=L.map Pa.v:=by rw[List.take_append_of_le_length (by simp)];exact List.take_of_length_le (by simp)
 have hmv:(L.map Pa.v)++[p.v]=(L++[p]).map Pa.v:=by simp
 have hlen1:L.length+1=(L++[p]).length:=by simp
 have hneq2:(nx=m)=False:=eq_false (by omega)
 have hneq3:(m=nx1)=False:=eq_false (by omega)
 have hneq4:(nx=nx1)=False:=eq_false (by omega)
 (repeat' (first|(with_reducible first|refine stp ?_|refine uP (by decide) ?_|refine uQ (fun _=>?_) (fun _=>?_))|((first|(with_reducible refine uA ?_;first|refine uB rfl ?_ ?_|(first|refine uC rfl ?_|refine uD rfl ?_)|refine uE rfl ?_)|(with_reducible refine uF ?_;first|refine uG rfl ?_ ?_|(first|refine uH rfl ?_|refine uI rfl ?_)|refine uJ rfl ?_|refine uK (uL ?_)|refine uK (uM ?_))|(with_reducible refine uN ?_;refine uO rfl ?_))<;>try simp only[Pa.fits_v,hneq,hneq2,go_sem,reduceIte,jA,jB,jC,jD,reduceCtorEq,jE,jF])|(with_reducible refine uR ?_;refine uS rfl ?_)|omega))
 refine yQ (es:=L.map Pa.v++zs) rfl (by simp only[hneq,hneq3,go_sem,reduceIte,jA,jB,jC,jD,reduceCtorEq,jE,jF]) (by simp) rfl (by simp) (by simp only[jL,jM];omega) ?_
 simp only[htk,hmv,hlen1,go_sem,reduceIte,jA,jB,jC,jD,reduceCtorEq,jE,jF]
 refine aue (ee2 Pa.fits_v hneq) ?_
 refine bS ((lA aIL 2 (by intro w;exact Tryz.isAgg132 w) (by intro w;exact Tryz.sizeOf132 w) (by kernel_rfl) Pa.v Pa.fits_v aBb aDV aKE [] (fun x y=>by simpa using aCd x y) _ (L++[p]) (by simp) _ _ (by simp only[go_sem,reduceIte,jA,jB,jC,jD,reduceCtorEq,jE,jF]) (by simp;omega)).mono ?_)
 rintro v2 h2 nx2 hnx2 ⟨rfl,rfl,ys,hp,hs,rfl⟩
 have hys:=hfin ys (by rw[←hL];exact hp) hs
 unfold dV
 subst hys
 have hpl:(L++[p]).length=(fP l p).length:=hp.length_eq.symm
 simp only[hpl,go_sem,reduceIte,jA,jB,jC,jD,reduceCtorEq,jE,jF]
 refine au ?_
 refine lI ((h'.del m).set (nx1+1) (.arr (.agg 2) ((fP l p).map Pa.v))) ?_ ⟨nx1+1,by omega,?_,?_⟩
 ·intro x b hx
  by_cases e:x=nx1+1
  ·subst e;simp only[go_sem,reduceIte,jA,jB,jC,jD,reduceCtorEq,jE,jF] at hx⊢;exact hx
  have hx':(h'.del m) x=some b:=by unfold Hp.set at hx;rwa [if_neg e] at hx
  have hxm:x≠m:=fun e2=>by subst e2;simp only[Hp.del,if_pos] at hx';cases hx'
  have hx2:h' x=some b:=by unfold Hp.del at hx';rwa [if_neg hxm] at hx'
  have:=hdm x b hx2
  have e1:(x=nx)=False:=eq_false (by omega)
  have e2:(x=nx1)=False:=eq_false (by omega)
  simp only[e,e1,e2,hxm,go_sem,reduceIte,jA,jB,jC,jD,reduceCtorEq,jE,jF];exact hx2
 ·simp only[go_sem,reduceIte,jA,jB,jC,jD,reduceCtorEq,jE,jF]
 simp only[hne,if_false]
abbrev aLp:Nat:=124
abbrev aKl:Nat:=183
theorem aDT(own:Own)(n:Nat)(l:List We)(w:We)(b1 b2:Nat)(hfit:wC n l)(hn:n≤200)(hl:l.length≤1000)(hw:w.t<n)(h:Hp)(h1:h b1=some (.arr .leaf [.int .i64 n]))(h2:h b2=some (.arr .leaf [wes own l])):
 aW Tryz.prog 183 [w.v, .ptr b1 .leaf 0 0, .ptr b2 .leaf 0 0] h (.bool (w.p.n&&pW l w.t w.f)):=by
 refine aR (fun L=>trivial) fun h' nx hh=>aD L.path_turns_1_low fun hd=>?_
 have h1':=hh b1 _ h1 rfl
 have h2':=hh b2 _ h2 rfl
 have e1:=hd b1 _ h1'
 have e2:=hd b2 _ h2'
 obtain⟨f,t,nn,a⟩:=w
 simp only[jL,jM,jA,jB,jN,jO,jP,jQ,V.undef]
 cases nn<;>(repeat' (first|(with_reducible first|refine stp ?_|refine uP (by decide) ?_|refine uQ (fun _=>?_) (fun _=>?_))|((first|(with_reducible refine uA ?_;first|refine uB rfl ?_ ?_|refine aM (aBu own n l t f hfit hw hn hl _) rfl (aO _) ?_|(first|refine uC rfl ?_|refine uD rfl ?_)|refine uE rfl ?_)|(with_reducible refine uF ?_;first|refine uG rfl ?_ ?_|(first|refine uH rfl ?_|refine uI rfl ?_)|refine uJ rfl ?_|refine uK (uL ?_)|refine uK (uM ?_))|(with_reducible refine uN ?_;refine uO rfl ?_))<;>try simp only[We.v,h1',h2',e1,e2,go_sem,reduceIte,jA,jB,jC,jD,reduceCtorEq,jE,jF])|(with_reducible refine uR ?_;refine uS rfl ?_)|omega))
 all_goals refine aF h' (by repeat (first|exact Hp.le_refl _|refine aK hd ?_ (by omega) _|refine aL hd ?_ (by omega))) ⟨?_,rfl⟩
 all_goals simp only[go_sem,reduceIte,jA,jB,jC,jD,reduceCtorEq,jE,jF]
noncomputable def zR(l:List We):Bool:=l.any fun w=>w.p.n&&pW l w.t w.f
theorem zQ(l:List We):zR l=true↔qT l:=by
 unfold zR qT
 simp only[List.any_eq_true,Bool.and_eq_true,sL]
 constructor
 ·rintro⟨w,h1,h2,h3⟩;exact⟨w,h1,h2,h3.imp (fun e=>e.symm) (fun e=>e)⟩
 rintro⟨w,h1,h2,h3⟩;exact⟨w,h1,h2,h3.imp (fun e=>e.symm) (fun e=>e)⟩
theorem aFN(own:Own)(n:Nat)(l:List We)(hfit:wC n l)(hn:n≤200)(hl:l.length≤1000)(h:Hp):aW Tryz.prog 133 [.int .i64 n,wes own l] h (.bool (zR l)):=by
 refine aR (fun L=>trivial) fun h' nx hh=>aD L.path_turns_low fun hd=>?_
 have b1:((h'.set nx (.arr .leaf [.int .i64 (n:Int)])).set (nx+1) (.arr .leaf [wes own l])) nx=some (.arr .leaf [.int .i64 (n:Int)]):=by simp only[go_sem,reduceIte,jA,jB,jC,jD,reduceCtorEq,jE,jF]
 have b2:((h'.set nx (.arr .leaf [.int .i64 (n:Int)])).set (nx+1) (.arr .leaf [wes own l])) (nx+1)=some (.arr .leaf [wes own l]):=by simp only[go_sem,reduceIte,jA,jB,jC,jD,reduceCtorEq,jE,jF]
 have hc:=fK We.v We.fits_v kX nR (fun w=>w.p.n&&pW l w.t w.f) own l aKl [.ptr nx .leaf 0 0, .ptr (nx+1) .leaf 0 0] _ (fun w hw=>aDT own n l w nx (nx+1) hfit hn hl (hfit w hw).2.1 _ b1 b2) (by omega)
 simp only[jL,jM,jA,jB,jN,jO,jP,jQ,V.undef]
 have C5:=hc
 refine au ?_
 exact aF h' (by repeat (first|exact Hp.le_refl _|refine aK hd ?_ (by omega) _|refine aL hd ?_ (by omega))) ⟨rfl,rfl⟩
theorem aHD(w:Wy)(P:Int)(b:Nat)(h:Hp)(h1:h b=some (.arr .leaf [.int .i64 P])):aW Tryz.prog 124 [w.v, .ptr b .leaf 0 0] h (.bool (!(w.fit P))):=by
 refine aR (fun L=>trivial) fun h' nx hh=>aD L.path_New_1_low fun hd=>?_
 have h1':=hh b _ h1 rfl
 have e1:=hd b _ h1'
 simp only[jL,jM,jA,jB,jN,jO,jP,jQ,V.undef]
 have C1:=fun h=>aDj w P h
 refine aue (ee3 Wy.fits_v h1' e1) ?_
 exact aF h' (by repeat (first|exact Hp.le_refl _|refine aK hd ?_ (by omega) _|refine aL hd ?_ (by omega))) ⟨rfl,rfl⟩
theorem aAk:aG Tryz.prog 127=some (LB.Compact (.agg 4) (.agg [.int .i64 0, .int .i64 0, .bool false, .int .i64 0]) (.plain (.agg 4) [.int, .int, .bool, .int])):=by kernel_rfl
theorem sF(x y:Wy):veq (.plain (.agg 4) [.int, .int, .bool, .int]) x.v y.v=some (decide (x=y)):=by
 obtain⟨f,t,⟨n,a⟩⟩:=x;obtain⟨f',t',⟨n',a'⟩⟩:=y
 simp only[Wy.v,go_sem,reduceIte,jA,jB,jC,jD,reduceCtorEq,jE,jF]
 simp only[Wy.mk.injEq,Pa.mk.injEq,Option.some.injEq]
 rw[Bool.eq_iff_iff]
 simp
theorem aBa(h:Hp):aW Tryz.prog 127 [.sl (.agg 4) .nil []] h (.sl (.agg 4) .nil []):=by
 refine aR (fun L=>by simp[V.names,bP]) fun h' nx hh=>aD L.slices_Compact_path_Way_path_Way_low fun hd=>?_
 have hc:decide (((0:Nat):Int)<2)=true:=by decide
 simp only[jL,jM,jA,jB,jN,jO,jP,jQ,V.undef]
 refine aue hc ?_
 exact aF h' (Hp.le_refl _) ⟨rfl,rfl⟩
def wP(P:Int)(l:List Wy):V:= .agg [.int .i64 P,lst (.agg 4) (l.map Wy.v)]
theorem sQ(P:Int)(l:List Wy)(L:Nat→Prop):(wP P l).names L:=by
 have:=cE (k:= .agg 4) (fun L=>bI (fun x=>Wy.names_v L x) l) L
 simp[wP,V.names,bP,this]
theorem nQ:wP 0 []= .agg [.int .i64 0, .sl (.agg 4) .nil []]:=rfl
open Classical in
set_option maxHeartbeats 1000000 in
theorem aED(o:Own)(P:Int)(ws:List Wy)(h' h2:Hp)(nx nx2:Nat)(ho:(.sl (.agg 4) o ((bT ws).map Wy.v):V)=lst (.agg 4) ((bT ws).map Wy.v))(hl:ws.length≤1000)(hbad:¬(P<0∨200<P∨∃w∈ws,w.fit P=false))(hdm:aH h' nx)
 (h1:h2 nx=some (.arr .leaf [.int .i64 P])) (h3:h2 (nx+1)=some (.arr (.agg 2) [.agg [.int .i64 0, .sl (.agg 4) .nil []]])) (hle:h'.le h2) (hnx:nx+2≤nx2):
 lwp Tryz.prog (.seq (.seq (.ops L.path_New_r5) (.cond (.slot 28) (.seq (.ops L.path_New_r6) .ret) .skip)) (.seq (.seq (.ops L.path_New_r7) (.cond (.slot 38) (.seq (.ops L.path_New_r8) .ret) .skip)) (.seq (.ops L.path_New_r9) .ret)))
  (pX [.cell 4 (.agg 2), .slot 5] fun v' h'' _=>v'= .tup [wP (cC P ws).1.1 (cC P ws).1.2,jZ (cC P ws).2]∧h''=h') ⟨aB 44 0 [(2, .ptr nx .leaf 0 0),(4, .ptr (nx+1) (.agg 2) 0 0),(5, .nilIface),(7, .sl (.agg 4) o ((bT ws).map Wy.v))],h2,nx2⟩:=by
 have hfit:∀w∈bT ws,w.fit P=true:=fun w hw=>by
  cases e:w.fit P with
  |true=>rfl
  |false=>exact absurd (.inr (.inr ⟨w,(mG ws w).1 hw,e⟩)) hbad
 have hP:0≤P∧P≤200:=by
  constructor
  ·exact Classical.byContradiction fun h=>hbad (.inl (by omega))
  exact Classical.byContradiction fun h=>hbad (.inr (.inl (by omega)))
 have hcl:(bT ws).length≤1000:=Nat.le_trans (mH ws) hl
 obtain⟨k1,k2⟩:=aAD hfit
 obtain⟨l,hlw⟩:∃l,l=(bT ws).map Wy.we:=⟨_,rfl⟩
 rw[←hlw] at k1 k2
 have hll:l.length≤1000:=by rw[hlw];simpa using hcl
 have hwl:(bT ws).map Wy.v=l.map We.v:=by rw[k1,aFM]
 have hPn:P=((P.toNat:Nat):Int):=by omega
 have hb:∀w∈bT ws,0≤w.p.a∧w.p.a≤1048576:=fun w hw=>by
  have:=hfit w hw
  simp only[Wy.fit,Bool.and_eq_true,Pa.ok,decide_eq_true_eq] at this
  exact this.2.2.2.2
 have ci:∀h,aW Tryz.prog 132 [.int .i64 P, .sl (.agg 4) o ((bT ws).map Wy.v)] h (.bool (aFd l)):=fun h=>by
  rw[hwl,hPn];exact aHT o P.toNat l k2 (by omega) hll h
 have ct:∀h,aW Tryz.prog 133 [.int .i64 P, .sl (.agg 4) o ((bT ws).map Wy.v)] h (.bool (zR l)):=fun h=>by
  rw[hwl,hPn];exact aFN o P.toNat l k2 (by omega) hll h
 have ca:∀h,aW Tryz.prog 131 [.sl (.agg 4) o ((bT ws).map Wy.v)] h (.int .i64 (eL (bT ws))):=fun h=>aGG o (bT ws) hcl hb h
 have hlt:nx<nx2:=by omega
 have hlt1:nx+1<nx2:=by omega
 unfold cC
 rw[if_neg hbad,←hlw]
 simp only[aB,go_sem,reduceIte,jA,jB,jC,jD,reduceCtorEq,jE,jF]
 have hset:∀b,h'.le (h2.set (nx+1) b):=fun b=>dW hle (hdm.none (by omega)) _
 rcases Int.lt_or_le 1048576 (eL (bT ws)) with ha|ha
 ·have hc:decide ((1048576:Int)<eL (bT ws))=true:=decide_eq_true ha
  rw[if_pos ha]
  have C1:=fun h=>ca h
  refine aue (ee5 hc h1 h3 hlt hlt1) ?_
  refine cA (by simp only[go_sem,reduceIte,jA,jB,jC,jD,reduceCtorEq,jE,jF]) h' (hset _) ⟨?_,rfl⟩
  simp only[nQ,jZ,go_sem,reduceIte,jA,jB,jC,jD,reduceCtorEq,jE,jF]
  trivial
 have hc:decide ((1048576:Int)<eL (bT ws))=false:=decide_eq_false (by omega)
 rw[if_neg (by omega)]
 cases hi:aFd l with
 |true=>
  rw[if_pos (.inl ((wZ l).1 hi))]
  have C1:=fun h=>ca h
  have C2:=fun h=>ci h
  refine aue (ee6 hc h1 h3 hlt hlt1 hi) ?_
  refine cA (by simp only[go_sem,reduceIte,jA,jB,jC,jD,reduceCtorEq,jE,jF]) h' (hset _) ⟨?_,rfl⟩
  simp only[nQ,jZ,go_sem,reduceIte,jA,jB,jC,jD,reduceCtorEq,jE,jF]
  trivial
 |false=>
  have hni:¬aBM l:=fun h=>by rw[(wZ l).2 h] at hi;cases hi
  cases ht:zR l with
  |true=>
   rw[if_pos (.inr ((zQ l).1 ht))]
   have C1:=fun h=>ca h
   have C2:=fun h=>ci h
   have C3:=fun h=>ct h
   refine aue (ee7 hc h1 h3 hlt hlt1 hi ht) ?_
   refine cA (by simp only[go_sem,reduceIte,jA,jB,jC,jD,reduceCtorEq,jE,jF]) h' (hset _) ⟨?_,rfl⟩
   simp only[nQ,jZ,go_sem,reduceIte,jA,jB,jC,jD,reduceCtorEq,jE,jF]
   trivial
  |false=>
   have hnt:¬qT l:=fun h=>by rw[(zQ l).2 h] at ht;cases ht
   rw[if_neg (fun h=>h.elim hni hnt)]
   have C1:=fun h=>ca h
   have C2:=fun h=>ci h
   have C3:=fun h=>ct h
   refine aue (ee7 hc h1 h3 hlt hlt1 hi ht) ?_
   refine cA (by simp only[go_sem,reduceIte,jA,jB,jC,jD,reduceCtorEq,jE,jF]) h' (hset _) ⟨?_,rfl⟩
   simp only[wP,ho,jZ,go_sem,reduceIte,jA,jB,jC,jD,reduceCtorEq,jE,jF]
   try trivial
theorem aEE(own:Own)(P:Int)(ws:List Wy)(hl:ws.length≤1000)(h:Hp):aW Tryz.prog 65 [.int .i64 P,wys own ws] h (.tup [wP (cC P ws).1.1 (cC P ws).1.2,jZ (cC P ws).2]):=by
 refine aR (fun L=>by simp[V.names,bP,sQ,sX]) fun h' nx hh=>aD L.path_New_low fun hd=>?_
 have hb1:((h'.set nx (.arr .leaf [.int .i64 P])).set (nx+1) (.arr (.agg 2) [.agg [.int .i64 0, .sl (.agg 4) .nil []]])) nx=some (.arr .leaf [.int .i64 P]):=by simp only[go_sem,reduceIte,jA,jB,jC,jD,reduceCtorEq,jE,jF]
 have hcl:=fK Wy.v Wy.fits_v kX nR (fun w=> !(w.fit P)) own ws aLp [.ptr nx .leaf 0 0] _ (fun w _=>aHD w P nx _ hb1) (by omega)
 simp only[jL,jM,jA,jB,jN,jO,jP,jQ,V.undef]
 by_cases hbad:P<0∨200<P∨∃w∈ws,w.fit P=false
 ·have hn:cC P ws=((0,[]),1):=by unfold cC;rw[if_pos hbad]
  rw[hn]
  have hbx:¬P<0→¬200<P→(ws.any fun w=> !(w.fit P))=true:=fun h1 h2=>by
   rcases hbad with h|h|⟨w,hw,h⟩
   ·exact absurd h h1
   ·exact absurd h h2
   exact List.any_eq_true.2 ⟨w,hw,by rw[h];rfl⟩
  (repeat' (first|(with_reducible first|refine stp ?_|refine uP (by decide) ?_|refine uQ (fun _=>?_) (fun _=>?_))|((first|(with_reducible refine uA ?_;first|refine uB rfl ?_ ?_|refine aM (hcl) rfl (aO _) ?_|(first|refine uC rfl ?_|refine uD rfl ?_)|refine uE rfl ?_)|(with_reducible refine uF ?_;first|refine uG rfl ?_ ?_|(first|refine uH rfl ?_|refine uI rfl ?_)|refine uJ rfl ?_|refine uK (uL ?_)|refine uK (uM ?_))|(with_reducible refine uN ?_;refine uO rfl ?_))<;>try simp only[ go_sem,reduceIte,jA,jB,jC,jD,reduceCtorEq,jE,jF])|(with_reducible refine uR ?_;refine uS rfl ?_)|omega))
  ·refine cA (by simp only[go_sem,reduceIte,jA,jB,jC,jD,reduceCtorEq,jE,jF]) h' (by repeat (first|exact Hp.le_refl _|refine aK hd ?_ (by omega) _|refine aL hd ?_ (by omega))) ⟨?_,rfl⟩
   simp only[nQ,jZ,go_sem,reduceIte,jA,jB,jC,jD,reduceCtorEq,jE,jF]
   trivial
  ·refine cA (by simp only[go_sem,reduceIte,jA,jB,jC,jD,reduceCtorEq,jE,jF]) h' (by repeat (first|exact Hp.le_refl _|refine aK hd ?_ (by omega) _|refine aL hd ?_ (by omega))) ⟨?_,rfl⟩
   simp only[nQ,jZ,go_sem,reduceIte,jA,jB,jC,jD,reduceCtorEq,jE,jF]
   trivial
  ·refine cA (by simp only[go_sem,reduceIte,jA,jB,jC,jD,reduceCtorEq,jE,jF]) h' (by repeat (first|exact Hp.le_refl _|refine aK hd ?_ (by omega) _|refine aL hd ?_ (by omega))) ⟨?_,rfl⟩
   simp only[nQ,jZ,go_sem,reduceIte,jA,jB,jC,jD,reduceCtorEq,jE,jF]
   trivial
  rename_i x1 x2 x3
  rw[hbx (of_decide_eq_false x1) (of_decide_eq_false x2)] at x3
  cases x3
 have g1:decide (P<0)=false:=decide_eq_false (fun h=>hbad (.inl h))
 have g2:decide (200<P)=false:=decide_eq_false (fun h=>hbad (.inr (.inl h)))
 have g3:(ws.any fun w=> !(w.fit P))=false:=by
  cases e:ws.any fun w=> !(w.fit P) with
  |false=>rfl
  |true=>
   obtain⟨w,hw,h⟩:=List.any_eq_true.1 e
   exact absurd (.inr (.inr ⟨w,hw,by simpa using h⟩)) hbad
 have hs:∃own',(wys own ws).loose=wys own' ws:=by cases own<;>exact⟨_,rfl⟩
 obtain⟨own',hs⟩:=hs
 have C5:=hcl
 refine aue (ee3 g1 g2 g3) ?_
 refine aM (zO aBw own (ws.map Wy.v) (fun L=>bI (Wy.names_v L) _) Hp.none) rfl (bH _) ?_
 rw[hs]
 simp only[go_sem,reduceIte,jA,jB,jC,jD,reduceCtorEq,jE,jF]
 refine bS ((nN Wy.v aKH Wy.fits_v (by intro w;exact Tryz.isAgg134 w) (by intro w;exact Tryz.sizeOf134 w) (by kernel_rfl) uU aAl wS rfl (by omega) rfl _ _ Hp.none ws
  (tK Wy.v Wy.fits_v yN rfl own' ws (by omega)) (by omega) Wy.cmp Wy.swo _ [] (fun x y=>by simpa using aGf x y) _ _ (bH _)).mono ?_)
 rintro v1 h1 nx1 hnx1 ⟨es,⟨ys,hp,hs2,rfl⟩,hF⟩
 have hys:ys=dD Wy.cmp ws:=mW Wy.tot _ _ (hp.trans (dH _ _).symm) hs2 (fZ Wy.swo ws)
 subst hys
 have hle0:h'.le ((h'.set nx (.arr .leaf [.int .i64 P])).set (nx+1) (.arr (.agg 2) [.agg [.int .i64 0, .sl (.agg 4) .nil []]])):=(by repeat (first|exact Hp.le_refl _|refine aK hd ?_ (by omega) _|refine aL hd ?_ (by omega)))
 unfold dV
 dsimp only at hnx1
 rcases hF with⟨he,rfl,rfl⟩|⟨hne,id,hid,rfl,rfl⟩
 ·have hw:ws=[]:=by
   have:(dD Wy.cmp ws).length=0:=by have:=congrArg List.length he;simpa using this
   rw[(dH Wy.cmp ws).length_eq] at this
   exact List.length_eq_zero_iff.1 this
  subst hw
  have hcn:bT []=[]:=List.length_eq_zero_iff.1 (Nat.le_zero.1 (mH []))
  simp only[go_sem,reduceIte,jA,jB,jC,jD,reduceCtorEq,jE,jF]
  refine aM (aBa _) rfl (aO _) ?_
  simp only[go_sem,reduceIte,jA,jB,jC,jD,reduceCtorEq,jE,jF]
  refine eH rfl (by simp only[ go_sem,reduceIte,jA,jB,jC,jD,reduceCtorEq,jE,jF];try omega) ?_
  simp only[ go_sem,reduceIte,jA,jB,jC,jD,reduceCtorEq,jE,jF]
  refine(qX ⟨aB 44 0 [(2, .ptr nx .leaf 0 0),(4, .ptr (nx+1) (.agg 2) 0 0),(5, .nilIface),(7, .sl (.agg 4) .nil ((bT []).map Wy.v))],_,_⟩ (iY ?_ (Hp.le_refl _) (Nat.le_refl _)) (aED .nil P [] h' _ nx _ (by rw[hcn];rfl) (by simp) hbad hd (by simp only[go_sem,reduceIte,jA,jB,jC,jD,reduceCtorEq,jE,jF]) (by simp only[go_sem,reduceIte,jA,jB,jC,jD,reduceCtorEq,jE,jF]) hle0 (by omega)))
  simp only[WkL,aB,jH,jI,jJ,hcn,List.map_nil,go_sem,reduceIte,jA,jB,jC,jD,reduceCtorEq,jE,jF]
 dsimp only at hid
 have hmb:(((h'.set nx (.arr .leaf [.int .i64 P])).set (nx+1) (.arr (.agg 2) [.agg [.int .i64 0, .sl (.agg 4) .nil []]])).set id (.arr (.agg 4) ((dD Wy.cmp ws).map Wy.v))) id=some (.arr (.agg 4) ((dD Wy.cmp ws).map Wy.v)):=by simp only[go_sem,reduceIte,jA,jB,jC,jD,reduceCtorEq,jE,jF]
 have hlen:((dD Wy.cmp ws).map Wy.v).length=(dD Wy.cmp ws).length:=by simp
 have hll:(dD Wy.cmp ws).length=ws.length:=(dH Wy.cmp ws).length_eq
 have hie:(nx=id)=False:=eq_false (by omega)
 have hie1:(nx+1=id)=False:=eq_false (by omega)
 have hne2:bT ws≠ []:=fun e=>by
  have h1:=mG ws
  have:ws=[]:=by
   cases hws:ws with
   |nil=>rfl
   |cons x l=>have:=(h1 x).2 (by rw[hws];simp);rw[e] at this;cases this
  subst this
  exact hne (by rw[List.map_eq_nil_iff];exact List.length_eq_zero_iff.1 hll)
 rw[hlen]
 simp only[go_sem,reduceIte,jA,jB,jC,jD,reduceCtorEq,jE,jF]
 refine bS ((vY (G:=fun es=>es=(cs (dD Wy.cmp ws)).map Wy.v) (aBE Wy.v aAk rfl Wy.fits_v sF id (dD Wy.cmp ws) (by omega) _ _ hmb)).mono ?_)
 rintro v2 h2 nx2 hnx2 ⟨es,rfl,rfl,hes⟩
 have hes:es=(bT ws).map Wy.v:=hes
 dsimp only at hnx2
 subst hes
 unfold dV
 simp only[go_sem,reduceIte,jA,jB,jC,jD,reduceCtorEq,jE,jF]
 refine eH rfl (by simp only[ go_sem,reduceIte,jA,jB,jC,jD,reduceCtorEq,jE,jF];try omega) ?_
 simp only[ go_sem,reduceIte,jA,jB,jC,jD,reduceCtorEq,jE,jF]
 refine(qX ⟨aB 44 0 [(2, .ptr nx .leaf 0 0),(4, .ptr (nx+1) (.agg 2) 0 0),(5, .nilIface),(7, .sl (.agg 4) .free ((bT ws).map Wy.v))],_,_⟩ (iY ?_ (Hp.le_refl _) (Nat.le_refl _)) (aED .free P ws h' _ nx _ ?_ hl hbad hd (by simp only[hie,go_sem,reduceIte,jA,jB,jC,jD,reduceCtorEq,jE,jF]) (by simp only[hie1,go_sem,reduceIte,jA,jB,jC,jD,reduceCtorEq,jE,jF]) ?_ (by omega)))
 ·simp only[WkL,aB,jH,jI,jJ,go_sem,reduceIte,jA,jB,jC,jD,reduceCtorEq,jE,jF]
 ·cases hcw:bT ws with
  |nil=>exact absurd hcw hne2
  |cons x l=>rfl
 intro m b hm
 have hml:=hd m b hm
 have e1:(m=id)=False:=eq_false (by omega)
 have:=hle0 m b hm
 simp only[e1,go_sem,reduceIte,jA,jB,jC,jD,reduceCtorEq,jE,jF] at this⊢
 exact this
abbrev mps(o:Own)(P:Int)(ws:List Wy):V:= .agg [.int .i64 P,wys o ws]
theorem aIT(o:Own)(P:Int)(ws:List Wy):(mps o P ws).fits (.agg 2)=true:=by simp[V.fits,V.leafy]
theorem aHC(P:Int)(ws:List Wy):(cC P ws).1.2.length≤ws.length:=by
 unfold cC
 split
 ·simp
 split
 ·simp
 split
 ·simp
 exact mH ws
theorem aAh(P:Int)(l:List Wy):∃o,wP P l=mps o P l:=by
 obtain⟨o,ho⟩:=gY (.agg 4) (l.map Wy.v)
 exact⟨o,by unfold wP;rw[ho]⟩
theorem mZ(o:Own)(P:Int)(ws:List Wy)(hl:ws.length≤1000)(h:Hp):aW Tryz.prog 67 [mps o P ws] h (.bool (gX P ws)):=by
 refine aR (fun L=>trivial) fun h' nx hh=>aD L.path_Right_low fun hd=>?_
 have hn:=aEE o P ws hl
 obtain⟨o2,ho2⟩:=aAh (cC P ws).1.1 (cC P ws).1.2
 rw[ho2] at hn
 have hlen:=aHC P ws
 have he:=aCD Wy.v Wy.fits_v uX sF o2 o (cC P ws).1.2 ws (by omega)
 have hrm:gX P ws=(decide ((cC P ws).2=0)&&decide ((cC P ws).1.2=ws)):=by
  rw[Bool.eq_iff_iff]
  unfold gX
  simp
 rw[hrm]
 simp only[jL,jM,jA,jB,jN,jO,jP,jQ,V.undef]
 (repeat' (first|(with_reducible first|refine stp ?_|refine uP (by decide) ?_|refine uQ (fun _=>?_) (fun _=>?_))|((first|(with_reducible refine uA ?_;first|refine uB rfl ?_ ?_|refine aM (hn _) rfl (aO _) ?_|refine aM (he _) rfl (aO _) ?_|(first|refine uC rfl ?_|refine uD rfl ?_)|refine uE rfl ?_)|(with_reducible refine uF ?_;first|refine uG rfl ?_ ?_|(first|refine uH rfl ?_|refine uI rfl ?_)|refine uJ rfl ?_|refine uK (uL ?_)|refine uK (uM ?_))|(with_reducible refine uN ?_;refine uO rfl ?_))<;>try simp only[aIT,oH,go_sem,reduceIte,jA,jB,jC,jD,reduceCtorEq,jE,jF])|(with_reducible refine uR ?_;refine uS rfl ?_)|omega))
 all_goals refine aF h' (by repeat (first|exact Hp.le_refl _|refine aK hd ?_ (by omega) _|refine aL hd ?_ (by omega))) ⟨?_,rfl⟩
 all_goals rename_i hx
 all_goals simp only[hx,go_sem,reduceIte,jA,jB,jC,jD,reduceCtorEq,jE,jF]
open Classical in
noncomputable def dB(l:List We)(a k:Nat):List Pa:=if h:∃m,gT l a k m then Classical.choose h else []
theorem wV{l:List We}{a k:Nat}{m:List Pa}(h:gT l a k m):dB l a k=m:=by
 unfold dB
 rw[dif_pos ⟨m,h⟩]
 exact(Classical.choose_spec (⟨m,h⟩:∃m,gT l a k m)).unique h
noncomputable def kB(n:Nat)(l:List We)(a:Nat):List (List Pa):=(List.range n).map (dB l a)
theorem aFj{n:Nat}{l:List We}{a:Nat}{out:List (List Pa)}(hl:out.length=n)(h:∀k,k<n→gT l a k (out.getD k [])):kB n l a=out:=by
 refine List.ext_getElem (by simp[kB,hl]) fun i h1 h2=>?_
 have hi:i<n:=by omega
 have:=wV (h i hi)
 simp only[kB,List.getElem_map,List.getElem_range,this]
 rw[List.getD_eq_getElem?_getD,List.getElem?_eq_getElem h2];rfl
theorem aIP{P:Program}{f:FuncId}{args:List V}{h:Hp}{v:V}{m:Nat}{k:Sh}{es:List V}(hm:h m=some (.arr k es))(hv:∀L:Nat→Prop,L m→v.names L)(hc:∀h' nx,h.has h'→aX P f args h' nx fun v' h'' _=>v'=v∧h''=h'):aW P f args h v:=by
 intro h' nx hh
 have c:=hc h' nx hh
 refine⟨c.1,fun K cargs hlv hrel hargs=>(c.2 K cargs hlv hrel hargs).mono ?_⟩
 rintro e w' ⟨K',v',cv,h'',nx',rfl,he,hle,hvr,hrel',hlv',hnx,rfl,rfl⟩
 have hml:=hrel.lt m _ (hh m _ hm rfl)
 have hleO:K.le (K'.only fun n=>K'.live n∧n<nx):=⟨fun n hn=>⟨hle.live n hn,hlv n hn⟩,hle.mu,hle.tp,hle.fro,hle.imm,hle.cell,hle.shape,hle.below⟩
 exact⟨K'.only fun n=>K'.live n∧n<nx,v',cv,h'',nx,rfl,he,hleO,hvr.only _ (hv _ ⟨hle.live m hml,hlv m hml⟩),hrel.back hrel' hleO.toV (fun n hn=>⟨hle.live n hn,hlv n hn⟩),fun n hn=>⟨hn.2,(hlv' n hn.1).2⟩,Nat.le_refl _,rfl,rfl,rfl⟩
theorem aEp(m:Nat)(l:List Pa)(p:Pa)(hl:l.length≤1000)(hd:kU l p)(h:Hp)(hm:h m=some (.arr (.agg 2) (l.map Pa.v))):aW Tryz.prog 187 [kO m l,p.v] h (.tup [kO m l, .bool false]):=by
 refine aIP hm (fun L hL=>?_) (aKL m l p hl hd h (fun _=>hm))
 unfold kO rZ
 split<;>simp[V.names,bP,hL]
theorem aJA{P:Program}{k:Sh}{f bs:Nat}(hL:aG P f=some (LB.Clone k bs))(hbs:bs≤140737)(m:Nat)(es:List V)(hl:es.length≤1000000000)(hv:∀L,bP L es)(h:Hp)(hm:h m=some (.arr k es)):wB P f [.rs m k 0 es.length] h k es:=by
 refine aJl hv fun h' nx hh=>aD hL fun hd=>?_
 have hm':=hh m _ hm rfl
 have hlt:=hd m _ hm'
 have hb:es.length*bs≤140737488355328:=Nat.le_trans (Nat.mul_le_mul hl hbs) (by omega)
 simp only[jL,jM,jA,jB,jN,jO,jP,jQ,V.undef]
 have hrf:(es.length≤es.length)=True:=eq_true (Nat.le_refl _)
 (repeat' (first|(with_reducible first|refine stp ?_|refine uP (by decide) ?_|refine uQ (fun _=>?_) (fun _=>?_))|((first|(with_reducible refine uA ?_;first|refine uB rfl ?_ ?_|refine qE rfl rfl (by simp only[hm',hlt,hb,hrf,if_true,hm',hlt,hb,hrf,if_true,go_sem,reduceIte,jA,jB,jC,jD,reduceCtorEq,jE,jF];try omega) ?_|(first|refine uC rfl ?_|refine uD rfl ?_)|refine uE rfl ?_)|(with_reducible refine uF ?_;first|refine uG rfl ?_ ?_|(first|refine uH rfl ?_|refine uI rfl ?_)|refine uJ rfl ?_|refine uK (uL ?_)|refine uK (uM ?_))|(with_reducible refine uN ?_;refine uO rfl ?_))<;>try simp only[hm',hlt,hb,hrf,if_true,go_sem,reduceIte,jA,jB,jC,jD,reduceCtorEq,jE,jF])|(with_reducible refine uR ?_;refine uS rfl ?_)|omega))
 refine aF (h'.set (nx+1) .tip) ?_ ⟨nx+1,by omega,?_,rfl⟩
 ·intro x b hx
  by_cases e:x=nx+1
  ·subst e;simp only[go_sem,reduceIte,jA,jB,jC,jD,reduceCtorEq,jE,jF] at hx⊢;exact hx
  have hx':h' x=some b:=by unfold Hp.set at hx;rwa [if_neg e] at hx
  have:=hd x b hx'
  have e1:(x=nx)=False:=eq_false (by omega)
  simp only[e,e1,go_sem,reduceIte,jA,jB,jC,jD,reduceCtorEq,jE,jF];exact hx'
 simp only[go_sem,reduceIte,jA,jB,jC,jD,reduceCtorEq,jE,jF]
end Go.Proofs.YtemjhgboialjpaaGreat
namespace Go.Proofs.YtemjhgboialjpaaGreat
open Go.RowKit Go.Sort
attribute [local irreducible] IntKind.wrap
theorem aGe(m:Nat)(l:List Pa):(kO m l).leafy=true:=by unfold kO rZ;split<;>rfl
theorem aCf(m:Nat)(l:List Pa):(kO m l).fits .leaf=true:=by rw[nV];exact aGe m l
def eJ(n:Nat)(ν:Nat→Nat)(out:List (List Pa)):List V:=(List.range n).map fun k=>kO (ν k) (out.getD k [])
theorem tA(n:Nat)(ν:Nat→Nat)(out:List (List Pa)):(eJ n ν out).length=n:=by simp[eJ]
theorem aBe{n:Nat}{ν:Nat→Nat}{out:List (List Pa)}{t:Nat}(ht:t<n):(eJ n ν out).getD t (.tup [])=kO (ν t) (out.getD t []):=by
 unfold eJ
 rw[List.getD_eq_getElem?_getD,List.getElem?_eq_getElem (by simpa using ht)]
 simp
structure pF(h' hp:Hp)(nx nx1 n:Nat)(mv:V)(out:List (List Pa))(ν:Nat→Nat):Prop where
 box:hp nx=some (.arr (.agg 2) [mv])
 tab:hp (nx+1)=some (.arr .leaf (eJ n ν out))
 row:∀k,k<n→out.getD k []≠ []→hp (ν k)=some (.arr (.agg 2) ((out.getD k []).map Pa.v))∧nx+2≤ν k∧ν k<nx1
 apart:∀j k,j<n→k<n→j≠k→out.getD j []≠ []→out.getD k []≠ []→ν j≠ν k
 dom:aH hp nx1
 ge:nx+2≤nx1
 same:Hp.same nx h' hp
theorem pF.box'{h' hp:Hp}{nx nx1 n:Nat}{mv:V}{out:List (List Pa)}{ν:Nat→Nat}(F:pF h' hp nx nx1 n mv out ν){x:Nat}(h1:nx1≤x){nx2:Nat}(h2:x<nx2)(b:Blk):pF h' (hp.set x b) nx nx2 n mv out ν:=by
 have hge:=F.ge
 have hs:∀y,y<nx1→(hp.set x b) y=hp y:=fun y hy=>by unfold Hp.set;rw[if_neg (by omega)]
 refine⟨by rw[hs _ (by omega)];exact F.box,by rw[hs _ (by omega)];exact F.tab,fun k hk hne=>?_,F.apart,F.dom.set (by omega) (by omega) b,by omega,(by(try dsimp only);repeat (first|exact F.same|refine aS ?_ (by omega) _|refine aT ?_ (by omega)))⟩
 obtain⟨a,b',c⟩:=F.row k hk hne
 exact⟨by rw[hs _ c];exact a,b',by omega⟩
theorem pF.again{h' hp:Hp}{nx nx1 n:Nat}{mv:V}{out:List (List Pa)}{ν:Nat→Nat}(F:pF h' hp nx nx1 n mv out ν){x:Nat}(hx:nx+2≤x)(hx1:x<nx1)(hν:∀k,k<n→out.getD k []≠ []→ν k≠x)(b:Blk):pF h' (hp.set x b) nx nx1 n mv out ν:=by
 have hge:=F.ge
 have hs:∀y,y≠x→(hp.set x b) y=hp y:=fun y hy=>by unfold Hp.set;rw[if_neg hy]
 refine⟨by rw[hs _ (by omega)];exact F.box,by rw[hs _ (by omega)];exact F.tab,fun k hk hne=>?_,F.apart,F.dom.set2 hx1 b,by omega,(by(try dsimp only);repeat (first|exact F.same|refine aS ?_ (by omega) _|refine aT ?_ (by omega)))⟩
 obtain⟨a,b',c⟩:=F.row k hk hne
 exact⟨by rw[hs _ (hν k hk hne)];exact a,b',c⟩
theorem pF.del{h' hp:Hp}{nx nx1 n:Nat}{mv:V}{out:List (List Pa)}{ν:Nat→Nat}(F:pF h' hp nx nx1 n mv out ν){id:Nat}(hid:hp id=some .tip)(hge:nx+2≤id):pF h' (hp.del id) nx nx1 n mv out ν:=by
 have hs:∀y,hp y≠some .tip→(hp.del id) y=hp y:=fun y hy=>by unfold Hp.del;rw[if_neg (fun e=>hy (by rw[e];exact hid))]
 refine⟨by rw[hs _ (by rw[F.box];exact(fun e=>by cases e))];exact F.box,by rw[hs _ (by rw[F.tab];exact(fun e=>by cases e))];exact F.tab,fun k hk hne=>?_,F.apart,F.dom.del,F.ge,(by(try dsimp only);repeat (first|exact F.same|refine aS ?_ (by omega) _|refine aT ?_ (by omega)))⟩
 obtain⟨a,b',c⟩:=F.row k hk hne
 exact⟨by rw[hs _ (by rw[a];exact(fun e=>by cases e))];exact a,b',c⟩
theorem pF.put{h' hp:Hp}{nx nx1 nx2 n:Nat}{mv:V}{out:List (List Pa)}{ν:Nat→Nat}(F:pF h' hp nx nx1 n mv out ν)(hlen:out.length=n){t x:Nat}(ht:t<n)(L':List Pa)(hL:L'≠ [])(hx:nx1≤x)(hx2:x<nx2)
 {hq:Hp} (h1:hq x=some (.arr (.agg 2) (L'.map Pa.v))) (h2:hq (nx+1)=some (.arr .leaf ((eJ n ν out).set t (.rs x (.agg 2) 0 L'.length)))) (h3:∀y,y≠x→y≠nx+1→(out.getD t []≠ []→y≠ν t)→y<nx1→hq y=hp y) (hd:aH hq nx2):
 pF h' hq nx nx2 n mv (out.set t L') (fun k=>if k=t then x else ν k):=by
 have hge:=F.ge
 have hset:∀j,(out.set t L').getD j []=if j=t then L' else out.getD j []:=fun j=>lK _ _ _ _ _ (by rw[hlen];exact ht)
 refine⟨?_,?_,fun k hk hne=>?_,fun j k hj hk hjk hnj hnk=>?_,hd,by omega,fun y hy=>?_⟩
 ·rw[h3 nx (by omega) (by omega) (fun hne e=>by have:=(F.row t ht hne).2.1;omega) (by omega)];exact F.box
 ·rw[h2]
  congr 2
  refine List.ext_getElem (by simp[eJ]) fun i i1 i2=>?_
  have hin:i<n:=by simpa [eJ] using i2
  rw[List.getElem_set]
  simp only[eJ,List.getElem_map,List.getElem_range,hset]
  by_cases e:t=i
  ·subst e
   simp only[if_true]
   unfold kO rZ
   cases L' with
   |nil=>exact absurd rfl hL
   |cons=>simp
  have e':¬i=t:=fun h=>e h.symm
  simp only[e,e',if_false]
 ·rw[hset] at hne⊢
  by_cases e:k=t
  ·simp only[e,if_true];exact⟨h1,by omega,hx2⟩
  simp only[e,if_false] at hne⊢
  obtain⟨a,b,c⟩:=F.row k hk hne
  exact⟨by rw[h3 _ (by omega) (by omega) (fun hnt=>F.apart k t hk ht e hne hnt) c];exact a,b,by omega⟩
 ·rw[hset] at hnj hnk
  by_cases e:j=t<;>by_cases e2:k=t
  ·omega
  ·simp only[e,e2,if_true,if_false] at hnk⊢
   have:=(F.row k hk hnk).2.2;omega
  ·simp only[e,e2,if_true,if_false] at hnj⊢
   have:=(F.row j hj hnj).2.2;omega
  simp only[e,e2,if_false] at hnj hnk⊢
  exact F.apart j k hj hk hjk hnj hnk
 rw[h3 y (by omega) (by omega) (fun hne e=>by have:=(F.row t ht hne).2.1;omega) (by omega)];exact F.same y hy
def coL(out:List (List Pa)):Nat:=(out.map co).sum
theorem aHg{out:List (List Pa)}{t:Nat}{L':List Pa}(ht:t<out.length)(hc:co L'+1≤co (out.getD t [])):coL (out.set t L')+1≤coL out:=by
 unfold coL
 induction out generalizing t with
 |nil=>simp at ht
 |cons x out ih=>
  cases t with
  |zero=>
   simp at hc
   simp only[List.set_cons_zero,List.map_cons,List.sum_cons]
   omega
  |succ t=>
   have:=ih (t:=t) (by simpa using ht) (by simpa using hc)
   simp only[List.set_cons_succ,List.map_cons,List.sum_cons]
   omega
theorem aKZ(out:List (List Pa)):coL out≤out.length*2097154:=by
 unfold coL
 induction out with
 |nil=>simp
 |cons x out ih=>
  have h1:=tX x
  have h2:=tX (x.filter fun p=>p.n)
  simp only[List.map_cons,List.sum_cons,List.length_cons,co]
  omega
theorem pC{l:List Pa}(h:Can l):l.length≤2:=by
 match l,h with
 | [],_=>simp
 | [a],_=>simp
 | [a,b],_=>simp
 |a::b::c::l,h=>
  have h1:=(List.pairwise_cons.1 h).1 b (by simp)
  have h2:=(List.pairwise_cons.1 (List.pairwise_cons.1 h).2).1 c (by simp)
  rw[h1.2.1] at h2
  cases h2.1
end Go.Proofs.YtemjhgboialjpaaGreat
namespace Go.Proofs.YtemjhgboialjpaaGreat
open Go.Proofs.YtemjhgboialjpaaGreat renaming fE→uA,dU→uB,cM→uC,cN→uD,bV→uE,fF→uF,bQ→uG,cO→uH,cP→uI,bW→uJ,bX→uK,cG→uL,dP→uM,fG→uN,dG→uO,aZ→uP,gR→uQ,fS→uR,dA→uS
open Go.RowKit Go.Sort
attribute [local irreducible] IntKind.wrap
theorem aIm{h' hp:Hp}{nx nx1 n:Nat}{mv:V}{out:List (List Pa)}{ν:Nat→Nat}(F:pF h' hp nx nx1 n mv out ν){k:Nat}(hk:k<n)(hl:(out.getD k []).length≤1000){id:Nat}(hid:hp id=some .tip)(hidn:id<nx1):
 aX Tryz.prog 185 [kO (ν k) (out.getD k [])] hp nx1 fun v h2 nx2=>∃o,v=pas o (out.getD k [])∧pF h' h2 nx nx2 n mv out ν∧h2 id=some .tip∧id<nx2:=by
 by_cases hne:out.getD k []=[]
 ·rw[hne]
  have c:=aBc uY (by omega) .nil [] (by simp) (fun _=>rfl) (fun L=>trivial) hp hp nx1 (aO _)
  refine c.mono ?_
  rintro v h2 nx2 hnx ⟨rfl,rfl,rfl⟩
  exact⟨.nil,rfl,F,hid,hidn⟩
 have hrow:kO (ν k) (out.getD k [])= .rs (ν k) (.agg 2) 0 ((out.getD k []).map Pa.v).length:=by
  unfold kO rZ
  cases e:out.getD k [] with
  |nil=>exact absurd e hne
  |cons=>simp
 rw[hrow]
 have c:=(aJA uY (by omega) (ν k) ((out.getD k []).map Pa.v) (by rw[jK];omega) (fun L=>bI (Pa.names_v L) _) hp (F.row k hk hne).1).2 hp nx1 (aO _)
 refine c.mono ?_
 rintro v h2 nx2 hnx ⟨rfl,rfl,rfl⟩
 refine⟨.tok nx1,rfl,F.box' (Nat.le_refl _) (by omega) _,?_,by omega⟩
 unfold Hp.set
 rw[if_neg (by omega)]
 exact hid
set_option maxRecDepth 100000 in
set_option maxHeartbeats 4000000 in
theorem aIb(ow:Own)(n:Nat)(l:List We)(a:Nat)(hfit:wC n l)(ha:a<n)(hn:n≤200)(hl:l.length≤1000)(h':Hp)(nx:Nat):
 aX Tryz.prog 135 [.agg [.int .i64 n,wes ow l], .int .i64 a] h' nx fun v h'' _=>∃O ν ls es,v= .rs O .leaf 0 ls.length∧nx≤O∧(∀i (hi:i<ls.length),ls[i]≠ []→nx≤ν i)∧xJ h'' O (.agg 2) ν ls 0 es∧(∀x,x<nx→h'' x=h' x)∧ls=(kB n l a).map (List.map Pa.v):=by
 refine aD L.path_from_low fun hd=>?_
 have hmf:(V.agg [.int .i64 (n:Int),wes ow l]).fits (.agg 2)=true:=by simp[V.fits,V.leafy]
 simp only[jL,jM,jA,jB,jN,jO,jP,jQ,V.undef]
 repeat (first|with_reducible refine bC ?_|with_reducible refine cR ?_|with_reducible refine dN ?_|with_reducible refine aJ ?_|with_reducible refine bN ?_|with_reducible refine bD ?_|with_reducible refine dS ?_)
 refine eH rfl (by simp only[hmf,go_sem,reduceIte,jA,jB,jC,jD,reduceCtorEq,jE,jF];try omega) ?_
 simp only[hmf,go_sem,reduceIte,jA,jB,jC,jD,reduceCtorEq,jE,jF]
 repeat (first|with_reducible refine bC ?_|with_reducible refine cR ?_|with_reducible refine dN ?_|with_reducible refine aJ ?_|with_reducible refine bN ?_|with_reducible refine bD ?_|with_reducible refine dS ?_)
 refine eH rfl (by simp only[hmf,go_sem,reduceIte,jA,jB,jC,jD,reduceCtorEq,jE,jF];try omega) ?_
 simp only[hmf,go_sem,reduceIte,jA,jB,jC,jD,reduceCtorEq,jE,jF]
 repeat (first|with_reducible refine bC ?_|with_reducible refine cR ?_|with_reducible refine dN ?_|with_reducible refine aJ ?_|with_reducible refine bN ?_|with_reducible refine bD ?_|with_reducible refine dS ?_)
 refine aU 3 rfl (by simp only[go_sem,reduceIte,jA,jB,jC,jD,reduceCtorEq,jE,jF]) ?_
 simp only[go_sem,reduceIte,jA,jB,jC,jD,reduceCtorEq,jE,jF]
 refine yP (by simp[aN.ev,V.fits,V.leafy]) ?_
 simp only[jL,jM,List.map_cons,List.map_nil,go_sem,reduceIte,jA,jB,jC,jD,reduceCtorEq,jE,jF]
 have hg0:(List.replicate n (V.sl (.agg 2) .nil [])).getD a (.tup [])= .sl (.agg 2) .nil []:=by
  rw[List.getD_eq_getElem?_getD,List.getElem?_replicate,if_pos ha];rfl
 have hst0:bO .leaf 0 (V.sl (.agg 2) .nil []) (.rs (nx+2) (.agg 2) 0 1)= .rs (nx+2) (.agg 2) 0 1:=cS rfl rfl
 (repeat' (first|(with_reducible first|refine stp ?_|refine uP (by decide) ?_|refine uQ (fun _=>?_) (fun _=>?_))|((first|(with_reducible refine uA ?_;first|refine uB rfl ?_ ?_|(first|refine uC rfl ?_|refine uD rfl ?_)|refine uE rfl ?_)|(with_reducible refine uF ?_;first|refine uG rfl ?_ ?_|(first|refine uH rfl ?_|refine uI rfl ?_)|refine uJ rfl ?_|refine uK (uL ?_)|refine uK (uM ?_))|(with_reducible refine uN ?_;refine uO rfl ?_))<;>try simp only[ha,List.length_replicate,hg0,hst0,go_sem,reduceIte,jA,jB,jC,jD,reduceCtorEq,jE,jF])|(with_reducible refine uR ?_;refine uS rfl ?_)|omega))
 obtain⟨mv,hmv⟩:∃mv:V,mv= .agg [.int .i64 (n:Int),wes ow l]:=⟨_,rfl⟩
 have F0:pF h' ((h'.set nx (.arr (.agg 2) [mv])).set (nx+1) (.arr .leaf (List.replicate n (.sl (.agg 2) .nil [])))) nx (nx+2) n mv (List.replicate n []) (fun _=>0):=by
  have hrep:∀k,(List.replicate n ([]:List Pa)).getD k []=[]:=fun k=>by rw[List.getD_eq_getElem?_getD,List.getElem?_replicate];split<;>rfl
  refine⟨by simp only[go_sem,reduceIte,jA,jB,jC,jD,reduceCtorEq,jE,jF],?_,fun k hk hne=>absurd (hrep k) hne,fun j k hj hk hjk hnj=>absurd (hrep j) hnj,(by(try dsimp only);repeat (first|exact aH.up hd (by omega)|refine aH.set2 ?_ (by omega) _|refine aH.del ?_|refine aH.delO ?_ _)),Nat.le_refl _,(by(try dsimp only);repeat (first|exact Hp.same.rfl'|refine aS ?_ (by omega) _|refine aT ?_ (by omega)))⟩
  simp only[go_sem,reduceIte,jA,jB,jC,jD,reduceCtorEq,jE,jF]
  congr 1
  refine List.ext_getElem (by simp[eJ]) fun i i1 i2=>?_
  simp only[eJ,List.getElem_map,List.getElem_range,hrep,List.getElem_replicate]
  rfl
 have hin:a<(List.replicate n ([]:List Pa)).length:=by simpa using ha
 have F1:=F0.put (by simp) ha [Pa.nought] (by simp) (x:=nx+2) (nx2:=nx+5) (by omega) (by omega) (hq:=((((h'.set nx (.arr (.agg 2) [mv])).set (nx+1) (.arr .leaf (List.replicate n (.sl (.agg 2) .nil [])))).set (nx+2) (.arr (.agg 2) [Pa.nought.v])).set (nx+1) (.arr .leaf ((List.replicate n (.sl (.agg 2) .nil [])).set a (.rs (nx+2) (.agg 2) 0 1)))).set (nx+4) .tip)
  (by simp only[List.map_cons,List.map_nil,go_sem,reduceIte,jA,jB,jC,jD,reduceCtorEq,jE,jF]) (by
    have:eJ n (fun _=>0) (List.replicate n [])=List.replicate n (.sl (.agg 2) .nil []):=by
     have:=F0.tab
     simp only[go_sem,reduceIte,jA,jB,jC,jD,reduceCtorEq,jE,jF] at this
     injection this with _ h2
     exact h2.symm
    simp only[this,jL,jM,go_sem,reduceIte,jA,jB,jC,jD,reduceCtorEq,jE,jF]) (fun y h1 h2 _ h4=>by
    have e1:(y=nx+4)=False:=eq_false (by omega)
    have e2:(y=nx+1)=False:=eq_false h2
    have e3:(y=nx+2)=False:=eq_false h1
    simp only[e1,e2,e3,go_sem,reduceIte,jA,jB,jC,jD,reduceCtorEq,jE,jF]) (by(try dsimp only);repeat (first|exact aH.up hd (by omega)|refine aH.set2 ?_ (by omega) _|refine aH.del ?_|refine aH.delO ?_ _))
 refine aP (fun q:List (List Pa)×(Nat→Nat)×List Nat×Nat=>aB 88 0 [(2, .ptr nx (.agg 2) 0 0),(5, .rs (nx+1) .leaf 0 n),(6,gD q.2.2.2 q.2.2.1)])
  (fun q hp nx1=>pF h' hp nx nx1 n mv q.1 q.2.1∧hp q.2.2.2=some .tip∧nx+2≤q.2.2.2∧q.2.2.2<nx1∧aDF l n a q.1 q.2.2.1∧coL q.1+q.2.2.1.length≤1000000000)
  (fun q=>coL q.1+q.2.2.1.length) ((List.replicate n []).set a [Pa.nought],(fun k=>if k=a then nx+2 else 0),[a],nx+4) ⟨?_,?_,by dsimp only;omega,by dsimp only;omega,aDF.first ha,?_⟩ ?_ ?_
 ·rw[←hmv];exact F1
 ·simp only[go_sem,reduceIte,jA,jB,jC,jD,reduceCtorEq,jE,jF]
 ·have:=aKZ ((List.replicate n ([]:List Pa)).set a [Pa.nought])
  simp only[List.length_set,List.length_replicate,jL,jM] at this⊢
  omega
 ·simp only[WkL,aB,jH,jI,jJ,gD,go_sem,reduceIte,jA,jB,jC,jD,reduceCtorEq,jE,jF]
 clear F0 F1 hg0 hst0
 rintro⟨out,ν,todo,id⟩ hp nx1 ⟨F,q2,q3,q4,W,q6⟩
 generalize hQ:bG _ _ _ _ _=Q0
 dsimp only at q2 q3 q4 q6 F W
 simp only[aB,go_sem,reduceIte,jA,jB,jC,jD,reduceCtorEq,jE,jF]
 have hbox:=F.box
 rw[hmv] at hbox
 have htab:=F.tab
 have hge:=F.ge
 cases todo with
 |nil=>
  have hc:decide ((0:Int)<((0:Nat):Int))=false:=by decide
  (repeat' (first|(with_reducible first|refine stp ?_|refine uP (by decide) ?_|refine uQ (fun _=>?_) (fun _=>?_))|((first|(with_reducible refine uA ?_;first|refine uB rfl ?_ ?_|(first|refine uC rfl ?_|refine uD rfl ?_)|refine uE rfl ?_)|(with_reducible refine uF ?_;first|refine uG rfl ?_ ?_|(first|refine uH rfl ?_|refine uI rfl ?_)|refine uJ rfl ?_|refine uK (uL ?_)|refine uK (uM ?_))|(with_reducible refine uN ?_;refine uO rfl ?_))<;>try simp only[gD,hc,jK,go_sem,reduceIte,jA,jB,jC,jD,reduceCtorEq,jE,jF])|(with_reducible refine uR ?_;refine uS rfl ?_)|omega))
  rw[←hQ]
  refine au ?_
  have hfl:kB n l a=out:=aFj W.len fun k hk=>W.done (fun w hw=>(hfit w hw).2.1) ha k
  have hol:=W.len
  refine aF hp (Hp.le_refl _) ⟨nx+1,ν,out.map (List.map Pa.v),eJ n ν out,?_,by omega,fun i hi hne=>?_,?_,F.same,by rw[hfl]⟩
  ·simp only[jK,hol,go_sem,reduceIte,jA,jB,jC,jD,reduceCtorEq,jE,jF]
  ·have hi':i<n:=by simpa [hol] using hi
   have hgi:out.getD i []=out[i]'(by omega):=by rw[List.getD_eq_getElem?_getD,List.getElem?_eq_getElem (by omega)];rfl
   have:=(F.row i hi' (by rw[hgi];intro e;exact hne (by simp[e]))).2.1
   omega
  have hgi:∀i (hi:i<n),out.getD i []=out[i]'(by omega):=fun i hi=>by rw[List.getD_eq_getElem?_getD,List.getElem?_eq_getElem (by omega)];rfl
  refine⟨htab,by rw[tA];simp[hol],fun i hi hi' h0=>absurd h0 (by omega),fun i hi hi' _=>?_,fun i hi _ hne=>?_,fun i i' hi hi' _ hlt hne hne'=>?_⟩
  ·have hin:i<n:=by simpa [hol] using hi
   simp only[eJ,List.getElem_map,List.getElem_range,hgi i hin]
  ·have hin:i<n:=by simpa [hol] using hi
   have:=F.row i hin (by rw[hgi i hin];intro e;exact hne (by simp[e]))
   rw[hgi i hin] at this
   exact⟨by rw[this.1];simp,by omega⟩
  have hin:i<n:=by simpa [hol] using hi
  have hin':i'<n:=by simpa [hol] using hi'
  exact F.apart i i' hin hin' (by omega) (by rw[hgi i hin];intro e;exact hne (by simp[e])) (by rw[hgi i' hin'];intro e;exact hne' (by simp[e]))
 |cons k rest=>
  have hk:k<n:=W.lt k (by simp)
  have hget:=aBe (ν:=ν) (out:=out) hk
  have hlenk:=tA n ν out
  have hfitp:=aCf (ν k) (out.getD k [])
  have hcanl:(out.getD k []).length≤1000:=Nat.le_trans (pC (W.can k)) (by omega)
  have hcl:=aIm F hk hcanl q2 q4
  (repeat' (first|(with_reducible first|refine stp ?_|refine uP (by decide) ?_|refine uQ (fun _=>?_) (fun _=>?_))|((first|(with_reducible refine uA ?_;first|refine uB rfl ?_ ?_|(first|refine uC rfl ?_|refine uD rfl ?_)|refine uE rfl ?_)|(with_reducible refine uF ?_;first|refine uG rfl ?_ ?_|(first|refine uH rfl ?_|refine uI rfl ?_)|refine uJ rfl ?_|refine uK (uL ?_)|refine uK (uM ?_))|(with_reducible refine uN ?_;refine uO rfl ?_))<;>try simp only[gD,aKS,aGv,hbox,htab,hk,hget,hlenk,hfitp,jK,jG,go_sem,reduceIte,jA,jB,jC,jD,reduceCtorEq,jE,jF])|(with_reducible refine uR ?_;refine uS rfl ?_)|omega))
  refine bS (hcl.mono ?_)
  rintro v2 hq nx2 hnx2 ⟨o8,rfl,F2,q2b,q4b⟩
  unfold dV
  have hfl:List.take rest.length (rest.map fun x:Nat=>V.int .i64 (x:Int))=rest.map fun x:Nat=>V.int .i64 (x:Int):=List.take_of_length_le (by simp)
  have hbox2:=F2.box
  rw[hmv] at hbox2
  have hpl:=pC (W.can k)
  have WI:=W.begin
  obtain⟨paths,hpaths⟩:∃paths,paths=out.getD k []:=⟨_,rfl⟩
  rw[←hpaths] at hpl WI⊢
  simp only[hfl,go_sem,reduceIte,jA,jB,jC,jD,reduceCtorEq,jE,jF]
  refine aue hbox2 ?_
  refine aP (fun q:Nat×List (List Pa)×(Nat→Nat)×List Nat×Nat=>aB 88 0 [(2, .ptr nx (.agg 2) 0 0),(5, .rs (nx+1) .leaf 0 n),(6,gD q.2.2.2.2 q.2.2.2.1),(7, .int .i64 k),(8,pas o8 paths),(40,wes ow l),(41, .int .i64 l.length),(42, .int .i64 q.1)])
   (fun q hp nx1=>q.1≤l.length∧pF h' hp nx nx1 n mv q.2.1 q.2.2.1∧hp q.2.2.2.2=some .tip∧nx+2≤q.2.2.2.2∧q.2.2.2.2<nx1∧mM l n a k paths (fun w _=>w∈l.take q.1) q.2.1 q.2.2.2.1∧coL q.2.1+q.2.2.2.1.length≤coL out+rest.length)
   (fun q=>l.length-q.1) (0,out,ν,rest,id) ⟨Nat.zero_le _,F2,q2b,q3,q4b,WI.more (fun w hw p hp h=>by simp at h),Nat.le_refl _⟩ ?_ ?_
  ·simp only[WkL,aB,jH,jI,jJ,gD,pas,wes,go_sem,reduceIte,jA,jB,jC,jD,reduceCtorEq,jE,jF]
  rintro⟨j,out3,ν3,rest3,id3⟩ hp3 nx3 ⟨r1,F3,r2,r3,r4,W3,r6⟩
  generalize hQ3:bG _ _ _ _ _=Q3
  dsimp only at r1 r2 r3 r4 r6 F3 W3
  simp only[aB,go_sem,reduceIte,jA,jB,jC,jD,reduceCtorEq,jE,jF]
  rcases Nat.lt_or_ge j l.length with hlt|hge3
  ·have hc:decide ((j:Int)<(l.length:Int))=true:=decide_eq_true (by omega)
   have hg:(l.map We.v).getD j (.tup [])=l[j].v:=bE We.v l j hlt
   have hw:IntKind.i64.wrap ((j:Int)+1)=((j+1:Nat):Int):=by rw[aV]<;>omega
   have htk:l.take (j+1)=l.take j++[l[j]]:=List.take_succ_eq_append_getElem hlt
   have hge:=F3.ge
   have hwf:=hfit l[j] (List.getElem_mem _)
   by_cases hfk:l[j].f=k
   ·have hcf:((l[j].f:Int) != (k:Int))=false:=by simp[hfk]
    refine aue (ee6 hc hg hw hlt hcf We.v.eq_1) ?_
    obtain⟨bA,hbA⟩:∃bA:Blk,bA= .arr (.agg 4) [V.agg [V.int IntKind.i64 0,V.int IntKind.i64 0,V.bool false,V.int IntKind.i64 0]]:=⟨_,rfl⟩
    have F4:pF h' ((hp3.set nx3 bA).set nx3 (.arr (.agg 4) [l[j].v])) nx (nx3+2) n mv out3 ν3:=(F3.box' (x:=nx3) (Nat.le_refl _) (nx2:=nx3+2) (by omega) _).again (by omega) (by omega) (fun k hk hne=>by have:=(F3.row k hk hne).2.2;omega) _
    rw[←hbA]
    have e1:(id3=nx3)=False:=eq_false (by omega)
    refine aP (fun q:Nat×List (List Pa)×(Nat→Nat)×List Nat×Nat=>aB 88 0 [(2, .ptr nx (.agg 2) 0 0),(5, .rs (nx+1) .leaf 0 n),(6,gD q.2.2.2.2 q.2.2.2.1),(7, .int .i64 k),(8,pas o8 paths),(10, .ptr nx3 (.agg 4) 0 0),(40,wes ow l),(41, .int .i64 l.length),(42, .int .i64 j),(50,pas o8 paths),(51, .int .i64 paths.length),(52, .int .i64 q.1)])
     (fun q hp nx1=>q.1≤paths.length∧pF h' hp nx nx1 n mv q.2.1 q.2.2.1∧hp q.2.2.2.2=some .tip∧nx+2≤q.2.2.2.2∧q.2.2.2.2<nx1∧hp nx3=some (.arr (.agg 4) [l[j].v])∧nx3+2≤nx1∧(∀k,k<n→q.2.1.getD k []≠ []→q.2.2.1 k≠nx3)∧mM l n a k paths (fun w p=>w∈l.take j∨(w=l[j]∧p∈paths.take q.1)) q.2.1 q.2.2.2.1∧coL q.2.1+q.2.2.2.1.length≤coL out+rest.length)
     (fun q=>paths.length-q.1) (0,out3,ν3,rest3,id3) ⟨Nat.zero_le _,F4,by simp only[e1,r2,go_sem,reduceIte,jA,jB,jC,jD,reduceCtorEq,jE,jF],r3,by dsimp only;omega,by simp only[We.v,go_sem,reduceIte,jA,jB,jC,jD,reduceCtorEq,jE,jF],Nat.le_refl _,fun k hk hne=>by have:=(F3.row k hk hne).2.2;dsimp only;omega,W3.more (fun w hw p hp h hf=> .inl (h.elim (fun h=>h) fun h=>by simp at h)),r6⟩ ?_ ?_
    ·have e50:paths.length=(paths.map Pa.v).length:=by simp
     simp only[WkL,aB,jH,jI,jJ,gD,pas,wes,jK,We.v,go_sem,reduceIte,jA,jB,jC,jD,reduceCtorEq,jE,jF]
    rintro⟨i,out4,ν4,rest4,id4⟩ hp4 nx4 ⟨s1,F5,s2,s3,s4,s5,s6,s7,W4,s8⟩
    generalize hQ4:bG _ _ _ _ _=Q4
    dsimp only at s1 s2 s3 s4 s5 s6 s7 s8 F5 W4
    simp only[aB,go_sem,reduceIte,jA,jB,jC,jD,reduceCtorEq,jE,jF]
    have htab4:=F5.tab
    have hge4:=F5.ge
    rcases Nat.lt_or_ge i paths.length with hlt4|hge5
    ·have hc:decide ((i:Int)<(paths.length:Int))=true:=decide_eq_true (by omega)
     have hg4:(paths.map Pa.v).getD i (.tup [])=paths[i].v:=bE Pa.v paths i hlt4
     have hw4:IntKind.i64.wrap ((i:Int)+1)=((i+1:Nat):Int):=by rw[aV]<;>omega
     have hti:l[j].t<n:=hwf.2.1
     have hthn:=Pa.then_thn paths[i] l[j].p
     have htk4:paths.take (i+1)=paths.take i++[paths[i]]:=List.take_succ_eq_append_getElem hlt4
     have hpi:paths[i]∈paths:=List.getElem_mem _
     have hwj:l[j]∈l:=List.getElem_mem _
     have hlp:=iE (k:=Sh.agg 2) (Pa.fits_v paths[i])
     have hfp:=Pa.fits_v paths[i]
     have hft:=Pa.fits_v (paths[i].then l[j].p).1
     have hget:=aBe (ν:=ν4) (out:=out4) hti
     have hlenk:=tA n ν4 out4
     have hfitp:=aCf (ν4 l[j].t) (out4.getD l[j].t [])
     have n1:(nx=nx4+1)=False:=eq_false (by omega)
     have n2:(nx+1=nx4)=False:=eq_false (by omega)
     have n3:nx+1<nx4:=by omega
     have n4:nx3<nx4:=by omega
     have n5:(nx3=nx4)=False:=eq_false (by omega)
     have n6:(nx3=nx4+2)=False:=eq_false (by omega)
     have i1:(id4=nx4)=False:=eq_false (by omega)
     have i2:(id4=nx4+2)=False:=eq_false (by omega)
     have n7:((0:Int)≤(i:Int))=True:=eq_true (by omega)
     have n8:((i:Int)<(paths.length:Int))=True:=eq_true (by omega)
     have n9:((0:Int)≤(l[j].t:Int))=True:=eq_true (by omega)
     have n10:((l[j].t:Int)<(n:Int))=True:=eq_true (by omega)
     by_cases he:(paths[i].then l[j].p).2=0
     ·rw[if_pos he] at hthn
      have hce:decide ((paths[i].then l[j].p).2=0)=true:=decide_eq_true he
      obtain⟨r,hr⟩:∃r,r=(paths[i].then l[j].p).1:=⟨_,rfl⟩
      rw[←hr] at hthn hft
      have hfr:=Pa.fits_v r
      by_cases hdo:kU (out4.getD l[j].t []) r
      ·(repeat' (first|(with_reducible first|refine stp ?_|refine uP (by decide) ?_|refine uQ (fun _=>?_) (fun _=>?_))|((first|(with_reducible refine uA ?_;first|refine uB rfl ?_ ?_|refine aM (oJ paths[i] l[j].p _) rfl (aO _) ?_|(first|refine uC rfl ?_|refine uD rfl ?_)|refine uE rfl ?_)|(with_reducible refine uF ?_;first|refine uG rfl ?_ ?_|(first|refine uH rfl ?_|refine uI rfl ?_)|refine uJ rfl ?_|refine uK (uL ?_)|refine uK (uM ?_))|(with_reducible refine uN ?_;refine uO rfl ?_))<;>try simp only[hc,hg4,hlt4,hw4,hce,oH,hlp,hfp,hft,hget,hlenk,hti,hfitp,n1,n2,n3,n4,n5,n6,n7,n8,n9,n10,and_self,and_true,true_and,s5,s6,htab4,We.v,←hr,jK,jG,go_sem,reduceIte,jA,jB,jC,jD,reduceCtorEq,jE,jF])|(with_reducible refine uR ?_;refine uS rfl ?_)|omega))
       have hne4:out4.getD l[j].t []≠ []:=fun e=>by obtain⟨q,hq,_⟩:=hdo;rw[e] at hq;cases hq
       have hrow4:=(F5.row _ hti hne4).1
       have hl4:=pC (W4.can l[j].t)
       have hst:bO .leaf 0 (kO (ν4 l[j].t) (out4.getD l[j].t [])) (kO (ν4 l[j].t) (out4.getD l[j].t []))=kO (ν4 l[j].t) (out4.getD l[j].t []):=cS hfitp hfitp
       have hself:(eJ n ν4 out4).set l[j].t (kO (ν4 l[j].t) (out4.getD l[j].t []))=eJ n ν4 out4:=by
        refine List.ext_getElem (by simp) fun i i1 i2=>?_
        rw[List.getElem_set]
        split
        ·rename_i e
         subst e
         rw[←hget,List.getD_eq_getElem?_getD,List.getElem?_eq_getElem i2];rfl
        rfl
       have hsame:∀hx:Hp,(hx (nx+1)=some (.arr .leaf (eJ n ν4 out4)))→hx.set (nx+1) (.arr .leaf (eJ n ν4 out4))=hx:=fun hx e=>by
        funext y;unfold Hp.set;split
        ·rename_i e';subst e';exact e.symm
        rfl
       refine mE (aEp (ν4 l[j].t) (out4.getD l[j].t []) r (by omega) hdo (Hp.set (fun _=>none) (ν4 l[j].t) (.arr (.agg 2) ((out4.getD l[j].t []).map Pa.v))) ?_) rfl ?_ ?_
       ·simp only[go_sem,reduceIte,jA,jB,jC,jD,reduceCtorEq,jE,jF]
       ·intro y es e _
        unfold Hp.set at e
        split at e
        ·rename_i ey
         have h1:=(F5.row _ hti hne4).2.2
         have m1:(ν4 l[j].t=nx4)=False:=eq_false (by omega)
         have m2:(ν4 l[j].t=nx4+2)=False:=eq_false (by omega)
         rw[←e,ey]
         simp only[iF,m1,m2,hrow4,go_sem,reduceIte,jA,jB,jC,jD,reduceCtorEq,jE,jF]
        cases e
       simp only[go_sem,reduceIte,jA,jB,jC,jD,reduceCtorEq,jE,jF]
       refine aue and_self ?_
       refine oW (es:=eJ n ν4 out4) rfl (rM (by omega) (by simp only[n1,n2,htab4,go_sem,reduceIte,jA,jB,jC,jD,reduceCtorEq,jE,jF]) (by simp only[cJ])) (by rw[hlenk];exact hti) (by first|exact iU _|simp only[go_sem,reduceIte,jA,jB,jC,jD,reduceCtorEq,jE,jF]) hfitp ?_
       simp only[hget,hst,hself,jG,go_sem,reduceIte,jA,jB,jC,jD,reduceCtorEq,jE,jF]
       refine aue (aKn hget hlenk hti hfitp n1 n2 n3 n4 n5 n6 n9 n10 and_self and_true true_and htab4) ?_
       rw[←hQ4,hsame _ (by simp only[n1,n2,htab4,go_sem,reduceIte,jA,jB,jC,jD,reduceCtorEq,jE,jF])]
       have FB:=((((F5.box' (x:=nx4) (Nat.le_refl _) (nx2:=nx4+20) (by omega) (.arr (.agg 2) [V.agg [V.bool false,V.int IntKind.i64 0]])).again (by omega) (by omega) (fun k hk hne=>by have:=(F5.row k hk hne).2.2;omega) (.arr (.agg 2) [paths[i].v])).again (x:=nx4+2) (by omega) (by omega) (fun k hk hne=>by have:=(F5.row k hk hne).2.2;omega) (.arr (.agg 2) [V.agg [V.bool false,V.int IntKind.i64 0]])).again (x:=nx4+2) (by omega) (by omega) (fun k hk hne=>by have:=(F5.row k hk hne).2.2;omega) (.arr (.agg 2) [r.v]))
       refine aC (i+1,out4,ν4,rest4,id4) (by dsimp only;omega) ⟨hlt4,FB,by simp only[i1,i2,s2,go_sem,reduceIte,jA,jB,jC,jD,reduceCtorEq,jE,jF],s3,by dsimp only;omega,by simp only[n5,n6,s5,go_sem,reduceIte,jA,jB,jC,jD,reduceCtorEq,jE,jF],by omega,fun k hk hne=>s7 k hk hne,W4.more (fun w hw p hp h hf=>?_),s8⟩ ?_
       ·rcases h with h|⟨h1,h2⟩
        ·exact .inl (.inl h)
        dsimp only at h2
        rw[htk4] at h2
        rcases List.mem_append.1 h2 with h|h
        ·exact .inl (.inr ⟨h1,h⟩)
        refine .inr fun r' hr'=>?_
        rw[h1,List.mem_singleton.1 h,hthn] at hr'
        injection hr' with hr'
        rw[h1,←hr']
        exact hdo
       simp only[WkL,aB,jH,jI,jJ,gD,pas,wes,hw4,go_sem,reduceIte,jA,jB,jC,jD,reduceCtorEq,jE,jF]
      have hl4:=pC (W4.can l[j].t)
      by_cases hne4:out4.getD l[j].t []=[]
      --PUT0
      ·have hpy:=aGP (ν4 l[j].t) (out4.getD l[j].t []) r (W4.can _) (by omega) hdo ((((hp4.set nx4 (.arr (.agg 2) [V.agg [V.bool false,V.int .i64 0]])).set nx4 (.arr (.agg 2) [paths[i].v])).set (nx4+2) (.arr (.agg 2) [V.agg [V.bool false,V.int .i64 0]])).set (nx4+2) (.arr (.agg 2) [r.v]))
        (fun hne=>absurd hne4 hne)
       rw[if_pos hne4] at hpy
       (repeat' (first|(with_reducible first|refine stp ?_|refine uP (by decide) ?_|refine uQ (fun _=>?_) (fun _=>?_))|((first|(with_reducible refine uA ?_;first|refine uB rfl ?_ ?_|refine aM (oJ paths[i] l[j].p _) rfl (aO _) ?_|(first|refine uC rfl ?_|refine uD rfl ?_)|refine uE rfl ?_)|(with_reducible refine uF ?_;first|refine uG rfl ?_ ?_|(first|refine uH rfl ?_|refine uI rfl ?_)|refine uJ rfl ?_|refine uK (uL ?_)|refine uK (uM ?_))|(with_reducible refine uN ?_;refine uO rfl ?_))<;>try simp only[hc,hg4,hlt4,hw4,hce,oH,hlp,hfp,hft,hfr,hget,hlenk,hti,hfitp,n1,n2,n3,n4,n5,n6,n7,n8,n9,n10,and_self,and_true,true_and,s5,s6,htab4,We.v,←hr,jK,jG,go_sem,reduceIte,jA,jB,jC,jD,reduceCtorEq,jE,jF])|(with_reducible refine uR ?_;refine uS rfl ?_)|omega))
       refine aAK hpy rfl (fun c' ec=>by cases ec) trivial ?_
       simp only[go_sem,reduceIte,jA,jB,jC,jD,reduceCtorEq,jE,jF]
       refine aue and_self ?_
       refine oW (es:=eJ n ν4 out4) rfl (rM (by omega) (by simp only[n1,n2,htab4,go_sem,reduceIte,jA,jB,jC,jD,reduceCtorEq,jE,jF]) (by simp only[cJ])) (by rw[hlenk];exact hti) (by first|exact iU _|simp only[go_sem,reduceIte,jA,jB,jC,jD,reduceCtorEq,jE,jF]) rfl ?_
       have hst:∀x L,bO .leaf 0 (kO (ν4 l[j].t) (out4.getD l[j].t [])) (.rs x (.agg 2) 0 L)= .rs x (.agg 2) 0 L:=fun x L=>cS hfitp rfl
       simp only[hget,hst,jG,go_sem,reduceIte,jA,jB,jC,jD,reduceCtorEq,jE,jF]
       have k1:(id4=nx+1)=False:=eq_false (fun e=>by rw[e,htab4] at s2;cases s2)
       have k3:(nx3=nx+1)=False:=eq_false (by omega)
       have k5:(id4=nx4+13)=False:=eq_false (by omega)
       have k6:(id4=nx4+20)=False:=eq_false (by omega)
       have hrl:rest4.length≤1000000000:=by simp only[jL] at q6;omega
       have hrl2:(rest4.length+1)*8≤140737488355328:=by omega
       (repeat' (first|(with_reducible first|refine stp ?_|refine uP (by decide) ?_|refine uQ (fun _=>?_) (fun _=>?_))|((first|(with_reducible refine uA ?_;first|refine uB rfl ?_ ?_|refine qE rfl rfl (by simp only[n1,n2,n3,n4,n5,n6,n9,n10,k1,k3,k5,i1,i2,s2,s4,s5,s6,hrl2,gD,We.v,jK,and_self,and_true,true_and,n1,n2,n3,n4,n5,n6,n9,n10,k1,k3,k5,i1,i2,s2,s4,s5,s6,hrl2,gD,We.v,jK,and_self,and_true,true_and,go_sem,reduceIte,jA,jB,jC,jD,reduceCtorEq,jE,jF];try omega) ?_|(first|refine uC rfl ?_|refine uD rfl ?_)|refine uE rfl ?_)|(with_reducible refine uF ?_;first|refine uG rfl ?_ ?_|(first|refine uH rfl ?_|refine uI rfl ?_)|refine uJ rfl ?_|refine uK (uL ?_)|refine uK (uM ?_))|(with_reducible refine uN ?_;refine uO rfl ?_))<;>try simp only[n1,n2,n3,n4,n5,n6,n9,n10,k1,k3,k5,i1,i2,s2,s4,s5,s6,hrl2,gD,We.v,jK,and_self,and_true,true_and,go_sem,reduceIte,jA,jB,jC,jD,reduceCtorEq,jE,jF])|(with_reducible refine uR ?_;refine uS rfl ?_)|omega))
       rw[←hQ4]
       have hx0:nx4+13<nx4+20:=by omega
       have p1:(nx4+13=nx+1)=False:=eq_false (by omega)
       have p2:(nx4+12=nx)=False:=eq_false (by omega)
       have hnil:fP (out4.getD l[j].t []) r≠ []:=by unfold fP;split<;>simp
       have FA:=F5.put W4.len hti (fP (out4.getD l[j].t []) r) hnil (x:=nx4+13) (nx2:=nx4+20) (by omega) hx0 (hq:=((((((hp4.set nx4 (.arr (.agg 2) [V.agg [V.bool false,V.int .i64 0]])).set nx4 (.arr (.agg 2) [paths[i].v])).set (nx4+2) (.arr (.agg 2) [V.agg [V.bool false,V.int .i64 0]])).set (nx4+2) (.arr (.agg 2) [r.v])).set (nx4+13) (.arr (.agg 2) ((fP (out4.getD l[j].t []) r).map Pa.v)))).set (nx+1) (.arr .leaf ((eJ n ν4 out4).set l[j].t (.rs (nx4+13) (.agg 2) 0 (fP (out4.getD l[j].t []) r).length))))
        (by simp only[p1,p2,go_sem,reduceIte,jA,jB,jC,jD,reduceCtorEq,jE,jF]) (by simp only[go_sem,reduceIte,jA,jB,jC,jD,reduceCtorEq,jE,jF]) (fun y y1 y2 y3 y4=>by
          have z1:(y=nx4)=False:=eq_false (by omega)
          have z2:(y=nx4+2)=False:=eq_false (by omega)
          have z3:(y=nx4+13)=False:=eq_false (by omega)
          have z4:(y=nx+1)=False:=eq_false y2
          simp only[z1,z2,z3,z4,go_sem,reduceIte,jA,jB,jC,jD,reduceCtorEq,jE,jF]) (by(try dsimp only);repeat (first|exact aH.up F5.dom (by omega)|refine aH.set2 ?_ (by omega) _|refine aH.del ?_|refine aH.delO ?_ _))
       have FB:=((FA.box' (x:=nx4+20) (Nat.le_refl _) (nx2:=nx4+21) (by omega) .tip).del (id:=id4) (by simp only[i1,i2,k1,k5,k6,s2,go_sem,reduceIte,jA,jB,jC,jD,reduceCtorEq,jE,jF]) s3).box' (x:=nx4+21) (Nat.le_refl _) (nx2:=nx4+22) (by omega) .tip
       have hco:=aHg (by rw[W4.len];exact hti) (aJy (fun x hx=>(W4.val l[j].t x hx).ok) ((hfk▸W4.pv _ hpi:Val l a l[j].f paths[i]).step hwj hthn).ok hdo)
       have WP:=W4.put hwj hfk hti hpi hthn hdo
       have k7:(nx3=id4)=False:=eq_false (fun e=>by rw[←e,s5] at s2;cases s2)
       have k8:(nx3=nx4+13)=False:=eq_false (by omega)
       have k9:(nx3=nx4+20)=False:=eq_false (by omega)
       have k10:(nx3=nx4+21)=False:=eq_false (by omega)
       refine aC (i+1,out4.set l[j].t (fP (out4.getD l[j].t []) r),(fun k=>if k=l[j].t then nx4+13 else ν4 k),rest4++[l[j].t],nx4+21) (by dsimp only;omega) ⟨hlt4,FB,by simp only[go_sem,reduceIte,jA,jB,jC,jD,reduceCtorEq,jE,jF],by dsimp only;omega,by dsimp only;omega,by simp only[n5,n6,k3,k7,k8,k9,k10,s5,go_sem,reduceIte,jA,jB,jC,jD,reduceCtorEq,jE,jF],by(try dsimp only);omega,fun k' hk' hne=>?_,WP.more (fun w hw p hp h hf=> .inl ?_),by simp only[List.length_append,jL,jM];omega⟩ ?_
       ·dsimp only
        dsimp only at hne
        split
        ·omega
        rename_i hkt
        rw[lK _ _ _ _ _ (by rw[W4.len];exact hti),if_neg hkt] at hne
        exact s7 k' hk' hne
       ·rcases h with h|⟨h1,h2⟩
        ·exact .inl (.inl h)
        dsimp only at h2
        rw[htk4] at h2
        rcases List.mem_append.1 h2 with h|h
        ·exact .inl (.inr ⟨h1,h⟩)
        exact .inr ⟨h1,List.mem_singleton.1 h⟩
       simp only[WkL,aB,jH,jI,jJ,gD,pas,wes,hw4,List.map_append,List.map_cons,List.map_nil,go_sem,reduceIte,jA,jB,jC,jD,reduceCtorEq,jE,jF]
      ·have hrow4:=(F5.row _ hti hne4).1
       have hν4:=(F5.row _ hti hne4).2
       have m1:(ν4 l[j].t=nx4)=False:=eq_false (by omega)
       have m2:(ν4 l[j].t=nx4+2)=False:=eq_false (by omega)
       have hpy:=aGP (ν4 l[j].t) (out4.getD l[j].t []) r (W4.can _) (by omega) hdo ((((hp4.set nx4 (.arr (.agg 2) [V.agg [V.bool false,V.int .i64 0]])).set nx4 (.arr (.agg 2) [paths[i].v])).set (nx4+2) (.arr (.agg 2) [V.agg [V.bool false,V.int .i64 0]])).set (nx4+2) (.arr (.agg 2) [r.v]))
        (fun _=>by simp only[m1,m2,hrow4,go_sem,reduceIte,jA,jB,jC,jD,reduceCtorEq,jE,jF])
       rw[if_neg hne4] at hpy
       (repeat' (first|(with_reducible first|refine stp ?_|refine uP (by decide) ?_|refine uQ (fun _=>?_) (fun _=>?_))|((first|(with_reducible refine uA ?_;first|refine uB rfl ?_ ?_|refine aM (oJ paths[i] l[j].p _) rfl (aO _) ?_|(first|refine uC rfl ?_|refine uD rfl ?_)|refine uE rfl ?_)|(with_reducible refine uF ?_;first|refine uG rfl ?_ ?_|(first|refine uH rfl ?_|refine uI rfl ?_)|refine uJ rfl ?_|refine uK (uL ?_)|refine uK (uM ?_))|(with_reducible refine uN ?_;refine uO rfl ?_))<;>try simp only[hc,hg4,hlt4,hw4,hce,oH,hlp,hfp,hft,hfr,hget,hlenk,hti,hfitp,n1,n2,n3,n4,n5,n6,n7,n8,n9,n10,and_self,and_true,true_and,s5,s6,htab4,We.v,←hr,jK,jG,go_sem,reduceIte,jA,jB,jC,jD,reduceCtorEq,jE,jF])|(with_reducible refine uR ?_;refine uS rfl ?_)|omega))
       refine aAK hpy rfl (fun c' ec x hx m k i o ex=>?_) (rM (by dsimp only;omega) (by simp only[m1,m2,hrow4,go_sem,reduceIte,jA,jB,jC,jD,reduceCtorEq,jE,jF]) (by simp only[cJ])) ?_
       ·rw[List.mem_singleton.1 hx] at ex
        injection ec with ec
        subst ec
        injection ex with ex
        dsimp only
        exact ex▸(s7 _ hti hne4).symm
       simp only[go_sem,reduceIte,jA,jB,jC,jD,reduceCtorEq,jE,jF]
       refine aue and_self ?_
       have m3:(ν4 l[j].t=nx+1)=False:=eq_false (by omega)
       have m4:(nx+1=ν4 l[j].t)=False:=eq_false (by omega)
       have m5:nx+1≠ν4 l[j].t:=by omega
       refine oW (es:=eJ n ν4 out4) rfl (rM (by omega) (by simp only[n1,n2,htab4,go_sem,reduceIte,jA,jB,jC,jD,reduceCtorEq,jE,jF]) ⟨m5,(by simp only[cJ])⟩) (by rw[hlenk];exact hti) (by first|exact iU _|simp only[go_sem,reduceIte,jA,jB,jC,jD,reduceCtorEq,jE,jF]) rfl ?_
       have hst:∀x L,bO .leaf 0 (kO (ν4 l[j].t) (out4.getD l[j].t [])) (.rs x (.agg 2) 0 L)= .rs x (.agg 2) 0 L:=fun x L=>cS hfitp rfl
       simp only[hget,hst,jG,go_sem,reduceIte,jA,jB,jC,jD,reduceCtorEq,jE,jF]
       have k1:(id4=nx+1)=False:=eq_false (fun e=>by rw[e,htab4] at s2;cases s2)
       have k2:(id4=ν4 l[j].t)=False:=eq_false (fun e=>by rw[e,hrow4] at s2;cases s2)
       have k3:(nx3=nx+1)=False:=eq_false (by omega)
       have k4:(nx3=ν4 l[j].t)=False:=eq_false (s7 _ hti hne4).symm
       have k5:(id4=nx4+13)=False:=eq_false (by omega)
       have k6:(id4=nx4+20)=False:=eq_false (by omega)
       have hrl:rest4.length≤1000000000:=by simp only[jL] at q6;omega
       have hrl2:(rest4.length+1)*8≤140737488355328:=by omega
       (repeat' (first|(with_reducible first|refine stp ?_|refine uP (by decide) ?_|refine uQ (fun _=>?_) (fun _=>?_))|((first|(with_reducible refine uA ?_;first|refine uB rfl ?_ ?_|refine qE rfl rfl (by simp only[n1,n2,n3,n4,n5,n6,n9,n10,k1,k3,k2,k4,k5,i1,i2,s2,s4,s5,s6,hrl2,gD,We.v,jK,and_self,and_true,true_and,n1,n2,n3,n4,n5,n6,n9,n10,k1,k3,k2,k4,k5,i1,i2,s2,s4,s5,s6,hrl2,gD,We.v,jK,and_self,and_true,true_and,go_sem,reduceIte,jA,jB,jC,jD,reduceCtorEq,jE,jF];try omega) ?_|(first|refine uC rfl ?_|refine uD rfl ?_)|refine uE rfl ?_)|(with_reducible refine uF ?_;first|refine uG rfl ?_ ?_|(first|refine uH rfl ?_|refine uI rfl ?_)|refine uJ rfl ?_|refine uK (uL ?_)|refine uK (uM ?_))|(with_reducible refine uN ?_;refine uO rfl ?_))<;>try simp only[n1,n2,n3,n4,n5,n6,n9,n10,k1,k3,k2,k4,k5,i1,i2,s2,s4,s5,s6,hrl2,gD,We.v,jK,and_self,and_true,true_and,go_sem,reduceIte,jA,jB,jC,jD,reduceCtorEq,jE,jF])|(with_reducible refine uR ?_;refine uS rfl ?_)|omega))
       rw[←hQ4]
       have hx0:nx4+13<nx4+20:=by omega
       have p1:(nx4+13=nx+1)=False:=eq_false (by omega)
       have p2:(nx4+12=nx)=False:=eq_false (by omega)
       have p3:(nx4+13=ν4 l[j].t)=False:=eq_false (by omega)
       have hnil:fP (out4.getD l[j].t []) r≠ []:=by unfold fP;split<;>simp
       have FA:=F5.put W4.len hti (fP (out4.getD l[j].t []) r) hnil (x:=nx4+13) (nx2:=nx4+20) (by omega) hx0 (hq:=((((((hp4.set nx4 (.arr (.agg 2) [V.agg [V.bool false,V.int .i64 0]])).set nx4 (.arr (.agg 2) [paths[i].v])).set (nx4+2) (.arr (.agg 2) [V.agg [V.bool false,V.int .i64 0]])).set (nx4+2) (.arr (.agg 2) [r.v])).set (nx4+13) (.arr (.agg 2) ((fP (out4.getD l[j].t []) r).map Pa.v))).del (ν4 l[j].t)).set (nx+1) (.arr .leaf ((eJ n ν4 out4).set l[j].t (.rs (nx4+13) (.agg 2) 0 (fP (out4.getD l[j].t []) r).length))))
        (by simp only[p1,p2,p3,go_sem,reduceIte,jA,jB,jC,jD,reduceCtorEq,jE,jF]) (by simp only[go_sem,reduceIte,jA,jB,jC,jD,reduceCtorEq,jE,jF]) (fun y y1 y2 y3 y4=>by
          have z1:(y=nx4)=False:=eq_false (by omega)
          have z2:(y=nx4+2)=False:=eq_false (by omega)
          have z3:(y=nx4+13)=False:=eq_false (by omega)
          have z4:(y=nx+1)=False:=eq_false y2
          have z5:(y=ν4 l[j].t)=False:=eq_false (y3 hne4)
          simp only[z1,z2,z3,z4,z5,go_sem,reduceIte,jA,jB,jC,jD,reduceCtorEq,jE,jF]) (by(try dsimp only);repeat (first|exact aH.up F5.dom (by omega)|refine aH.set2 ?_ (by omega) _|refine aH.del ?_|refine aH.delO ?_ _))
       have FB:=((FA.box' (x:=nx4+20) (Nat.le_refl _) (nx2:=nx4+21) (by omega) .tip).del (id:=id4) (by simp only[i1,i2,k1,k2,k5,k6,s2,go_sem,reduceIte,jA,jB,jC,jD,reduceCtorEq,jE,jF]) s3).box' (x:=nx4+21) (Nat.le_refl _) (nx2:=nx4+22) (by omega) .tip
       have hco:=aHg (by rw[W4.len];exact hti) (aJy (fun x hx=>(W4.val l[j].t x hx).ok) ((hfk▸W4.pv _ hpi:Val l a l[j].f paths[i]).step hwj hthn).ok hdo)
       have WP:=W4.put hwj hfk hti hpi hthn hdo
       have k7:(nx3=id4)=False:=eq_false (fun e=>by rw[←e,s5] at s2;cases s2)
       have k8:(nx3=nx4+13)=False:=eq_false (by omega)
       have k9:(nx3=nx4+20)=False:=eq_false (by omega)
       have k10:(nx3=nx4+21)=False:=eq_false (by omega)
       refine aC (i+1,out4.set l[j].t (fP (out4.getD l[j].t []) r),(fun k=>if k=l[j].t then nx4+13 else ν4 k),rest4++[l[j].t],nx4+21) (by dsimp only;omega) ⟨hlt4,FB,by simp only[go_sem,reduceIte,jA,jB,jC,jD,reduceCtorEq,jE,jF],by dsimp only;omega,by dsimp only;omega,by simp only[n5,n6,k3,k4,k7,k8,k9,k10,s5,go_sem,reduceIte,jA,jB,jC,jD,reduceCtorEq,jE,jF],by(try dsimp only);omega,fun k' hk' hne=>?_,WP.more (fun w hw p hp h hf=> .inl ?_),by simp only[List.length_append,jL,jM];omega⟩ ?_
       ·dsimp only
        dsimp only at hne
        split
        ·omega
        rename_i hkt
        rw[lK _ _ _ _ _ (by rw[W4.len];exact hti),if_neg hkt] at hne
        exact s7 k' hk' hne
       ·rcases h with h|⟨h1,h2⟩
        ·exact .inl (.inl h)
        dsimp only at h2
        rw[htk4] at h2
        rcases List.mem_append.1 h2 with h|h
        ·exact .inl (.inr ⟨h1,h⟩)
        exact .inr ⟨h1,List.mem_singleton.1 h⟩
       simp only[WkL,aB,jH,jI,jJ,gD,pas,wes,hw4,List.map_append,List.map_cons,List.map_nil,go_sem,reduceIte,jA,jB,jC,jD,reduceCtorEq,jE,jF]
      --PUT1
     rw[if_neg he] at hthn
     have hce:decide ((paths[i].then l[j].p).2=0)=false:=decide_eq_false he
     (repeat' (first|(with_reducible first|refine stp ?_|refine uP (by decide) ?_|refine uQ (fun _=>?_) (fun _=>?_))|((first|(with_reducible refine uA ?_;first|refine uB rfl ?_ ?_|refine aM (oJ paths[i] l[j].p _) rfl (aO _) ?_|(first|refine uC rfl ?_|refine uD rfl ?_)|refine uE rfl ?_)|(with_reducible refine uF ?_;first|refine uG rfl ?_ ?_|(first|refine uH rfl ?_|refine uI rfl ?_)|refine uJ rfl ?_|refine uK (uL ?_)|refine uK (uM ?_))|(with_reducible refine uN ?_;refine uO rfl ?_))<;>try simp only[hc,hg4,hlt4,hw4,hce,oH,hlp,hfp,hft,hget,hlenk,hti,hfitp,n1,n2,n3,n4,n5,n6,n7,n8,n9,n10,and_self,and_true,true_and,s5,s6,htab4,We.v,jK,jG,go_sem,reduceIte,jA,jB,jC,jD,reduceCtorEq,jE,jF])|(with_reducible refine uR ?_;refine uS rfl ?_)|omega))
     rw[←hQ4]
     have FB:=((((F5.box' (x:=nx4) (Nat.le_refl _) (nx2:=nx4+4) (by omega) (.arr (.agg 2) [V.agg [V.bool false,V.int IntKind.i64 0]])).again (by omega) (by omega) (fun k hk hne=>by have:=(F5.row k hk hne).2.2;omega) (.arr (.agg 2) [paths[i].v])).again (x:=nx4+2) (by omega) (by omega) (fun k hk hne=>by have:=(F5.row k hk hne).2.2;omega) (.arr (.agg 2) [V.agg [V.bool false,V.int IntKind.i64 0]])).again (x:=nx4+2) (by omega) (by omega) (fun k hk hne=>by have:=(F5.row k hk hne).2.2;omega) (.arr (.agg 2) [(paths[i].then l[j].p).1.v]))
     refine aC (i+1,out4,ν4,rest4,id4) (by dsimp only;omega) ⟨hlt4,FB,by simp only[i1,i2,s2,go_sem,reduceIte,jA,jB,jC,jD,reduceCtorEq,jE,jF],s3,by dsimp only;omega,by simp only[n5,n6,s5,go_sem,reduceIte,jA,jB,jC,jD,reduceCtorEq,jE,jF],by omega,fun k hk hne=>s7 k hk hne,W4.more (fun w hw p hp h hf=>?_),s8⟩ ?_
     ·rcases h with h|⟨h1,h2⟩
      ·exact .inl (.inl h)
      dsimp only at h2
      rw[htk4] at h2
      rcases List.mem_append.1 h2 with h|h
      ·exact .inl (.inr ⟨h1,h⟩)
      refine .inr fun r hr=>?_
      rw[h1,List.mem_singleton.1 h,hthn] at hr
      cases hr
     simp only[WkL,aB,jH,jI,jJ,gD,pas,wes,go_sem,reduceIte,jA,jB,jC,jD,reduceCtorEq,jE,jF]
    have hc:decide ((i:Int)<(paths.length:Int))=false:=decide_eq_false (by omega)
    refine aue hc ?_
    rw[←hQ4]
    refine au ?_
    rw[←hQ3]
    refine aC (j+1,out4,ν4,rest4,id4) (by dsimp only;omega) ⟨hlt,F5,s2,s3,s4,W4.more (fun w hw p hp h hf=> .inl ?_),s8⟩ ?_
    ·dsimp only at h
     rw[htk] at h
     rcases List.mem_append.1 h with h|h
     ·exact .inl h
     exact .inr ⟨List.mem_singleton.1 h,by rw[show i=paths.length by omega,List.take_length];exact hp⟩
    simp only[WkL,aB,jH,jI,jJ,gD,pas,wes,hw,go_sem,reduceIte,jA,jB,jC,jD,reduceCtorEq,jE,jF]
   have hcf:((l[j].f:Int) != (k:Int))=true:=by simp;omega
   refine aue (ee6 hc hg hw hlt hcf We.v.eq_1) ?_
   rw[←hQ3]
   refine aC (j+1,out3,ν3,rest3,id3) (by dsimp only;omega) ⟨hlt,(F3.box' (x:=nx3) (Nat.le_refl _) (nx2:=nx3+2) (by omega) _).again (by omega) (by omega) (fun k hk hne=>by have:=(F3.row k hk hne).2.2;omega) _,?_,r3,by dsimp only;omega,W3.more (fun w hw p hp hD hf=>?_),r6⟩ ?_
   ·have e1:(id3=nx3)=False:=eq_false (by omega)
    simp only[e1,r2,go_sem,reduceIte,jA,jB,jC,jD,reduceCtorEq,jE,jF]
   ·dsimp only at hD
    rw[htk] at hD
    rcases List.mem_append.1 hD with h|h
    ·exact .inl h
    exact absurd (by rw[←List.mem_singleton.1 h];exact hf) hfk
   simp only[WkL,aB,jH,jI,jJ,gD,pas,wes,go_sem,reduceIte,jA,jB,jC,jD,reduceCtorEq,jE,jF]
  have hc:decide ((j:Int)<(l.length:Int))=false:=decide_eq_false (by omega)
  refine aue hc ?_
  rw[←hQ3]
  refine au ?_
  rw[←hQ]
  refine aC (out3,ν3,rest3,id3) (by simp only[jL];omega) ⟨F3,r2,r3,r4,(W3.more (D':=fun _ _=>True) fun w hw p hp _ _=> .inl (by rw[show j=l.length by omega,List.take_length];exact hw)).finish,by simp only[jL] at q6;dsimp only;omega⟩ ?_
  simp only[WkL,aB,jH,jI,jJ,gD,go_sem,reduceIte,jA,jB,jC,jD,reduceCtorEq,jE,jF]
end Go.Proofs.YtemjhgboialjpaaGreat
