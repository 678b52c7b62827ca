/-
Texts of this proof,one behind the other. No conditions.
-/
import Derived.Shelf.SlSortCmp.WholeK
import Derived.Shelf.SlSortCmp.NoneTotal
import Derived.Shelf.SlSortCmp.Whole1
import Derived.Test.YtecepaehmojpgaaGreatProg
import Derived.Shelf.SlMaps.Clone
import Derived.Test.YtecepaehmojpgaaGreatKd
import Derived.Test.YtecepaehmojpgaaGreatKf
import Derived.Test.YtecepaehmojpgaaGreatKe
open Go.Proofs.YtecepaehmojpgaaGreat.Pa renaming v→Ka,aAC→Kb,aAQ→Kg,ok→Kh
open Go.Proofs.YtecepaehmojpgaaGreat.Hp renaming le_refl→Kc,set→Ke,none→Kk
open Go.Proofs.YtecepaehmojpgaaGreat.V renaming undef→Kd,names→Kf
open List renaming getD_eq_getElem?_getD→Ki,replicate→Km,mem_singleton→Ko,getElem?_eq_getElem→Kp,map_cons→Kq,map_nil→Kt,mem_append→Ku,pairwise_cons→Kv,getElem_range→Kw,length_eq_zero_iff→Kx,take_succ_eq_append_getElem→Ky,ext_getElem→Kz,getElem_map→KB,any_eq_true→KD,getElem_mem→KE,getElem?_replicate→KG,take_of_length_le→KH,length_replicate→KJ,sum_cons→KK,length_append→KL,getElem_set→KM,take_length→KN,map_append→KP,mem_cons→KQ,range→KT
open Nat renaming le_refl→Kj,le_trans→KF,lt_or_ge→KR,zero_le→KS
open Go.IntKind renaming i64→Ks,wrap→KI
open Bool renaming and_eq_true→KC,eq_iff_iff→KO
open Nat renaming reduceAdd→jA,reduceSub→jB,reduceLT→jC,reduceLeDiff→jD,reduceEqDiff→jE
open Int renaming reduceToNat→jF,toNat_natCast→jG,natCast_add→jH,natCast_one→jI,natCast_zero→jJ
open List renaming length_map→jK,length_cons→jL,length_nil→jM,replicate_succ→jN,replicate_zero→jO,cons_append→jP,nil_append→jQ
set_option linter.unusedSimpArgs false
set_option linter.unusedVariables false
set_option linter.unusedSectionVars false
set_option maxHeartbeats 8000000
namespace Go.Proofs.YtecepaehmojpgaaGreat
open Go.Shelf
def zk:Go.Shelf.Ren:=⟨fun|6=>153|15=>147|14=>183|28=>164|29=>165|20=>195|21=>196|22=>197|23=>198|24=>199|25=>200|26=>201|27=>202|46=>206|47=>185|48=>186|49=>207|50=>208|57=>209|n=>n,fun|22=>84|24=>35|25=>210|3=>3|39=>230|0=>0|53=>245|55=>247|4=>4|46=>239|45=>238|50=>170|5=>5|9=>9|66=>260|70=>264|76=>275|77=>276|n=>n,fun|n=>n⟩
theorem Fc:Go.Proofs.SlLaysF0.n6 Tryz.prog zk:={
 mixed:=Zz
 f6:=⟨Tryz.f153.name,ZM,Tryz.func153.trans (congrArg some Zz)⟩
 f14:=⟨Tryz.f183.name,ZM,Tryz.func183.trans (congrArg some Zz)⟩
 f15:=Tryz.func147.trans (congrArg some Zz)
 f20:=⟨Tryz.f195.name,ZM,Tryz.func195.trans (congrArg some Zz)⟩
 f21:=⟨Tryz.f196.name,ZM,Tryz.func196.trans (congrArg some Zz)⟩
 f22:=⟨Tryz.f197.name,ZM,Tryz.func197.trans (congrArg some Zz)⟩
 f23:=⟨Tryz.f198.name,ZM,Tryz.func198.trans (congrArg some Zz)⟩
 f24:=⟨Tryz.f199.name,ZM,Tryz.func199.trans (congrArg some Zz)⟩
 f25:=⟨Tryz.f200.name,ZM,Tryz.func200.trans (congrArg some Zz)⟩
 f26:=⟨Tryz.f201.name,ZM,Tryz.func201.trans (congrArg some Zz)⟩
 f27:=⟨Tryz.f202.name,ZM,Tryz.func202.trans (congrArg some Zz)⟩
 f28:=Tryz.func164.trans (congrArg some Zz)
 f29:=Tryz.func165.trans (congrArg some Zz)
 f46:=⟨Tryz.f206.name,ZM,Tryz.func206.trans (congrArg some Zz)⟩
 f47:=Tryz.func185.trans (congrArg some Zz)
 f48:=Tryz.func186.trans (congrArg some Zz)
 f49:=⟨Tryz.f207.name,ZM,Tryz.func207.trans (congrArg some Zz)⟩
 f50:=⟨Tryz.f208.name,ZM,Tryz.func208.trans (congrArg some Zz)⟩
 f57:=⟨Tryz.f209.name,ZM,Tryz.func209.trans (congrArg some Zz)⟩
 t0:=Tryz.underlying0
 a0:=Tryz.isAgg0
 z0:=Tryz.sizeOf0
 v0:=Tryz.zeroValue0
 t3:=Tryz.underlying3
 a3:=Tryz.isAgg3
 z3:=Tryz.sizeOf3
 v3:=Tryz.zeroValue3
 t4:=Tryz.underlying4
 a4:=Tryz.isAgg4
 z4:=Tryz.sizeOf4
 v4:=Tryz.zeroValue4
 t5:=Tryz.underlying5
 a5:=Tryz.isAgg5
 z5:=Tryz.sizeOf5
 v5:=Tryz.zeroValue5
 t9:=Tryz.underlying9
 a9:=Tryz.isAgg9
 z9:=Tryz.sizeOf9
 v9:=Tryz.zeroValue9
 t22:=Tryz.underlying84
 a22:=Tryz.isAgg84
 z22:=Tryz.sizeOf84
 v22:=Tryz.zeroValue84
 t25:=Tryz.underlying210
 a25:=Tryz.isAgg210
 z25:=Tryz.sizeOf210
 v25:=Tryz.zeroValue210
 t39:=Tryz.underlying230
 a39:=Tryz.isAgg230
 z39:=Tryz.sizeOf230
 v39:=Tryz.zeroValue230
 t45:=Tryz.underlying238
 a45:=Tryz.isAgg238
 z45:=Tryz.sizeOf238
 v45:=Tryz.zeroValue238
 t46:=Tryz.underlying239
 a46:=Tryz.isAgg239
 z46:=Tryz.sizeOf239
 v46:=Tryz.zeroValue239
 t50:=Tryz.underlying170
 a50:=Tryz.isAgg170
 z50:=Tryz.sizeOf170
 v50:=Tryz.zeroValue170
 t53:=Tryz.underlying245
 a53:=Tryz.isAgg245
 z53:=Tryz.sizeOf245
 v53:=Tryz.zeroValue245
 t55:=Tryz.underlying247
 a55:=Tryz.isAgg247
 z55:=Tryz.sizeOf247
 v55:=Tryz.zeroValue247
 t66:=Tryz.underlying260
 a66:=Tryz.isAgg260
 z66:=Tryz.sizeOf260
 v66:=Tryz.zeroValue260
 t70:=Tryz.underlying264
 a70:=Tryz.isAgg264
 z70:=Tryz.sizeOf264
 v70:=Tryz.zeroValue264
 t76:=Tryz.underlying275
 a76:=Tryz.isAgg275
 z76:=Tryz.sizeOf275
 v76:=Tryz.zeroValue275
 t77:=Tryz.underlying276
 a77:=Tryz.isAgg276
 z77:=Tryz.sizeOf276
 v77:=Tryz.zeroValue276}
def zj:Go.Shelf.Ren:=⟨fun|6=>129|15=>147|14=>150|28=>164|29=>165|20=>166|21=>167|22=>168|23=>169|24=>170|25=>171|26=>172|27=>173|46=>189|47=>185|48=>186|49=>190|50=>191|57=>204|n=>n,fun|22=>22|24=>129|25=>184|3=>3|39=>230|0=>0|53=>245|55=>247|4=>4|46=>239|45=>238|50=>170|5=>5|9=>9|66=>260|70=>264|76=>275|77=>276|n=>n,fun|n=>n⟩
theorem Fb:Go.Proofs.SlLaysF0.n6 Tryz.prog zj:={
 mixed:=Zz
 f6:=⟨Tryz.f129.name,ZM,Tryz.func129.trans (congrArg some Zz)⟩
 f14:=⟨Tryz.f150.name,ZM,Tryz.func150.trans (congrArg some Zz)⟩
 f15:=Tryz.func147.trans (congrArg some Zz)
 f20:=⟨Tryz.f166.name,ZM,Tryz.func166.trans (congrArg some Zz)⟩
 f21:=⟨Tryz.f167.name,ZM,Tryz.func167.trans (congrArg some Zz)⟩
 f22:=⟨Tryz.f168.name,ZM,Tryz.func168.trans (congrArg some Zz)⟩
 f23:=⟨Tryz.f169.name,ZM,Tryz.func169.trans (congrArg some Zz)⟩
 f24:=⟨Tryz.f170.name,ZM,Tryz.func170.trans (congrArg some Zz)⟩
 f25:=⟨Tryz.f171.name,ZM,Tryz.func171.trans (congrArg some Zz)⟩
 f26:=⟨Tryz.f172.name,ZM,Tryz.func172.trans (congrArg some Zz)⟩
 f27:=⟨Tryz.f173.name,ZM,Tryz.func173.trans (congrArg some Zz)⟩
 f28:=Tryz.func164.trans (congrArg some Zz)
 f29:=Tryz.func165.trans (congrArg some Zz)
 f46:=⟨Tryz.f189.name,ZM,Tryz.func189.trans (congrArg some Zz)⟩
 f47:=Tryz.func185.trans (congrArg some Zz)
 f48:=Tryz.func186.trans (congrArg some Zz)
 f49:=⟨Tryz.f190.name,ZM,Tryz.func190.trans (congrArg some Zz)⟩
 f50:=⟨Tryz.f191.name,ZM,Tryz.func191.trans (congrArg some Zz)⟩
 f57:=⟨Tryz.f204.name,ZM,Tryz.func204.trans (congrArg some Zz)⟩
 t0:=Tryz.underlying0
 a0:=Tryz.isAgg0
 z0:=Tryz.sizeOf0
 v0:=Tryz.zeroValue0
 t3:=Tryz.underlying3
 a3:=Tryz.isAgg3
 z3:=Tryz.sizeOf3
 v3:=Tryz.zeroValue3
 t4:=Tryz.underlying4
 a4:=Tryz.isAgg4
 z4:=Tryz.sizeOf4
 v4:=Tryz.zeroValue4
 t5:=Tryz.underlying5
 a5:=Tryz.isAgg5
 z5:=Tryz.sizeOf5
 v5:=Tryz.zeroValue5
 t9:=Tryz.underlying9
 a9:=Tryz.isAgg9
 z9:=Tryz.sizeOf9
 v9:=Tryz.zeroValue9
 t22:=Tryz.underlying22
 a22:=Tryz.isAgg22
 z22:=Tryz.sizeOf22
 v22:=Tryz.zeroValue22
 t25:=Tryz.underlying184
 a25:=Tryz.isAgg184
 z25:=Tryz.sizeOf184
 v25:=Tryz.zeroValue184
 t39:=Tryz.underlying230
 a39:=Tryz.isAgg230
 z39:=Tryz.sizeOf230
 v39:=Tryz.zeroValue230
 t45:=Tryz.underlying238
 a45:=Tryz.isAgg238
 z45:=Tryz.sizeOf238
 v45:=Tryz.zeroValue238
 t46:=Tryz.underlying239
 a46:=Tryz.isAgg239
 z46:=Tryz.sizeOf239
 v46:=Tryz.zeroValue239
 t50:=Tryz.underlying170
 a50:=Tryz.isAgg170
 z50:=Tryz.sizeOf170
 v50:=Tryz.zeroValue170
 t53:=Tryz.underlying245
 a53:=Tryz.isAgg245
 z53:=Tryz.sizeOf245
 v53:=Tryz.zeroValue245
 t55:=Tryz.underlying247
 a55:=Tryz.isAgg247
 z55:=Tryz.sizeOf247
 v55:=Tryz.zeroValue247
 t66:=Tryz.underlying260
 a66:=Tryz.isAgg260
 z66:=Tryz.sizeOf260
 v66:=Tryz.zeroValue260
 t70:=Tryz.underlying264
 a70:=Tryz.isAgg264
 z70:=Tryz.sizeOf264
 v70:=Tryz.zeroValue264
 t76:=Tryz.underlying275
 a76:=Tryz.isAgg275
 z76:=Tryz.sizeOf275
 v76:=Tryz.zeroValue275
 t77:=Tryz.underlying276
 a77:=Tryz.isAgg276
 z77:=Tryz.sizeOf276
 v77:=Tryz.zeroValue276}
def zm:Go.Shelf.Ren:=⟨fun|6=>138|15=>147|14=>151|28=>164|29=>165|20=>174|21=>175|22=>176|23=>177|24=>178|25=>179|26=>180|27=>181|46=>192|47=>185|48=>186|49=>193|50=>194|57=>205|n=>n,fun|22=>114|24=>127|25=>218|3=>3|39=>230|0=>0|53=>245|55=>247|4=>4|46=>239|45=>238|50=>170|5=>5|9=>9|66=>260|70=>264|76=>275|77=>276|n=>n,fun|n=>n⟩
theorem Da:Go.Proofs.SlLaysF0.n6 Tryz.prog zm:={
 mixed:=Zz
 f6:=⟨Tryz.f138.name,ZM,Tryz.func138.trans (congrArg some Zz)⟩
 f14:=⟨Tryz.f151.name,ZM,Tryz.func151.trans (congrArg some Zz)⟩
 f15:=Tryz.func147.trans (congrArg some Zz)
 f20:=⟨Tryz.f174.name,ZM,Tryz.func174.trans (congrArg some Zz)⟩
 f21:=⟨Tryz.f175.name,ZM,Tryz.func175.trans (congrArg some Zz)⟩
 f22:=⟨Tryz.f176.name,ZM,Tryz.func176.trans (congrArg some Zz)⟩
 f23:=⟨Tryz.f177.name,ZM,Tryz.func177.trans (congrArg some Zz)⟩
 f24:=⟨Tryz.f178.name,ZM,Tryz.func178.trans (congrArg some Zz)⟩
 f25:=⟨Tryz.f179.name,ZM,Tryz.func179.trans (congrArg some Zz)⟩
 f26:=⟨Tryz.f180.name,ZM,Tryz.func180.trans (congrArg some Zz)⟩
 f27:=⟨Tryz.f181.name,ZM,Tryz.func181.trans (congrArg some Zz)⟩
 f28:=Tryz.func164.trans (congrArg some Zz)
 f29:=Tryz.func165.trans (congrArg some Zz)
 f46:=⟨Tryz.f192.name,ZM,Tryz.func192.trans (congrArg some Zz)⟩
 f47:=Tryz.func185.trans (congrArg some Zz)
 f48:=Tryz.func186.trans (congrArg some Zz)
 f49:=⟨Tryz.f193.name,ZM,Tryz.func193.trans (congrArg some Zz)⟩
 f50:=⟨Tryz.f194.name,ZM,Tryz.func194.trans (congrArg some Zz)⟩
 f57:=⟨Tryz.f205.name,ZM,Tryz.func205.trans (congrArg some Zz)⟩
 t0:=Tryz.underlying0
 a0:=Tryz.isAgg0
 z0:=Tryz.sizeOf0
 v0:=Tryz.zeroValue0
 t3:=Tryz.underlying3
 a3:=Tryz.isAgg3
 z3:=Tryz.sizeOf3
 v3:=Tryz.zeroValue3
 t4:=Tryz.underlying4
 a4:=Tryz.isAgg4
 z4:=Tryz.sizeOf4
 v4:=Tryz.zeroValue4
 t5:=Tryz.underlying5
 a5:=Tryz.isAgg5
 z5:=Tryz.sizeOf5
 v5:=Tryz.zeroValue5
 t9:=Tryz.underlying9
 a9:=Tryz.isAgg9
 z9:=Tryz.sizeOf9
 v9:=Tryz.zeroValue9
 t22:=Tryz.underlying114
 a22:=Tryz.isAgg114
 z22:=Tryz.sizeOf114
 v22:=Tryz.zeroValue114
 t25:=Tryz.underlying218
 a25:=Tryz.isAgg218
 z25:=Tryz.sizeOf218
 v25:=Tryz.zeroValue218
 t39:=Tryz.underlying230
 a39:=Tryz.isAgg230
 z39:=Tryz.sizeOf230
 v39:=Tryz.zeroValue230
 t45:=Tryz.underlying238
 a45:=Tryz.isAgg238
 z45:=Tryz.sizeOf238
 v45:=Tryz.zeroValue238
 t46:=Tryz.underlying239
 a46:=Tryz.isAgg239
 z46:=Tryz.sizeOf239
 v46:=Tryz.zeroValue239
 t50:=Tryz.underlying170
 a50:=Tryz.isAgg170
 z50:=Tryz.sizeOf170
 v50:=Tryz.zeroValue170
 t53:=Tryz.underlying245
 a53:=Tryz.isAgg245
 z53:=Tryz.sizeOf245
 v53:=Tryz.zeroValue245
 t55:=Tryz.underlying247
 a55:=Tryz.isAgg247
 z55:=Tryz.sizeOf247
 v55:=Tryz.zeroValue247
 t66:=Tryz.underlying260
 a66:=Tryz.isAgg260
 z66:=Tryz.sizeOf260
 v66:=Tryz.zeroValue260
 t70:=Tryz.underlying264
 a70:=Tryz.isAgg264
 z70:=Tryz.sizeOf264
 v70:=Tryz.zeroValue264
 t76:=Tryz.underlying275
 a76:=Tryz.isAgg275
 z76:=Tryz.sizeOf275
 v76:=Tryz.zeroValue275
 t77:=Tryz.underlying276
 a77:=Tryz.isAgg276
 z77:=Tryz.sizeOf276
 v77:=Tryz.zeroValue276}
def zl:Go.Shelf.Ren:=⟨fun|6=>122|15=>147|14=>146|28=>164|29=>165|20=>156|21=>157|22=>158|23=>159|24=>160|25=>161|26=>162|27=>163|46=>184|47=>185|48=>186|49=>187|50=>188|57=>203|n=>n,fun|22=>25|24=>37|25=>176|3=>3|39=>230|0=>0|53=>245|55=>247|4=>4|46=>239|45=>238|50=>170|5=>5|9=>9|66=>260|70=>264|76=>275|77=>276|n=>n,fun|n=>n⟩
theorem Fd:Go.Proofs.SlLaysF0.n6 Tryz.prog zl:={
 mixed:=Zz
 f6:=⟨Tryz.f122.name,ZM,Tryz.func122.trans (congrArg some Zz)⟩
 f14:=⟨Tryz.f146.name,ZM,Tryz.func146.trans (congrArg some Zz)⟩
 f15:=Tryz.func147.trans (congrArg some Zz)
 f20:=⟨Tryz.f156.name,ZM,Tryz.func156.trans (congrArg some Zz)⟩
 f21:=⟨Tryz.f157.name,ZM,Tryz.func157.trans (congrArg some Zz)⟩
 f22:=⟨Tryz.f158.name,ZM,Tryz.func158.trans (congrArg some Zz)⟩
 f23:=⟨Tryz.f159.name,ZM,Tryz.func159.trans (congrArg some Zz)⟩
 f24:=⟨Tryz.f160.name,ZM,Tryz.func160.trans (congrArg some Zz)⟩
 f25:=⟨Tryz.f161.name,ZM,Tryz.func161.trans (congrArg some Zz)⟩
 f26:=⟨Tryz.f162.name,ZM,Tryz.func162.trans (congrArg some Zz)⟩
 f27:=⟨Tryz.f163.name,ZM,Tryz.func163.trans (congrArg some Zz)⟩
 f28:=Tryz.func164.trans (congrArg some Zz)
 f29:=Tryz.func165.trans (congrArg some Zz)
 f46:=⟨Tryz.f184.name,ZM,Tryz.func184.trans (congrArg some Zz)⟩
 f47:=Tryz.func185.trans (congrArg some Zz)
 f48:=Tryz.func186.trans (congrArg some Zz)
 f49:=⟨Tryz.f187.name,ZM,Tryz.func187.trans (congrArg some Zz)⟩
 f50:=⟨Tryz.f188.name,ZM,Tryz.func188.trans (congrArg some Zz)⟩
 f57:=⟨Tryz.f203.name,ZM,Tryz.func203.trans (congrArg some Zz)⟩
 t0:=Tryz.underlying0
 a0:=Tryz.isAgg0
 z0:=Tryz.sizeOf0
 v0:=Tryz.zeroValue0
 t3:=Tryz.underlying3
 a3:=Tryz.isAgg3
 z3:=Tryz.sizeOf3
 v3:=Tryz.zeroValue3
 t4:=Tryz.underlying4
 a4:=Tryz.isAgg4
 z4:=Tryz.sizeOf4
 v4:=Tryz.zeroValue4
 t5:=Tryz.underlying5
 a5:=Tryz.isAgg5
 z5:=Tryz.sizeOf5
 v5:=Tryz.zeroValue5
 t9:=Tryz.underlying9
 a9:=Tryz.isAgg9
 z9:=Tryz.sizeOf9
 v9:=Tryz.zeroValue9
 t22:=Tryz.underlying25
 a22:=Tryz.isAgg25
 z22:=Tryz.sizeOf25
 v22:=Tryz.zeroValue25
 t25:=Tryz.underlying176
 a25:=Tryz.isAgg176
 z25:=Tryz.sizeOf176
 v25:=Tryz.zeroValue176
 t39:=Tryz.underlying230
 a39:=Tryz.isAgg230
 z39:=Tryz.sizeOf230
 v39:=Tryz.zeroValue230
 t45:=Tryz.underlying238
 a45:=Tryz.isAgg238
 z45:=Tryz.sizeOf238
 v45:=Tryz.zeroValue238
 t46:=Tryz.underlying239
 a46:=Tryz.isAgg239
 z46:=Tryz.sizeOf239
 v46:=Tryz.zeroValue239
 t50:=Tryz.underlying170
 a50:=Tryz.isAgg170
 z50:=Tryz.sizeOf170
 v50:=Tryz.zeroValue170
 t53:=Tryz.underlying245
 a53:=Tryz.isAgg245
 z53:=Tryz.sizeOf245
 v53:=Tryz.zeroValue245
 t55:=Tryz.underlying247
 a55:=Tryz.isAgg247
 z55:=Tryz.sizeOf247
 v55:=Tryz.zeroValue247
 t66:=Tryz.underlying260
 a66:=Tryz.isAgg260
 z66:=Tryz.sizeOf260
 v66:=Tryz.zeroValue260
 t70:=Tryz.underlying264
 a70:=Tryz.isAgg264
 z70:=Tryz.sizeOf264
 v70:=Tryz.zeroValue264
 t76:=Tryz.underlying275
 a76:=Tryz.isAgg275
 z76:=Tryz.sizeOf275
 v76:=Tryz.zeroValue275
 t77:=Tryz.underlying276
 a77:=Tryz.isAgg276
 z77:=Tryz.sizeOf276
 v77:=Tryz.zeroValue276}
def Cx:Go.Shelf.Ren:=⟨fun|5=>70|7=>106|n=>n,fun|23=>122|25=>37|3=>3|4=>4|20=>20|n=>n,fun|n=>n⟩
theorem E9:Go.Proofs.SlLaysW.n5 Tryz.prog Cx:={
 mixed:=Zz
 f5:=⟨Tryz.f70.name,ZM,Tryz.func70.trans (congrArg some Zz)⟩
 f7:=Tryz.func106.trans (congrArg some Zz)
 t4:=Tryz.underlying4
 a4:=Tryz.isAgg4
 z4:=Tryz.sizeOf4
 v4:=Tryz.zeroValue4
 t20:=Tryz.underlying20
 a20:=Tryz.isAgg20
 z20:=Tryz.sizeOf20
 v20:=Tryz.zeroValue20
 t23:=Tryz.underlying122
 a23:=Tryz.isAgg122
 z23:=Tryz.sizeOf122
 v23:=Tryz.zeroValue122}
end Go.Proofs.YtecepaehmojpgaaGreat
namespace Go.Proofs.YtecepaehmojpgaaGreat
open Go.RowKit Go.Sort
attribute [local irreducible] KI
def Pa.then(p q:Pa):Pa×Int:=
 if (!p.ok|| !q.ok)=true then (Kg,2)
 else if q.n=true then (q,0)
 else if Kh ⟨p.n,p.a+q.a⟩=false then (Kg,1) else (⟨p.n,p.a+q.a⟩,0)
theorem Pa.aDh(p q:Pa):p.thn q=if (p.then q).2=0 then some (p.then q).1 else none:=by
 unfold Pa.thn Pa.then;split
 ·rfl
 split
 ·rfl
 split<;>rfl
theorem mw(p q:Pa)(h1:p.ok=true)(h2:q.ok=true):IntKind.i64.wrap (p.a+q.a)=p.a+q.a:=by
 simp only[Kh,KC,decide_eq_true_eq] at h1 h2;rw[bB]<;>omega
theorem qH(p q:Pa)(h:Hp):aY Tryz.prog 108 [p.v,q.v] h (.tup [(p.then q).1.v,fC (p.then q).2]):=by
 refine aR (fun L=>by simp[Kf,bU,Ka,vZ]) fun h' nx hh=>aF L.aXN fun hd=>?_;obtain⟨n,a⟩:=p;obtain⟨m,b⟩:=q;have hw:=mw ⟨n,a⟩ ⟨m,b⟩;simp only[jL,jM,jA,jB,jN,jO,jP,jQ,Kd]
 (repeat' (first|(with_reducible first|refine stp ?_|refine bJ ZM ?_|refine iQ (fun _=>?_) (fun _=>?_))|((first|(with_reducible refine fV ?_;first|refine eJ rfl ?_ ?_|refine aQ (mY ⟨_,_⟩ _) rfl (aT _) ?_|refine Zx ?_)|(with_reducible refine fW ?_;first|refine cB rfl ?_ ?_|refine ZX ?_)|refine Zy ?_)<;>try simp only[Ka,go_sem,reduceIte,jA,jB,jC,jD,reduceCtorEq,jE,jF])|refine ZY ?_|omega))
 all_goals refine cN (by simp only[go_sem,reduceIte,jA,jB,jC,jD,reduceCtorEq,jE,jF]) h' (by repeat (first|exact Kc _|refine aJ hd ?_ or _|refine aL hd ?_ or)) ⟨?_,rfl⟩
 all_goals simp only[go_sem,reduceIte,jA,jB,jC,jD,reduceCtorEq,jE,jF]
 all_goals cases hp:Kh ⟨n,a⟩<;>cases ht:Kh ⟨m,b⟩<;>simp_all [Pa.then,fC,Kg]
theorem xE(p q:Pa)(h:Hp):aY Tryz.prog 135 [p.v,q.v] h (.bool (p.le q)):=by
 refine aR (fun L=>trivial) fun h' nx hh=>aF L.aWx fun hd=>?_;obtain⟨n,a⟩:=p;obtain⟨m,b⟩:=q;simp only[jL,jM,jA,jB,jN,jO,jP,jQ,Kd];cases n<;>cases m<;>(repeat' (first|(with_reducible first|refine stp ?_|refine bJ ZM ?_|refine iQ (fun _=>?_) (fun _=>?_))|((first|(with_reducible refine fV ?_;first|refine eJ rfl ?_ ?_|refine Zx ?_)|(with_reducible refine fW ?_;first|refine cB rfl ?_ ?_|refine ZX ?_)|refine Zy ?_)<;>try simp only[Ka,go_sem,reduceIte,jA,jB,jC,jD,reduceCtorEq,jE,jF])|refine ZY ?_|omega))
 all_goals refine aG h' (by repeat (first|exact Kc _|refine aJ hd ?_ or _|refine aL hd ?_ or)) ⟨?_,rfl⟩
 all_goals ((try simp_all [Pa.le])<;>(try omega))
theorem nu(x p:Pa)(n:Nat)(h:Hp)(hn:h n=some (.arr (.agg 2) [p.v])):aY Tryz.prog 134 [x.v, .ptr n (.agg 2) 0 0] h (.bool (x.le p)):=by
 refine aR (fun L=>trivial) fun h' nx hh=>aF L.aWy fun hd=>?_;have hn':=hh n _ hn rfl;have hlt:=hd n _ hn';simp only[jL,jM,jA,jB,jN,jO,jP,jQ,Kd];have C1:=fun h=>xE x p h;refine aue (ee3 hn' hlt Kb) ?_;exact aG h' (by repeat (first|exact Kc _|refine aJ hd ?_ or _|refine aL hd ?_ or)) ⟨rfl,rfl⟩
theorem BM(x p:Pa)(n:Nat)(h:Hp)(hn:h n=some (.arr (.agg 2) [p.v])):aY Tryz.prog 137 [x.v, .ptr n (.agg 2) 0 0] h (.bool (p.le x)):=by
 refine aR (fun L=>trivial) fun h' nx hh=>aF L.aWw fun hd=>?_;have hn':=hh n _ hn rfl;have hlt:=hd n _ hn';simp only[jL,jM,jA,jB,jN,jO,jP,jQ,Kd];have C1:=fun h=>xE p x h;refine aue (ee3 hn' hlt Kb) ?_;exact aG h' (by repeat (first|exact Kc _|refine aJ hd ?_ or _|refine aL hd ?_ or)) ⟨rfl,rfl⟩
def jm(a b:Pa):Int:=num a.n-num b.n
theorem nr(a b:Pa):aY Tryz.prog 139 [a.v,b.v] Kk (.int .i64 (jm a b)):=by
 refine aR (fun L=>trivial) fun h' nx hh=>aF L.aWv fun hd=>?_;have hw:IntKind.i64.wrap (num a.n-num b.n)=jm a b:=by
  unfold jm num;rw[bB]<;>(split<;>split<;>omega)
 simp only[jL,jM,jA,jB,jN,jO,jP,jQ,Kd]
 (repeat' (first|(with_reducible first|refine stp ?_|refine bJ ZM ?_|refine iQ (fun _=>?_) (fun _=>?_))|((first|(with_reducible refine fV ?_;first|refine eJ rfl ?_ ?_|refine Zx ?_)|(with_reducible refine fW ?_;first|refine cB rfl ?_ ?_|refine bK (ba _ _) rfl (bM _) ?_|refine ZX ?_)|refine Zy ?_)<;>try simp only[Ka,hw,go_sem,reduceIte,jA,jB,jC,jD,reduceCtorEq,jE,jF])|refine ZY ?_|omega))
 exact aG h' (by repeat (first|exact Kc _|refine aJ hd ?_ or _|refine aL hd ?_ or)) ⟨rfl,rfl⟩
theorem sf(a b:Pa):ltOf jm a b=decide (a.n=false∧b.n=true):=by
 unfold ltOf jm num;cases a.n<;>cases b.n<;>decide
theorem tw:SWO (ltOf jm):=by
 refine⟨fun x=>?_,fun x y z=>?_,fun x y z=>?_⟩<;>simp only[sf,decide_eq_true_eq,decide_eq_false_iff_not]
 ·cases x.n<;>simp
 ·cases x.n<;>cases y.n<;>cases z.n<;>simp
 cases x.n<;>cases y.n<;>cases z.n<;>simp
theorem zh{l ys:List Pa}{p:Pa}(hc:Can l)(hd:¬mB l p)(hp:ys.Perm ((l.filter fun x=> !(p.le x))++[p]))(hs:jY jm ys):ys=gJ l p:=by
 have hcp:=hc.put hd
 --no two of one kind
 have aBr:ys.Perm (gJ l p):=by
  refine hp.trans ?_;unfold gJ;split
  ·exact List.Perm.refl _
  exact List.perm_append_comm
 refine List.Perm.eq_of_pairwise (le:=fun x y=>ltOf jm y x=false) (fun x y hx hy h1 h2=>?_) hs (hcp.imp fun{x y} h=>?_) aBr
 ·have hx':=aBr.mem_iff.1 hx;have key:∀{m:List Pa},Can m→∀a∈m,∀b∈m,a.n=b.n→a=b:=by
   intro m hm;induction m with
   |nil=>intro a ha;cases ha
   |cons z m ih=>
    obtain⟨k1,k2⟩:=Kv.1 hm;intro a ha b hb hab;rcases KQ.1 ha with e1|ha2<;>rcases KQ.1 hb with e2|hb2
    ·rw[e1,e2]
    ·have:=k1 b hb2;rw[e1,this.1,this.2.1] at hab;cases hab
    ·have:=k1 a ha2;rw[e2,this.1,this.2.1] at hab;cases hab
    exact ih k2 a ha2 b hb2 hab
  refine key hcp x hx' y hy ?_;simp only[sf,decide_eq_false_iff_not] at h1 h2;cases hxn:x.n<;>cases hyn:y.n<;>simp_all
 simp[sf,h.1]
abbrev DJ:Nat:=134
abbrev E7:Nat:=137
abbrev E6:Nat:=139
abbrev lW(m:Nat)(l:List Pa):V:=vC (.agg 2) m (l.map Ka)
theorem oE:aH Tryz.prog 136=some (LB.aBZ (.agg 2) (.agg [.bool false, .int .i64 0]) 118):=Zz
theorem Fg(m:Nat)(l:List Pa)(p:Pa)(hl:l.length≤1000)(hd:mB l p)(h:Hp)(hm:l≠ []→h m=some (.arr (.agg 2) (l.map Ka))):
 ∀h' nx,h.has h'→bD Tryz.prog 109 [lW m l,p.v] h' nx fun v h'' _=>v= .tup [lW m l, .bool false]∧h''=h':=by
 intro h' nx hh;have hne:l≠ []:=fun e=>by obtain⟨q,hq,_⟩:=hd;rw[e] at hq;cases hq
 have hm':=hh m _ (hm hne) rfl;have aBQ:lW m l= .rs m (.agg 2) 0 l.length:=by
  unfold lW vC;cases l with
  |nil=>exact absurd rfl hne
  |cons=>simp
 have aBW:(l.any fun x=>x.le p)=true:=(xx l p).2 hd;rw[aBQ];refine aF L.aVs fun hdm=>?_;have hlt:=hdm m _ hm';have aIG:(m=nx)=False:=eq_false or;have aAg:(h'.set nx (.arr (.agg 2) [p.v])) nx=some (.arr (.agg 2) [p.v]):=by simp only[go_sem,reduceIte,jA,jB,jC,jD,reduceCtorEq,jE,jF]
 have hmb:(h'.set nx (.arr (.agg 2) [p.v])) m=some (.arr (.agg 2) (l.map Ka)):=by simp only[aIG,hm',go_sem,reduceIte,jA,jB,jC,jD,reduceCtorEq,jE,jF]
 simp only[jL,jM,jA,jB,jN,jO,jP,jQ,Kd];refine aue (ee2 Kb aBW) ?_;refine aQ (rN Ka Kb fU eP (fun x=>x.le p) m l DJ [.ptr nx (.agg 2) 0 0] _ hmb (fun x _=>nu x p nx _ aAg) or) rfl (aT _) ?_;simp only[aBW,go_sem,reduceIte,jA,jB,jC,jD,reduceCtorEq,jE,jF];refine aue (ee2 Kb aBW) ?_;refine iO h' (eV (Kc _) (aI.none hdm (Kj _)) _) ⟨?_,rfl⟩;simp only[go_sem,reduceIte,jA,jB,jC,jD,reduceCtorEq,jE,jF]
theorem A5(m:Nat)(l:List Pa)(p:Pa)(hc:Can l)(hl:l.length≤1000)(hd:¬mB l p)(h:Hp)(hm:l≠ []→h m=some (.arr (.agg 2) (l.map Ka))):
 CI Tryz.prog 109 [lW m l,p.v] h (if l=[] then none else some ⟨m, .arr (.agg 2) (l.map Ka),none⟩) (fun a=> .tup [.rs a (.agg 2) 0 (gJ l p).length, .bool true]) (.agg 2) ((gJ l p).map Ka):=by
 refine Ep (BV _ _ _) (fun L=>bG (Pa.aAN L) _) (fun L n hn=>by simp[Kf,bU,hn]) (fun c' hc'=>?_) fun h' nx hh=>?_
 ·split at hc'
  ·cases hc'
  rename_i hne;injection hc' with hc';subst hc';exact⟨rfl,⟨_,_,rfl⟩,hm hne⟩
 have aBW:(l.any fun x=>x.le p)=false:=by
  cases e:l.any fun x=>x.le p with
  |false=>rfl
  |true=>exact absurd ((xx l p).1 e) hd
 have aA9:∀ys:List Pa,ys.Perm ((l.filter fun x=> !(p.le x))++[p])→jY jm ys→ys=gJ l p:=fun ys h1 h2=>zh hc hd h1 h2;refine aF L.aVs fun hdm=>?_;by_cases hne:l=[]
 ·subst hne;have hpl:gJ ([]:List Pa) p=[p]:=by unfold gJ;split<;>rfl
  have hcl:=eB Ka Kb fU eP (fun x=>x.le p) .nil [] DJ [.ptr nx (.agg 2) 0 0] (h'.set nx (.arr (.agg 2) [p.v])) (fun x hx=>by cases hx) Zm;have hdl:=jd Ka Kb oE eP (fun x=>p.le x) E7 [.ptr nx (.agg 2) 0 0] (h'.set nx (.arr (.agg 2) [p.v]));have hrw:lW m []= .sl (.agg 2) .nil []:=rfl;rw[hrw,hpl];simp only[Kt,List.any_nil] at hcl;simp only[jL,jM,jA,jB,jN,jO,jP,jQ,Kd]
  (repeat' (first|(with_reducible first|refine stp ?_|refine bJ ZM ?_|refine iQ (fun _=>?_) (fun _=>?_))|((first|(with_reducible refine fV ?_;first|refine eJ rfl ?_ ?_|refine aQ (hcl) rfl (aT _) ?_|refine aQ (hdl) rfl (aT _) ?_|refine Zx ?_)|(with_reducible refine fW ?_;first|refine cB rfl ?_ ?_|refine ZX ?_)|refine Zy ?_)<;>try simp only[Kb,go_sem,reduceIte,jA,jB,jC,jD,reduceCtorEq,jE,jF])|refine ZY ?_|omega))
  refine mA rfl rfl Zm (by simp only[jL,jM];omega) ?_;simp only[jL,jM,go_sem,reduceIte,jA,jB,jC,jD,reduceCtorEq,jE,jF];refine aue Kb ?_;refine bN ((mI Da 2 (by intro w;exact Tryz.isAgg127 w) (by intro w;exact Tryz.sizeOf127 w) Zz Ka Kb jm tw E6 [] (fun x y=>by simpa using nr x y) _ [p] Zm _ _ (by simp only[Kq,Kt,go_sem,reduceIte,jA,jB,jC,jD,reduceCtorEq,jE,jF]) Zm).mono ?_);rintro v2 h2 nx2 aBs ⟨rfl,rfl,ys,hp,hs,rfl⟩;have hys:ys=[p]:=List.perm_singleton.1 hp;subst hys;unfold dM;simp only[jL,jM,Kq,Kt,go_sem,reduceIte,jA,jB,jC,jD,reduceCtorEq,jE,jF];refine au ?_;refine iO (h'.set (nx+2) (.arr (.agg 2) [p.v])) ?_ ⟨nx+2,or,?_,rfl⟩
  ·intro x b hx;by_cases e:x=nx+2
   ·subst e;simp only[go_sem,reduceIte,jA,jB,jC,jD,reduceCtorEq,jE,jF] at hx⊢;exact hx
   have hx':h' x=some b:=by unfold Ke at hx;rwa [if_neg e] at hx
   have:=hdm x b hx';have e1:(x=nx)=False:=eq_false or;have e2:(x=nx+1)=False:=eq_false or;simp only[e,e1,e2,go_sem,reduceIte,jA,jB,jC,jD,reduceCtorEq,jE,jF];exact hx'
  simp only[go_sem,reduceIte,jA,jB,jC,jD,reduceCtorEq,jE,jF]
 have hm':=hh m _ (hm hne) rfl;have aBQ:lW m l= .rs m (.agg 2) 0 l.length:=by
  unfold lW vC;cases l with
  |nil=>exact absurd rfl hne
  |cons=>simp
 have hlt:=hdm m _ hm';have aIG:(m=nx)=False:=eq_false or;have aAg:(h'.set nx (.arr (.agg 2) [p.v])) nx=some (.arr (.agg 2) [p.v]):=by simp only[go_sem,reduceIte,jA,jB,jC,jD,reduceCtorEq,jE,jF]
 have hmb:(h'.set nx (.arr (.agg 2) [p.v])) m=some (.arr (.agg 2) (l.map Ka)):=by simp only[aIG,hm',go_sem,reduceIte,jA,jB,jC,jD,reduceCtorEq,jE,jF]
 rw[aBQ];simp only[jL,jM,jA,jB,jN,jO,jP,jQ,Kd];refine aue (ee2 Kb aBW) ?_;refine aQ (rN Ka Kb fU eP (fun x=>x.le p) m l DJ [.ptr nx (.agg 2) 0 0] _ hmb (fun x _=>nu x p nx _ aAg) or) rfl (aT _) ?_;simp only[aBW,go_sem,reduceIte,jA,jB,jC,jD,reduceCtorEq,jE,jF];refine aue (ee2 Kb aBW) ?_
 --those that it is at most are left out
 have hcn:(Hp.none.set nx (.arr (.agg 2) [p.v])) m=none:=by simp only[aIG,Kk,go_sem,reduceIte,jA,jB,jC,jD,reduceCtorEq,jE,jF]
 have hcd:aI (Hp.none.set nx (.arr (.agg 2) [p.v])) (nx+1):=fun x b e=>by
  unfold Ke at e;split at e
  ·omega
  cases e
 have hcb:(Hp.none.set nx (.arr (.agg 2) [p.v])) nx=some (.arr (.agg 2) [p.v]):=by simp only[go_sem,reduceIte,jA,jB,jC,jD,reduceCtorEq,jE,jF]
 have hch:Hp.has (Hp.none.set nx (.arr (.agg 2) [p.v])) (h'.set nx (.arr (.agg 2) [p.v])):=fun x k e _=>by
  unfold Ke at e⊢;split at e
  ·rename_i hx;rw[if_pos hx];exact e
  cases e
 refine bN ((zZ Ka oE eP rfl Kb (fun x=>p.le x) m l E7 [.ptr nx (.agg 2) 0 0] _ (Hp.none.set nx (.arr (.agg 2) [p.v])) (nx+1) hmb hcn hch hcd (fun x _=>BM x p nx _ hcb) or).mono ?_);rintro v1 h1 nx1 aIF ⟨zs,rfl,rfl⟩;unfold dM;refine Zn ?_;obtain⟨L,hL⟩:∃L,L=l.filter fun x=> !(p.le x):=⟨_,rfl⟩;rw[←hL];have hLl:L.length≤1000:=by rw[hL];exact KF (List.length_filter_le _ _) hl
 have htk:(L.map Ka++zs).take L.length=L.map Ka:=by rw[List.take_append_of_le_length Zm];exact KH Zm
 have hmv:(L.map Ka)++[p.v]=(L++[p]).map Ka:=Zm;have aIL:L.length+1=(L++[p]).length:=Zm;have aOX:(nx=m)=False:=eq_false or;have aOW:(m=nx1)=False:=eq_false or;have aWQ:(nx=nx1)=False:=eq_false or
 (repeat' (first|(with_reducible first|refine stp ?_|refine bJ ZM ?_|refine iQ (fun _=>?_) (fun _=>?_))|((first|(with_reducible refine fV ?_;first|refine eJ rfl ?_ ?_|refine Zx ?_)|(with_reducible refine fW ?_;first|refine cB rfl ?_ ?_|refine ZX ?_)|refine Zy ?_)<;>try simp only[Kb,aIG,aOX,go_sem,reduceIte,jA,jB,jC,jD,reduceCtorEq,jE,jF])|refine ZY ?_|omega))
 refine c8 (es:=L.map Ka++zs) rfl (by simp only[aIG,aOW,go_sem,reduceIte,jA,jB,jC,jD,reduceCtorEq,jE,jF]) Zm rfl Zm (by simp only[jL,jM];omega) ?_;simp only[htk,hmv,aIL,go_sem,reduceIte,jA,jB,jC,jD,reduceCtorEq,jE,jF];refine aue (ee2 Kb aIG) ?_;refine bN ((mI Da 2 (by intro w;exact Tryz.isAgg127 w) (by intro w;exact Tryz.sizeOf127 w) Zz Ka Kb jm tw E6 [] (fun x y=>by simpa using nr x y) _ (L++[p]) Zm _ _ (by simp only[go_sem,reduceIte,jA,jB,jC,jD,reduceCtorEq,jE,jF]) (by simp;omega)).mono ?_);rintro v2 h2 nx2 aBs ⟨rfl,rfl,ys,hp,hs,rfl⟩;have hys:=aA9 ys (by rw[←hL];exact hp) hs;unfold dM;subst hys;have hpl:(L++[p]).length=(gJ l p).length:=hp.length_eq.symm;simp only[hpl,go_sem,reduceIte,jA,jB,jC,jD,reduceCtorEq,jE,jF];refine au ?_;refine iO ((h'.del m).set (nx1+1) (.arr (.agg 2) ((gJ l p).map Ka))) ?_ ⟨nx1+1,or,?_,?_⟩
 ·intro x b hx;by_cases e:x=nx1+1
  ·subst e;simp only[go_sem,reduceIte,jA,jB,jC,jD,reduceCtorEq,jE,jF] at hx⊢;exact hx
  have hx':(h'.del m) x=some b:=by unfold Ke at hx;rwa [if_neg e] at hx
  have hxm:x≠m:=fun e2=>by subst e2;simp only[Hp.del,if_pos] at hx';cases hx'
  have hx2:h' x=some b:=by unfold Hp.del at hx';rwa [if_neg hxm] at hx'
  have:=hdm x b hx2;have e1:(x=nx)=False:=eq_false or;have e2:(x=nx1)=False:=eq_false or;simp only[e,e1,e2,hxm,go_sem,reduceIte,jA,jB,jC,jD,reduceCtorEq,jE,jF];exact hx2
 ·simp only[go_sem,reduceIte,jA,jB,jC,jD,reduceCtorEq,jE,jF]
 simp only[hne,if_false]
abbrev FZ:Nat:=94
abbrev EJ:Nat:=132
theorem tr(own:Own)(n:Nat)(l:List We)(w:We)(b1 b2:Nat)(aAG:yR n l)(hn:n≤200)(hl:l.length≤1000)(hw:w.t<n)(h:Hp)(h1:h b1=some (.arr .leaf [.int .i64 n]))(h2:h b2=some (.arr .leaf [wes own l])):
 aY Tryz.prog 132 [w.v, .ptr b1 .leaf 0 0, .ptr b2 .leaf 0 0] h (.bool (w.p.n&&sA l w.t w.f)):=by
 refine aR (fun L=>trivial) fun h' nx hh=>aF L.aW0 fun hd=>?_;have h1':=hh b1 _ h1 rfl;have h2':=hh b2 _ h2 rfl;have e1:=hd b1 _ h1';have e2:=hd b2 _ h2';obtain⟨f,t,nn,a⟩:=w;simp only[jL,jM,jA,jB,jN,jO,jP,jQ,Kd];cases nn<;>(repeat' (first|(with_reducible first|refine stp ?_|refine bJ ZM ?_|refine iQ (fun _=>?_) (fun _=>?_))|((first|(with_reducible refine fV ?_;first|refine eJ rfl ?_ ?_|refine aQ (kg own n l t f aAG hw hn hl _) rfl (aT _) ?_|refine Zx ?_)|(with_reducible refine fW ?_;first|refine cB rfl ?_ ?_|refine ZX ?_)|refine Zy ?_)<;>try simp only[We.v,h1',h2',e1,e2,go_sem,reduceIte,jA,jB,jC,jD,reduceCtorEq,jE,jF])|refine ZY ?_|omega))
 all_goals refine aG h' (by repeat (first|exact Kc _|refine aJ hd ?_ or _|refine aL hd ?_ or)) ⟨?_,rfl⟩
 all_goals simp only[go_sem,reduceIte,jA,jB,jC,jD,reduceCtorEq,jE,jF]
noncomputable def fa(l:List We):Bool:=l.any fun w=>w.p.n&&sA l w.t w.f
theorem ew(l:List We):fa l=true↔sW l:=by
 unfold fa sW;simp only[KD,KC,vL];constructor
 ·rintro⟨w,h1,h2,h3⟩;exact⟨w,h1,h2,h3.imp (fun e=>e.symm) (fun e=>e)⟩
 rintro⟨w,h1,h2,h3⟩;exact⟨w,h1,h2,h3.imp (fun e=>e.symm) (fun e=>e)⟩
theorem za(own:Own)(n:Nat)(l:List We)(aAG:yR n l)(hn:n≤200)(hl:l.length≤1000)(h:Hp):aY Tryz.prog 103 [.int .i64 n,wes own l] h (.bool (fa l)):=by
 refine aR (fun L=>trivial) fun h' nx hh=>aF L.aXP fun hd=>?_;have b1:((h'.set nx (.arr .leaf [.int .i64 (n:Int)])).set (nx+1) (.arr .leaf [wes own l])) nx=some (.arr .leaf [.int .i64 (n:Int)]):=by simp only[go_sem,reduceIte,jA,jB,jC,jD,reduceCtorEq,jE,jF]
 have b2:((h'.set nx (.arr .leaf [.int .i64 (n:Int)])).set (nx+1) (.arr .leaf [wes own l])) (nx+1)=some (.arr .leaf [wes own l]):=by simp only[go_sem,reduceIte,jA,jB,jC,jD,reduceCtorEq,jE,jF]
 have hc:=eB We.v We.aAC mF pL (fun w=>w.p.n&&sA l w.t w.f) own l EJ [.ptr nx .leaf 0 0, .ptr (nx+1) .leaf 0 0] _ (fun w hw=>tr own n l w nx (nx+1) aAG hn hl (aAG w hw).2.1 _ b1 b2) or;simp only[jL,jM,jA,jB,jN,jO,jP,jQ,Kd];have C5:=hc;refine au ?_;exact aG h' (by repeat (first|exact Kc _|refine aJ hd ?_ or _|refine aL hd ?_ or)) ⟨rfl,rfl⟩
theorem BU(w:Wy)(P:Int)(b:Nat)(h:Hp)(h1:h b=some (.arr .leaf [.int .i64 P])):aY Tryz.prog 94 [w.v, .ptr b .leaf 0 0] h (.bool (!(w.fit P))):=by
 refine aR (fun L=>trivial) fun h' nx hh=>aF L.aXV fun hd=>?_;have h1':=hh b _ h1 rfl;have e1:=hd b _ h1';simp only[jL,jM,jA,jB,jN,jO,jP,jQ,Kd];have C1:=fun h=>rf w P h;refine aue (ee3 Wy.aAC h1' e1) ?_;exact aG h' (by repeat (first|exact Kc _|refine aJ hd ?_ or _|refine aL hd ?_ or)) ⟨rfl,rfl⟩
theorem gq:aH Tryz.prog 97=some (LB.aFz (.agg 4) (.agg [.int .i64 0, .int .i64 0, .bool false, .int .i64 0]) (.plain (.agg 4) [.int, .int, .bool, .int])):=Zz
theorem yU(x y:Wy):veq (.plain (.agg 4) [.int, .int, .bool, .int]) x.v y.v=some (decide (x=y)):=by
 obtain⟨f,t,⟨n,a⟩⟩:=x;obtain⟨f',t',⟨n',a'⟩⟩:=y;simp only[Wy.v,go_sem,reduceIte,jA,jB,jC,jD,reduceCtorEq,jE,jF];simp only[Wy.mk.injEq,Pa.mk.injEq,Option.some.injEq];rw[KO];simp
theorem jl(h:Hp):aY Tryz.prog 97 [.sl (.agg 4) .nil []] h (.sl (.agg 4) .nil []):=by
 refine aR (fun L=>by simp[Kf,bU]) fun h' nx hh=>aF L.aXT fun hd=>?_;have hc:decide (((0:Nat):Int)<2)=true:=ZM;simp only[jL,jM,jA,jB,jN,jO,jP,jQ,Kd];refine aue hc ?_;exact aG h' (Kc _) ⟨rfl,rfl⟩
def vU(P:Int)(l:List Wy):V:= .agg [.int .i64 P,lst (.agg 4) (l.map Wy.v)]
theorem vT(P:Int)(l:List Wy)(L:Nat→Prop):(vU P l).names L:=by
 have:=cP (k:= .agg 4) (fun L=>bG (fun x=>Wy.aAN L x) l) L;simp[vU,Kf,bU,this]
theorem pI:vU 0 []= .agg [.int .i64 0, .sl (.agg 4) .nil []]:=rfl
open Classical in
set_option maxHeartbeats 1000000 in
theorem vj(o:Own)(P:Int)(ws:List Wy)(h' h2:Hp)(nx nx2:Nat)(ho:(.sl (.agg 4) o ((cC ws).map Wy.v):V)=lst (.agg 4) ((cC ws).map Wy.v))(hl:ws.length≤1000)(aBV:¬(P<0∨200<P∨∃w∈ws,w.fit P=false))(hdm:aI h' nx)
 (h1:h2 nx=some (.arr .leaf [.int .i64 P])) (h3:h2 (nx+1)=some (.arr (.agg 2) [.agg [.int .i64 0, .sl (.agg 4) .nil []]])) (hle:h'.le h2) (hnx:nx+2≤nx2):
 lwp Tryz.prog (.seq (.seq (.ops L.aHV) (.cond (.slot 28) (.seq (.ops L.aHU) .ret) .skip)) (.seq (.seq (.ops L.aHT) (.cond (.slot 38) (.seq (.ops L.aHS) .ret) .skip)) (.seq (.ops L.aHR) .ret)))
  (iB [.cell 4 (.agg 2), .slot 5] fun v' h'' _=>v'= .tup [vU (cT P ws).1.1 (cT P ws).1.2,fC (cT P ws).2]∧h''=h') ⟨aB 44 0 [(2, .ptr nx .leaf 0 0),(4, .ptr (nx+1) (.agg 2) 0 0),(5, .nilIface),(7, .sl (.agg 4) o ((cC ws).map Wy.v))],h2,nx2⟩:=by
 have aAG:∀w∈cC ws,w.fit P=true:=fun w hw=>by
  cases e:w.fit P with
  |true=>rfl
  |false=>exact absurd (.inr (.inr ⟨w,(nP ws w).1 hw,e⟩)) aBV
 have hP:0≤P∧P≤200:=by
  constructor
  ·exact Classical.byContradiction fun h=>aBV (.inl or)
  exact Classical.byContradiction fun h=>aBV (.inr (.inl or))
 have hcl:(cC ws).length≤1000:=KF (nQ ws) hl;obtain⟨k1,k2⟩:=iv aAG;obtain⟨l,hlw⟩:∃l,l=(cC ws).map Wy.we:=⟨_,rfl⟩;rw[←hlw] at k1 k2;have hll:l.length≤1000:=by rw[hlw];simpa using hcl
 have hwl:(cC ws).map Wy.v=l.map We.v:=by rw[k1,y0]
 have hPn:P=((P.toNat:Nat):Int):=or;have hb:∀w∈cC ws,0≤w.p.a∧w.p.a≤1048576:=fun w hw=>by
  have:=aAG w hw;simp only[Wy.fit,KC,Kh,decide_eq_true_eq] at this;exact this.2.2.2.2
 have ci:∀h,aY Tryz.prog 102 [.int .i64 P, .sl (.agg 4) o ((cC ws).map Wy.v)] h (.bool (wz l)):=fun h=>by
  rw[hwl,hPn];exact B8 o P.toNat l k2 or hll h
 have ct:∀h,aY Tryz.prog 103 [.int .i64 P, .sl (.agg 4) o ((cC ws).map Wy.v)] h (.bool (fa l)):=fun h=>by
  rw[hwl,hPn];exact za o P.toNat l k2 or hll h
 have ca:∀h,aY Tryz.prog 101 [.sl (.agg 4) o ((cC ws).map Wy.v)] h (.int .i64 (fD (cC ws))):=fun h=>AP o (cC ws) hcl hb h;have hlt:nx<nx2:=or;have aEo:nx+1<nx2:=or;unfold cT;rw[if_neg aBV,←hlw];simp only[aB,go_sem,reduceIte,jA,jB,jC,jD,reduceCtorEq,jE,jF];have aAT:∀b,h'.le (h2.set (nx+1) b):=fun b=>eV hle (hdm.none or) _;rcases Int.lt_or_le 1048576 (fD (cC ws)) with ha|ha
 ·have hc:decide ((1048576:Int)<fD (cC ws))=true:=decide_eq_true ha;rw[if_pos ha];have C1:=fun h=>ca h;refine aue (ee5 hc h1 h3 hlt aEo) ?_;refine cN (by simp only[go_sem,reduceIte,jA,jB,jC,jD,reduceCtorEq,jE,jF]) h' (aAT _) ⟨?_,rfl⟩;simp only[pI,fC,go_sem,reduceIte,jA,jB,jC,jD,reduceCtorEq,jE,jF];trivial
 have hc:decide ((1048576:Int)<fD (cC ws))=false:=decide_eq_false or;rw[if_neg or];cases hi:wz l with
 |true=>
  rw[if_pos (.inl ((zS l).1 hi))];have C1:=fun h=>ca h;have C2:=fun h=>ci h;refine aue (ee6 hc h1 h3 hlt aEo hi) ?_;refine cN (by simp only[go_sem,reduceIte,jA,jB,jC,jD,reduceCtorEq,jE,jF]) h' (aAT _) ⟨?_,rfl⟩;simp only[pI,fC,go_sem,reduceIte,jA,jB,jC,jD,reduceCtorEq,jE,jF];trivial
 |false=>
  have hni:¬mf l:=fun h=>by rw[(zS l).2 h] at hi;cases hi
  cases ht:fa l with
  |true=>
   rw[if_pos (.inr ((ew l).1 ht))];have C1:=fun h=>ca h;have C2:=fun h=>ci h;have C3:=fun h=>ct h;refine aue (ee7 hc h1 h3 hlt aEo hi ht) ?_;refine cN (by simp only[go_sem,reduceIte,jA,jB,jC,jD,reduceCtorEq,jE,jF]) h' (aAT _) ⟨?_,rfl⟩;simp only[pI,fC,go_sem,reduceIte,jA,jB,jC,jD,reduceCtorEq,jE,jF];trivial
  |false=>
   have hnt:¬sW l:=fun h=>by rw[(ew l).2 h] at ht;cases ht
   rw[if_neg (fun h=>h.elim hni hnt)];have C1:=fun h=>ca h;have C2:=fun h=>ci h;have C3:=fun h=>ct h;refine aue (ee7 hc h1 h3 hlt aEo hi ht) ?_;refine cN (by simp only[go_sem,reduceIte,jA,jB,jC,jD,reduceCtorEq,jE,jF]) h' (aAT _) ⟨?_,rfl⟩;simp only[vU,ho,fC,go_sem,reduceIte,jA,jB,jC,jD,reduceCtorEq,jE,jF];try trivial
theorem vm(own:Own)(P:Int)(ws:List Wy)(hl:ws.length≤1000)(h:Hp):aY Tryz.prog 62 [.int .i64 P,wys own ws] h (.tup [vU (cT P ws).1.1 (cT P ws).1.2,fC (cT P ws).2]):=by
 refine aR (fun L=>by simp[Kf,bU,vT,vZ]) fun h' nx hh=>aF L.aYK fun hd=>?_;have hb1:((h'.set nx (.arr .leaf [.int .i64 P])).set (nx+1) (.arr (.agg 2) [.agg [.int .i64 0, .sl (.agg 4) .nil []]])) nx=some (.arr .leaf [.int .i64 P]):=by simp only[go_sem,reduceIte,jA,jB,jC,jD,reduceCtorEq,jE,jF]
 have hcl:=eB Wy.v Wy.aAC mF pL (fun w=> !(w.fit P)) own ws FZ [.ptr nx .leaf 0 0] _ (fun w _=>BU w P nx _ hb1) or;simp only[jL,jM,jA,jB,jN,jO,jP,jQ,Kd];by_cases aBV:P<0∨200<P∨∃w∈ws,w.fit P=false
 ·have hn:cT P ws=((0,[]),1):=by unfold cT;rw[if_pos aBV]
  rw[hn];have hbx:¬P<0→¬200<P→(ws.any fun w=> !(w.fit P))=true:=fun h1 h2=>by
   rcases aBV with h|h|⟨w,hw,h⟩
   ·exact absurd h h1
   ·exact absurd h h2
   exact KD.2 ⟨w,hw,by rw[h];rfl⟩
  (repeat' (first|(with_reducible first|refine stp ?_|refine bJ ZM ?_|refine iQ (fun _=>?_) (fun _=>?_))|((first|(with_reducible refine fV ?_;first|refine eJ rfl ?_ ?_|refine aQ (hcl) rfl (aT _) ?_|refine Zx ?_)|(with_reducible refine fW ?_;first|refine cB rfl ?_ ?_|refine ZX ?_)|refine Zy ?_)<;>try simp only[ go_sem,reduceIte,jA,jB,jC,jD,reduceCtorEq,jE,jF])|refine ZY ?_|omega))
  ·refine cN (by simp only[go_sem,reduceIte,jA,jB,jC,jD,reduceCtorEq,jE,jF]) h' (by repeat (first|exact Kc _|refine aJ hd ?_ or _|refine aL hd ?_ or)) ⟨?_,rfl⟩;simp only[pI,fC,go_sem,reduceIte,jA,jB,jC,jD,reduceCtorEq,jE,jF];trivial
  ·refine cN (by simp only[go_sem,reduceIte,jA,jB,jC,jD,reduceCtorEq,jE,jF]) h' (by repeat (first|exact Kc _|refine aJ hd ?_ or _|refine aL hd ?_ or)) ⟨?_,rfl⟩;simp only[pI,fC,go_sem,reduceIte,jA,jB,jC,jD,reduceCtorEq,jE,jF];trivial
  ·refine cN (by simp only[go_sem,reduceIte,jA,jB,jC,jD,reduceCtorEq,jE,jF]) h' (by repeat (first|exact Kc _|refine aJ hd ?_ or _|refine aL hd ?_ or)) ⟨?_,rfl⟩;simp only[pI,fC,go_sem,reduceIte,jA,jB,jC,jD,reduceCtorEq,jE,jF];trivial
  rename_i x1 x2 x3;rw[hbx (of_decide_eq_false x1) (of_decide_eq_false x2)] at x3;cases x3
 have g1:decide (P<0)=false:=decide_eq_false (fun h=>aBV (.inl h));have g2:decide (200<P)=false:=decide_eq_false (fun h=>aBV (.inr (.inl h)));have g3:(ws.any fun w=> !(w.fit P))=false:=by
  cases e:ws.any fun w=> !(w.fit P) with
  |false=>rfl
  |true=>
   obtain⟨w,hw,h⟩:=KD.1 e;exact absurd (.inr (.inr ⟨w,hw,by simpa using h⟩)) aBV
 have hs:∃aDi,(wys own ws).loose=wys aDi ws:=by cases own<;>exact⟨_,rfl⟩
 obtain⟨aDi,hs⟩:=hs;have C5:=hcl;refine aue (ee3 g1 g2 g3) ?_;refine aQ (er kq own (ws.map Wy.v) (fun L=>bG (Wy.aAN L) _) Kk) rfl (bM _) ?_;rw[hs];refine Zn ?_;refine bN ((pF Wy.v Fb Wy.aAC (by intro w;exact Tryz.isAgg129 w) (by intro w;exact Tryz.sizeOf129 w) Zz xL gr zL rfl or rfl _ _ Kk ws
  (wL Wy.v Wy.aAC cw rfl aDi ws or) or Wy.cmp Wy.swo _ [] (fun x y=>by simpa using Ac x y) _ _ (bM _)).mono ?_)
 rintro v1 h1 nx1 aIF ⟨es,⟨ys,hp,hs2,rfl⟩,hF⟩;have hys:ys=dU Wy.cmp ws:=oJ Wy.tot _ _ (hp.trans (dX _ _).symm) hs2 (gU Wy.swo ws);subst hys;have aDp:h'.le ((h'.set nx (.arr .leaf [.int .i64 P])).set (nx+1) (.arr (.agg 2) [.agg [.int .i64 0, .sl (.agg 4) .nil []]])):=(by repeat (first|exact Kc _|refine aJ hd ?_ or _|refine aL hd ?_ or));unfold dM;dsimp only at aIF;rcases hF with⟨he,rfl,rfl⟩|⟨hne,id,hid,rfl,rfl⟩
 ·have hw:ws=[]:=by
   have:(dU Wy.cmp ws).length=0:=by have:=congrArg List.length he;simpa using this
   rw[(dX Wy.cmp ws).length_eq] at this;exact Kx.1 this
  subst hw;have hcn:cC []=[]:=Kx.1 (Nat.le_zero.1 (nQ []));refine Zn ?_;refine aQ (jl _) rfl (aT _) ?_;refine Zn ?_;refine eU rfl (by simp only[ go_sem,reduceIte,jA,jB,jC,jD,reduceCtorEq,jE,jF];try omega) ?_;refine Zn ?_;refine(fT ⟨aB 44 0 [(2, .ptr nx .leaf 0 0),(4, .ptr (nx+1) (.agg 2) 0 0),(5, .nilIface),(7, .sl (.agg 4) .nil ((cC []).map Wy.v))],_,_⟩ (kM ?_ (Kc _) (Kj _)) (vj .nil P [] h' _ nx _ (by rw[hcn];rfl) Zm aBV hd (by simp only[go_sem,reduceIte,jA,jB,jC,jD,reduceCtorEq,jE,jF]) (by simp only[go_sem,reduceIte,jA,jB,jC,jD,reduceCtorEq,jE,jF]) aDp or));simp only[WkL,aB,jH,jI,jJ,hcn,Kt,go_sem,reduceIte,jA,jB,jC,jD,reduceCtorEq,jE,jF]
 dsimp only at hid;have hmb:(((h'.set nx (.arr .leaf [.int .i64 P])).set (nx+1) (.arr (.agg 2) [.agg [.int .i64 0, .sl (.agg 4) .nil []]])).set id (.arr (.agg 4) ((dU Wy.cmp ws).map Wy.v))) id=some (.arr (.agg 4) ((dU Wy.cmp ws).map Wy.v)):=by simp only[go_sem,reduceIte,jA,jB,jC,jD,reduceCtorEq,jE,jF]
 have hlen:((dU Wy.cmp ws).map Wy.v).length=(dU Wy.cmp ws).length:=Zm;have hll:(dU Wy.cmp ws).length=ws.length:=(dX Wy.cmp ws).length_eq;have hie:(nx=id)=False:=eq_false or;have aWe:(nx+1=id)=False:=eq_false or;have aVa:cC ws≠ []:=fun e=>by
  have h1:=nP ws;have:ws=[]:=by
   cases hws:ws with
   |nil=>rfl
   |cons x l=>have:=(h1 x).2 (by rw[hws];simp);rw[e] at this;cases this
  subst this;exact hne (by rw[List.map_eq_nil_iff];exact Kx.1 hll)
 rw[hlen];refine Zn ?_;refine bN ((yO (G:=fun es=>es=(cs (dU Wy.cmp ws)).map Wy.v) (lz Wy.v gq rfl Wy.aAC yU id (dU Wy.cmp ws) or _ _ hmb)).mono ?_);rintro v2 h2 nx2 aBs ⟨es,rfl,rfl,hes⟩;have hes:es=(cC ws).map Wy.v:=hes;dsimp only at aBs;subst hes;unfold dM;refine Zn ?_;refine eU rfl (by simp only[ go_sem,reduceIte,jA,jB,jC,jD,reduceCtorEq,jE,jF];try omega) ?_;refine Zn ?_;refine(fT ⟨aB 44 0 [(2, .ptr nx .leaf 0 0),(4, .ptr (nx+1) (.agg 2) 0 0),(5, .nilIface),(7, .sl (.agg 4) .free ((cC ws).map Wy.v))],_,_⟩ (kM ?_ (Kc _) (Kj _)) (vj .free P ws h' _ nx _ ?_ hl aBV hd (by simp only[hie,go_sem,reduceIte,jA,jB,jC,jD,reduceCtorEq,jE,jF]) (by simp only[aWe,go_sem,reduceIte,jA,jB,jC,jD,reduceCtorEq,jE,jF]) ?_ or))
 ·simp only[WkL,aB,jH,jI,jJ,go_sem,reduceIte,jA,jB,jC,jD,reduceCtorEq,jE,jF]
 ·cases hcw:cC ws with
  |nil=>exact absurd hcw aVa
  |cons x l=>rfl
 intro m b hm;have hml:=hd m b hm;have e1:(m=id)=False:=eq_false or;have:=aDp m b hm;simp only[e1,go_sem,reduceIte,jA,jB,jC,jD,reduceCtorEq,jE,jF] at this⊢;exact this
abbrev mps(o:Own)(P:Int)(ws:List Wy):V:= .agg [.int .i64 P,wys o ws]
theorem Dp(o:Own)(P:Int)(ws:List Wy):(mps o P ws).fits (.agg 2)=true:=by simp[V.fits,V.aAD]
theorem BT(P:Int)(ws:List Wy):(cT P ws).1.2.length≤ws.length:=by
 unfold cT;split
 ·simp
 split
 ·simp
 split
 ·simp
 exact nQ ws
theorem v6(P:Int)(l:List Wy):∃o,vU P l=mps o P l:=by
 obtain⟨o,ho⟩:=nG (.agg 4) (l.map Wy.v);exact⟨o,by unfold vU;rw[ho]⟩
theorem oM(o:Own)(P:Int)(ws:List Wy)(hl:ws.length≤1000)(h:Hp):aY Tryz.prog 63 [mps o P ws] h (.bool (gI P ws)):=by
 refine aR (fun L=>trivial) fun h' nx hh=>aF L.aYJ fun hd=>?_;have hn:=vm o P ws hl;obtain⟨o2,ho2⟩:=v6 (cT P ws).1.1 (cT P ws).1.2;rw[ho2] at hn;have hlen:=BT P ws;have he:=Cl Wy.v Wy.aAC rm yU o2 o (cT P ws).1.2 ws or;have hrm:gI P ws=(decide ((cT P ws).2=0)&&decide ((cT P ws).1.2=ws)):=by
  rw[KO];unfold gI;simp
 rw[hrm];simp only[jL,jM,jA,jB,jN,jO,jP,jQ,Kd]
 (repeat' (first|(with_reducible first|refine stp ?_|refine bJ ZM ?_|refine iQ (fun _=>?_) (fun _=>?_))|((first|(with_reducible refine fV ?_;first|refine eJ rfl ?_ ?_|refine aQ (hn _) rfl (aT _) ?_|refine aQ (he _) rfl (aT _) ?_|refine Zx ?_)|(with_reducible refine fW ?_;first|refine cB rfl ?_ ?_|refine ZX ?_)|refine Zy ?_)<;>try simp only[Dp,iL,go_sem,reduceIte,jA,jB,jC,jD,reduceCtorEq,jE,jF])|refine ZY ?_|omega))
 all_goals refine aG h' (by repeat (first|exact Kc _|refine aJ hd ?_ or _|refine aL hd ?_ or)) ⟨?_,rfl⟩
 all_goals rename_i hx
 all_goals simp only[hx,go_sem,reduceIte,jA,jB,jC,jD,reduceCtorEq,jE,jF]
open Classical in
noncomputable def cQ(l:List We)(a k:Nat):List Pa:=if h:∃m,iT l a k m then Classical.choose h else []
theorem pN{l:List We}{a k:Nat}{m:List Pa}(h:iT l a k m):cQ l a k=m:=by
 unfold cQ;rw[dif_pos ⟨m,h⟩];exact(Classical.choose_spec (⟨m,h⟩:∃m,iT l a k m)).unique h
noncomputable def lH(n:Nat)(l:List We)(a:Nat):List (List Pa):=(KT n).map (cQ l a)
theorem xd{n:Nat}{l:List We}{a:Nat}{out:List (List Pa)}(hl:out.length=n)(h:∀k,k<n→iT l a k (out.getD k [])):lH n l a=out:=by
 refine Kz (by simp[lH,hl]) fun i h1 h2=>?_;have hi:i<n:=or;have:=pN (h i hi);simp only[lH,KB,Kw,this];rw[Ki,Kp h2];rfl
theorem Dj{P:Program}{f:FuncId}{args:List V}{h:Hp}{v:V}{m:Nat}{k:Sh}{es:List V}(hm:h m=some (.arr k es))(hv:∀L:Nat→Prop,L m→v.names L)(hc:∀h' nx,h.has h'→bD P f args h' nx fun v' h'' _=>v'=v∧h''=h'):aY P f args h v:=by
 intro h' nx hh;have c:=hc h' nx hh;refine⟨c.1,fun K aAK hlv aAV aDL=>(c.2 K aAK hlv aAV aDL).mono ?_⟩;rintro e w' ⟨K',v',cv,h'',nx',rfl,he,hle,hvr,aA6,aEn,hnx,rfl,rfl⟩;have hml:=aAV.lt m _ (hh m _ hm rfl);have aEq:K.le (K'.only fun n=>K'.live n∧n<nx):=⟨fun n hn=>⟨hle.live n hn,hlv n hn⟩,hle.mu,hle.tp,hle.fro,hle.imm,hle.cell,hle.shape,hle.below⟩;exact⟨K'.only fun n=>K'.live n∧n<nx,v',cv,h'',nx,rfl,he,aEq,hvr.only _ (hv _ ⟨hle.live m hml,hlv m hml⟩),aAV.back aA6 aEq.toV (fun n hn=>⟨hle.live n hn,hlv n hn⟩),fun n hn=>⟨hn.2,(aEn n hn.1).2⟩,Kj _,rfl,rfl,rfl⟩
theorem uz(m:Nat)(l:List Pa)(p:Pa)(hl:l.length≤1000)(hd:mB l p)(h:Hp)(hm:h m=some (.arr (.agg 2) (l.map Ka))):aY Tryz.prog 109 [lW m l,p.v] h (.tup [lW m l, .bool false]):=by
 refine Dj hm (fun L hL=>?_) (Fg m l p hl hd h (fun _=>hm));unfold lW vC;split<;>simp[Kf,bU,hL]
theorem D0{P:Program}{k:Sh}{f bs:Nat}(hL:aH P f=some (LB.Clone k bs))(hbs:bs≤140737)(m:Nat)(es:List V)(hl:es.length≤1000000000)(hv:∀L,bU L es)(h:Hp)(hm:h m=some (.arr k es)):sY P f [.rs m k 0 es.length] h k es:=by
 refine xe hv fun h' nx hh=>aF hL fun hd=>?_;have hm':=hh m _ hm rfl;have hlt:=hd m _ hm';have hb:es.length*bs≤140737488355328:=KF (Nat.mul_le_mul hl hbs) or;simp only[jL,jM,jA,jB,jN,jO,jP,jQ,Kd];have hrf:(es.length≤es.length)=True:=eq_true (Kj _)
 (repeat' (first|(with_reducible first|refine stp ?_|refine bJ ZM ?_|refine iQ (fun _=>?_) (fun _=>?_))|((first|(with_reducible refine fV ?_;first|refine eJ rfl ?_ ?_|refine sH rfl rfl (by simp only[hm',hlt,hb,hrf,if_true,hm',hlt,hb,hrf,if_true,go_sem,reduceIte,jA,jB,jC,jD,reduceCtorEq,jE,jF];try omega) ?_|refine Zx ?_)|(with_reducible refine fW ?_;first|refine cB rfl ?_ ?_|refine ZX ?_)|refine Zy ?_)<;>try simp only[hm',hlt,hb,hrf,if_true,go_sem,reduceIte,jA,jB,jC,jD,reduceCtorEq,jE,jF])|refine ZY ?_|omega))
 refine aG (h'.set (nx+1) .tip) ?_ ⟨nx+1,or,?_,rfl⟩
 ·intro x b hx;by_cases e:x=nx+1
  ·subst e;simp only[go_sem,reduceIte,jA,jB,jC,jD,reduceCtorEq,jE,jF] at hx⊢;exact hx
  have hx':h' x=some b:=by unfold Ke at hx;rwa [if_neg e] at hx
  have:=hd x b hx';have e1:(x=nx)=False:=eq_false or;simp only[e,e1,go_sem,reduceIte,jA,jB,jC,jD,reduceCtorEq,jE,jF];exact hx'
 simp only[go_sem,reduceIte,jA,jB,jC,jD,reduceCtorEq,jE,jF]
end Go.Proofs.YtecepaehmojpgaaGreat
namespace Go.Proofs.YtecepaehmojpgaaGreat
open Go.RowKit Go.Sort
attribute [local irreducible] KI
theorem Aa(m:Nat)(l:List Pa):(lW m l).aAD=true:=by unfold lW vC;split<;>rfl
theorem ny(m:Nat)(l:List Pa):(lW m l).fits .leaf=true:=by rw[tR];exact Aa m l
def eW(n:Nat)(ν:Nat→Nat)(out:List (List Pa)):List V:=(KT n).map fun k=>lW (ν k) (out.getD k [])
theorem wC(n:Nat)(ν:Nat→Nat)(out:List (List Pa)):(eW n ν out).length=n:=by simp[eW]
theorem jp{n:Nat}{ν:Nat→Nat}{out:List (List Pa)}{t:Nat}(ht:t<n):(eW n ν out).getD t (.tup [])=lW (ν t) (out.getD t []):=by
 unfold eW;rw[Ki,Kp (by simpa using ht)];simp
structure rH(h' hp:Hp)(nx nx1 n:Nat)(mv:V)(out:List (List Pa))(ν:Nat→Nat):Prop where
 box:hp nx=some (.arr (.agg 2) [mv])
 tab:hp (nx+1)=some (.arr .leaf (eW n ν out))
 row:∀k,k<n→out.getD k []≠ []→hp (ν k)=some (.arr (.agg 2) ((out.getD k []).map Ka))∧nx+2≤ν k∧ν k<nx1
 apart:∀j k,j<n→k<n→j≠k→out.getD j []≠ []→out.getD k []≠ []→ν j≠ν k
 dom:aI hp nx1
 ge:nx+2≤nx1
 same:Hp.same nx h' hp
theorem rH.aGd{h' hp:Hp}{nx nx1 n:Nat}{mv:V}{out:List (List Pa)}{ν:Nat→Nat}(F:rH h' hp nx nx1 n mv out ν){x:Nat}(h1:nx1≤x){nx2:Nat}(h2:x<nx2)(b:Blk):rH h' (hp.set x b) nx nx2 n mv out ν:=by
 have hge:=F.ge;have hs:∀y,y<nx1→(hp.set x b) y=hp y:=fun y hy=>by unfold Ke;rw[if_neg or]
 refine⟨by rw[hs _ or];exact F.box,by rw[hs _ or];exact F.tab,fun k hk hne=>?_,F.apart,F.dom.set or or b,or,(by(try dsimp only);repeat (first|exact F.same|refine aW ?_ or _|refine aX ?_ or))⟩;obtain⟨a,b',c⟩:=F.row k hk hne;exact⟨by rw[hs _ c];exact a,b',or⟩
theorem rH.again{h' hp:Hp}{nx nx1 n:Nat}{mv:V}{out:List (List Pa)}{ν:Nat→Nat}(F:rH h' hp nx nx1 n mv out ν){x:Nat}(hx:nx+2≤x)(hx1:x<nx1)(hν:∀k,k<n→out.getD k []≠ []→ν k≠x)(b:Blk):rH h' (hp.set x b) nx nx1 n mv out ν:=by
 have hge:=F.ge;have hs:∀y,y≠x→(hp.set x b) y=hp y:=fun y hy=>by unfold Ke;rw[if_neg hy]
 refine⟨by rw[hs _ or];exact F.box,by rw[hs _ or];exact F.tab,fun k hk hne=>?_,F.apart,F.dom.aAh hx1 b,or,(by(try dsimp only);repeat (first|exact F.same|refine aW ?_ or _|refine aX ?_ or))⟩;obtain⟨a,b',c⟩:=F.row k hk hne;exact⟨by rw[hs _ (hν k hk hne)];exact a,b',c⟩
theorem rH.del{h' hp:Hp}{nx nx1 n:Nat}{mv:V}{out:List (List Pa)}{ν:Nat→Nat}(F:rH h' hp nx nx1 n mv out ν){id:Nat}(hid:hp id=some .tip)(hge:nx+2≤id):rH h' (hp.del id) nx nx1 n mv out ν:=by
 have hs:∀y,hp y≠some .tip→(hp.del id) y=hp y:=fun y hy=>by unfold Hp.del;rw[if_neg (fun e=>hy (by rw[e];exact hid))]
 refine⟨by rw[hs _ (by rw[F.box];exact(fun e=>by cases e))];exact F.box,by rw[hs _ (by rw[F.tab];exact(fun e=>by cases e))];exact F.tab,fun k hk hne=>?_,F.apart,F.dom.del,F.ge,(by(try dsimp only);repeat (first|exact F.same|refine aW ?_ or _|refine aX ?_ or))⟩;obtain⟨a,b',c⟩:=F.row k hk hne;exact⟨by rw[hs _ (by rw[a];exact(fun e=>by cases e))];exact a,b',c⟩
theorem rH.put{h' hp:Hp}{nx nx1 nx2 n:Nat}{mv:V}{out:List (List Pa)}{ν:Nat→Nat}(F:rH h' hp nx nx1 n mv out ν)(hlen:out.length=n){t x:Nat}(ht:t<n)(L':List Pa)(hL:L'≠ [])(hx:nx1≤x)(hx2:x<nx2)
 {hq:Hp} (h1:hq x=some (.arr (.agg 2) (L'.map Ka))) (h2:hq (nx+1)=some (.arr .leaf ((eW n ν out).set t (.rs x (.agg 2) 0 L'.length)))) (h3:∀y,y≠x→y≠nx+1→(out.getD t []≠ []→y≠ν t)→y<nx1→hq y=hp y) (hd:aI hq nx2):
 rH h' hq nx nx2 n mv (out.set t L') (fun k=>if k=t then x else ν k):=by
 have hge:=F.ge;have aAT:∀j,(out.set t L').getD j []=if j=t then L' else out.getD j []:=fun j=>mQ _ _ _ _ _ (by rw[hlen];exact ht)
 refine⟨?_,?_,fun k hk hne=>?_,fun j k hj hk hjk hnj hnk=>?_,hd,or,fun y hy=>?_⟩
 ·rw[h3 nx or or (fun hne e=>by have:=(F.row t ht hne).2.1;omega) or];exact F.box
 ·rw[h2];congr 2;refine Kz (by simp[eW]) fun i i1 i2=>?_;have hin:i<n:=by simpa [eW] using i2
  rw[KM];simp only[eW,KB,Kw,aAT];by_cases e:t=i
  ·subst e;simp only[if_true];unfold lW vC;cases L' with
   |nil=>exact absurd rfl hL
   |cons=>simp
  have e':¬i=t:=fun h=>e h.symm;simp only[e,e',if_false]
 ·rw[aAT] at hne⊢;by_cases e:k=t
  ·simp only[e,if_true];exact⟨h1,or,hx2⟩
  simp only[e,if_false] at hne⊢;obtain⟨a,b,c⟩:=F.row k hk hne;exact⟨by rw[h3 _ or or (fun hnt=>F.apart k t hk ht e hne hnt) c];exact a,b,or⟩
 ·rw[aAT] at hnj hnk;by_cases e:j=t<;>by_cases e2:k=t
  ·omega
  ·simp only[e,e2,if_true,if_false] at hnk⊢;have:=(F.row k hk hnk).2.2;omega
  ·simp only[e,e2,if_true,if_false] at hnj⊢;have:=(F.row j hj hnj).2.2;omega
  simp only[e,e2,if_false] at hnj hnk⊢;exact F.apart j k hj hk hjk hnj hnk
 rw[h3 y or or (fun hne e=>by have:=(F.row t ht hne).2.1;omega) or];exact F.same y hy
def coL(out:List (List Pa)):Nat:=(out.map co).sum
theorem Bq{out:List (List Pa)}{t:Nat}{L':List Pa}(ht:t<out.length)(hc:co L'+1≤co (out.getD t [])):coL (out.set t L')+1≤coL out:=by
 unfold coL;induction out generalizing t with
 |nil=>simp at ht
 |cons x out ih=>
  cases t with
  |zero=>
   simp at hc;simp only[List.set_cons_zero,Kq,KK];omega
  |succ t=>
   have:=ih (t:=t) (by simpa using ht) (by simpa using hc);simp only[List.set_cons_succ,Kq,KK];omega
theorem Fz(out:List (List Pa)):coL out≤out.length*2097154:=by
 unfold coL;induction out with
 |nil=>simp
 |cons x out ih=>
  have h1:=xI x;have h2:=xI (x.filter fun p=>p.n);simp only[Kq,KK,List.length_cons,co];omega
theorem rF{l:List Pa}(h:Can l):l.length≤2:=by
 match l,h with
 | [],_=>simp
 | [a],_=>simp
 | [a,b],_=>simp
 |a::b::c::l,h=>
  have h1:=(Kv.1 h).1 b Zm;have h2:=(Kv.1 (Kv.1 h).2).1 c Zm;rw[h1.2.1] at h2;cases h2.1
end Go.Proofs.YtecepaehmojpgaaGreat
namespace Go.Proofs.YtecepaehmojpgaaGreat
open Go.RowKit Go.Sort
attribute [local irreducible] KI
theorem Cw{h' hp:Hp}{nx nx1 n:Nat}{mv:V}{out:List (List Pa)}{ν:Nat→Nat}(F:rH h' hp nx nx1 n mv out ν){k:Nat}(hk:k<n)(hl:(out.getD k []).length≤1000){id:Nat}(hid:hp id=some .tip)(aB1:id<nx1):
 bD Tryz.prog 107 [lW (ν k) (out.getD k [])] hp nx1 fun v h2 nx2=>∃o,v=pas o (out.getD k [])∧rH h' h2 nx nx2 n mv out ν∧h2 id=some .tip∧id<nx2:=by
 by_cases hne:out.getD k []=[]
 ·rw[hne];have c:=jo xO or .nil [] Zm (fun _=>rfl) (fun L=>trivial) hp hp nx1 (aT _);refine c.mono ?_;rintro v h2 nx2 hnx ⟨rfl,rfl,rfl⟩;exact⟨.nil,rfl,F,hid,aB1⟩
 have aBQ:lW (ν k) (out.getD k [])= .rs (ν k) (.agg 2) 0 ((out.getD k []).map Ka).length:=by
  unfold lW vC;cases e:out.getD k [] with
  |nil=>exact absurd e hne
  |cons=>simp
 rw[aBQ];have c:=(D0 xO or (ν k) ((out.getD k []).map Ka) (by rw[jK];omega) (fun L=>bG (Pa.aAN L) _) hp (F.row k hk hne).1).2 hp nx1 (aT _);refine c.mono ?_;rintro v h2 nx2 hnx ⟨rfl,rfl,rfl⟩;refine⟨.tok nx1,rfl,F.aGd (Kj _) or _,?_,or⟩;unfold Ke;rw[if_neg or];exact hid
set_option maxRecDepth 100000 in
set_option maxHeartbeats 4000000 in
theorem Cf(ow:Own)(n:Nat)(l:List We)(a:Nat)(aAG:yR n l)(ha:a<n)(hn:n≤200)(hl:l.length≤1000)(h':Hp)(nx:Nat):
 bD Tryz.prog 72 [.agg [.int .i64 n,wes ow l], .int .i64 a] h' nx fun v h'' _=>∃O ν ls es,v= .rs O .leaf 0 ls.length∧nx≤O∧(∀i (hi:i<ls.length),ls[i]≠ []→nx≤ν i)∧ai h'' O (.agg 2) ν ls 0 es∧(∀x,x<nx→h'' x=h' x)∧ls=(lH n l a).map (List.map Ka):=by
 refine aF L.aX6 fun hd=>?_;have hmf:(V.agg [.int .i64 (n:Int),wes ow l]).fits (.agg 2)=true:=by simp[V.fits,V.aAD]
 simp only[jL,jM,jA,jB,jN,jO,jP,jQ,Kd];repeat (first|with_reducible refine bI ?_|with_reducible refine dJ ?_|with_reducible refine eD ?_|with_reducible refine aM ?_|with_reducible refine bZ ?_|with_reducible refine bL ?_|with_reducible refine dZ ?_)
 refine eU rfl (by simp only[hmf,go_sem,reduceIte,jA,jB,jC,jD,reduceCtorEq,jE,jF];try omega) ?_;simp only[hmf,go_sem,reduceIte,jA,jB,jC,jD,reduceCtorEq,jE,jF];repeat (first|with_reducible refine bI ?_|with_reducible refine dJ ?_|with_reducible refine eD ?_|with_reducible refine aM ?_|with_reducible refine bZ ?_|with_reducible refine bL ?_|with_reducible refine dZ ?_)
 refine eU rfl (by simp only[hmf,go_sem,reduceIte,jA,jB,jC,jD,reduceCtorEq,jE,jF];try omega) ?_;simp only[hmf,go_sem,reduceIte,jA,jB,jC,jD,reduceCtorEq,jE,jF];repeat (first|with_reducible refine bI ?_|with_reducible refine dJ ?_|with_reducible refine eD ?_|with_reducible refine aM ?_|with_reducible refine bZ ?_|with_reducible refine bL ?_|with_reducible refine dZ ?_)
 refine bE 3 rfl (by simp only[go_sem,reduceIte,jA,jB,jC,jD,reduceCtorEq,jE,jF]) ?_;refine Zn ?_;refine rL (by simp[aP.ev,V.fits,V.aAD]) ?_;simp only[jL,jM,Kq,Kt,go_sem,reduceIte,jA,jB,jC,jD,reduceCtorEq,jE,jF];have hg0:(Km n (V.sl (.agg 2) .nil [])).getD a (.tup [])= .sl (.agg 2) .nil []:=by
  rw[Ki,KG,if_pos ha];rfl
 have aJF:bW .leaf 0 (V.sl (.agg 2) .nil []) (.rs (nx+2) (.agg 2) 0 1)= .rs (nx+2) (.agg 2) 0 1:=cD rfl rfl
 (repeat' (first|(with_reducible first|refine stp ?_|refine bJ ZM ?_|refine iQ (fun _=>?_) (fun _=>?_))|((first|(with_reducible refine fV ?_;first|refine eJ rfl ?_ ?_|refine Zx ?_)|(with_reducible refine fW ?_;first|refine cB rfl ?_ ?_|refine ZX ?_)|refine Zy ?_)<;>try simp only[ha,KJ,hg0,aJF,go_sem,reduceIte,jA,jB,jC,jD,reduceCtorEq,jE,jF])|refine ZY ?_|omega))
 obtain⟨mv,hmv⟩:∃mv:V,mv= .agg [.int .i64 (n:Int),wes ow l]:=⟨_,rfl⟩;have F0:rH h' ((h'.set nx (.arr (.agg 2) [mv])).set (nx+1) (.arr .leaf (Km n (.sl (.agg 2) .nil [])))) nx (nx+2) n mv (Km n []) (fun _=>0):=by
  have aOO:∀k,(Km n ([]:List Pa)).getD k []=[]:=fun k=>by rw[Ki,KG];split<;>rfl
  refine⟨by simp only[go_sem,reduceIte,jA,jB,jC,jD,reduceCtorEq,jE,jF],?_,fun k hk hne=>absurd (aOO k) hne,fun j k hj hk hjk hnj=>absurd (aOO j) hnj,(by(try dsimp only);repeat (first|exact aI.up hd or|refine aI.aAh ?_ or _|refine aI.del ?_|refine aI.aAb ?_ _)),Kj _,(by(try dsimp only);repeat (first|exact Hp.same.aBG|refine aW ?_ or _|refine aX ?_ or))⟩;refine Zn ?_;congr 1;refine Kz (by simp[eW]) fun i i1 i2=>?_;simp only[eW,KB,Kw,aOO,List.getElem_replicate];rfl
 have hin:a<(Km n ([]:List Pa)).length:=by simpa using ha
 have F1:=F0.put Zm ha [Kg] Zm (x:=nx+2) (nx2:=nx+5) or or (hq:=((((h'.set nx (.arr (.agg 2) [mv])).set (nx+1) (.arr .leaf (Km n (.sl (.agg 2) .nil [])))).set (nx+2) (.arr (.agg 2) [Pa.aAQ.v])).set (nx+1) (.arr .leaf ((Km n (.sl (.agg 2) .nil [])).set a (.rs (nx+2) (.agg 2) 0 1)))).set (nx+4) .tip)
  (by simp only[Kq,Kt,go_sem,reduceIte,jA,jB,jC,jD,reduceCtorEq,jE,jF]) (by
    have:eW n (fun _=>0) (Km n [])=Km n (.sl (.agg 2) .nil []):=by
     have:=F0.tab;simp only[go_sem,reduceIte,jA,jB,jC,jD,reduceCtorEq,jE,jF] at this;injection this with _ h2;exact h2.symm
    simp only[this,jL,jM,go_sem,reduceIte,jA,jB,jC,jD,reduceCtorEq,jE,jF]) (fun y h1 h2 _ h4=>by
    have e1:(y=nx+4)=False:=eq_false or;have e2:(y=nx+1)=False:=eq_false h2;have e3:(y=nx+2)=False:=eq_false h1;simp only[e1,e2,e3,go_sem,reduceIte,jA,jB,jC,jD,reduceCtorEq,jE,jF]) (by(try dsimp only);repeat (first|exact aI.up hd or|refine aI.aAh ?_ or _|refine aI.del ?_|refine aI.aAb ?_ _))
 refine aO (fun q:List (List Pa)×(Nat→Nat)×List Nat×Nat=>aB 88 0 [(2, .ptr nx (.agg 2) 0 0),(5, .rs (nx+1) .leaf 0 n),(6,hZ q.2.2.2 q.2.2.1)])
  (fun q hp nx1=>rH h' hp nx nx1 n mv q.1 q.2.1∧hp q.2.2.2=some .tip∧nx+2≤q.2.2.2∧q.2.2.2<nx1∧ss l n a q.1 q.2.2.1∧coL q.1+q.2.2.1.length≤1000000000)
  (fun q=>coL q.1+q.2.2.1.length) ((Km n []).set a [Kg],(fun k=>if k=a then nx+2 else 0),[a],nx+4) ⟨?_,?_,Zw,Zw,ss.first ha,?_⟩ ?_ ?_
 ·rw[←hmv];exact F1
 ·simp only[go_sem,reduceIte,jA,jB,jC,jD,reduceCtorEq,jE,jF]
 ·have:=Fz ((Km n ([]:List Pa)).set a [Kg]);simp only[List.length_set,KJ,jL,jM] at this⊢;omega
 ·simp only[WkL,aB,jH,jI,jJ,hZ,go_sem,reduceIte,jA,jB,jC,jD,reduceCtorEq,jE,jF]
 clear F0 F1 hg0 aJF;rintro⟨out,ν,todo,id⟩ hp nx1 ⟨F,q2,q3,q4,W,q6⟩;generalize hQ:bH _ _ _ _ _=Q0;dsimp only at q2 q3 q4 q6 F W;simp only[aB,go_sem,reduceIte,jA,jB,jC,jD,reduceCtorEq,jE,jF];have aAg:=F.box;rw[hmv] at aAg;have aBP:=F.tab;have hge:=F.ge;cases todo with
 |nil=>
  have hc:decide ((0:Int)<((0:Nat):Int))=false:=ZM
  (repeat' (first|(with_reducible first|refine stp ?_|refine bJ ZM ?_|refine iQ (fun _=>?_) (fun _=>?_))|((first|(with_reducible refine fV ?_;first|refine eJ rfl ?_ ?_|refine Zx ?_)|(with_reducible refine fW ?_;first|refine cB rfl ?_ ?_|refine ZX ?_)|refine Zy ?_)<;>try simp only[hZ,hc,jK,go_sem,reduceIte,jA,jB,jC,jD,reduceCtorEq,jE,jF])|refine ZY ?_|omega))
  rw[←hQ];refine au ?_;have hfl:lH n l a=out:=xd W.len fun k hk=>W.done (fun w hw=>(aAG w hw).2.1) ha k;have hol:=W.len;refine aG hp (Kc _) ⟨nx+1,ν,out.map (List.map Ka),eW n ν out,?_,or,fun i hi hne=>?_,?_,F.same,by rw[hfl]⟩
  ·simp only[jK,hol,go_sem,reduceIte,jA,jB,jC,jD,reduceCtorEq,jE,jF]
  ·have hi':i<n:=by simpa [hol] using hi
   have hgi:out.getD i []=out[i]'or:=by rw[Ki,Kp or];rfl
   have:=(F.row i hi' (by rw[hgi];intro e;exact hne (by simp[e]))).2.1;omega
  have hgi:∀i (hi:i<n),out.getD i []=out[i]'or:=fun i hi=>by rw[Ki,Kp or];rfl
  refine⟨aBP,by rw[wC];simp[hol],fun i hi hi' h0=>absurd h0 or,fun i hi hi' _=>?_,fun i hi _ hne=>?_,fun i i' hi hi' _ hlt hne aOY=>?_⟩
  ·have hin:i<n:=by simpa [hol] using hi
   simp only[eW,KB,Kw,hgi i hin]
  ·have hin:i<n:=by simpa [hol] using hi
   have:=F.row i hin (by rw[hgi i hin];intro e;exact hne (by simp[e]));rw[hgi i hin] at this;exact⟨by rw[this.1];simp,or⟩
  have hin:i<n:=by simpa [hol] using hi
  have aVd:i'<n:=by simpa [hol] using hi'
  exact F.apart i i' hin aVd or (by rw[hgi i hin];intro e;exact hne (by simp[e])) (by rw[hgi i' aVd];intro e;exact aOY (by simp[e]))
 |cons k rest=>
  have hk:k<n:=W.lt k Zm;have aBv:=jp (ν:=ν) (out:=out) hk;have aBu:=wC n ν out;have aBc:=ny (ν k) (out.getD k []);have aOn:(out.getD k []).length≤1000:=KF (rF (W.can k)) or;have hcl:=Cw F hk aOn q2 q4
  (repeat' (first|(with_reducible first|refine stp ?_|refine bJ ZM ?_|refine iQ (fun _=>?_) (fun _=>?_))|((first|(with_reducible refine fV ?_;first|refine eJ rfl ?_ ?_|refine Zx ?_)|(with_reducible refine fW ?_;first|refine cB rfl ?_ ?_|refine ZX ?_)|refine Zy ?_)<;>try simp only[hZ,Fs,Av,aAg,aBP,hk,aBv,aBu,aBc,jK,jG,go_sem,reduceIte,jA,jB,jC,jD,reduceCtorEq,jE,jF])|refine ZY ?_|omega))
  refine bN (hcl.mono ?_);rintro v2 hq nx2 aBs ⟨o8,rfl,F2,q2b,q4b⟩;unfold dM;have hfl:List.take rest.length (rest.map fun x:Nat=>V.int .i64 (x:Int))=rest.map fun x:Nat=>V.int .i64 (x:Int):=KH Zm;have aJz:=F2.box;rw[hmv] at aJz;have hpl:=rF (W.can k);have WI:=W.begin;obtain⟨paths,aJh⟩:∃paths,paths=out.getD k []:=⟨_,rfl⟩;rw[←aJh] at hpl WI⊢;simp only[hfl,go_sem,reduceIte,jA,jB,jC,jD,reduceCtorEq,jE,jF];refine aue aJz ?_;refine aO (fun q:Nat×List (List Pa)×(Nat→Nat)×List Nat×Nat=>aB 88 0 [(2, .ptr nx (.agg 2) 0 0),(5, .rs (nx+1) .leaf 0 n),(6,hZ q.2.2.2.2 q.2.2.2.1),(7, .int .i64 k),(8,pas o8 paths),(40,wes ow l),(41, .int .i64 l.length),(42, .int .i64 q.1)])
   (fun q hp nx1=>q.1≤l.length∧rH h' hp nx nx1 n mv q.2.1 q.2.2.1∧hp q.2.2.2.2=some .tip∧nx+2≤q.2.2.2.2∧q.2.2.2.2<nx1∧nU l n a k paths (fun w _=>w∈l.take q.1) q.2.1 q.2.2.2.1∧coL q.2.1+q.2.2.2.1.length≤coL out+rest.length)
   (fun q=>l.length-q.1) (0,out,ν,rest,id) ⟨KS _,F2,q2b,q3,q4b,WI.more (fun w hw p hp h=>by simp at h),Kj _⟩ ?_ ?_
  ·simp only[WkL,aB,jH,jI,jJ,hZ,pas,wes,go_sem,reduceIte,jA,jB,jC,jD,reduceCtorEq,jE,jF]
  rintro⟨j,aNo,ν3,aHt,id3⟩ hp3 nx3 ⟨r1,F3,r2,r3,r4,W3,r6⟩;generalize hQ3:bH _ _ _ _ _=Q3;dsimp only at r1 r2 r3 r4 r6 F3 W3;simp only[aB,go_sem,reduceIte,jA,jB,jC,jD,reduceCtorEq,jE,jF];rcases KR j l.length with hlt|aHG
  ·have hc:decide ((j:Int)<(l.length:Int))=true:=decide_eq_true or;have hg:(l.map We.v).getD j (.tup [])=l[j].v:=bO We.v l j hlt;have hw:IntKind.i64.wrap ((j:Int)+1)=((j+1:Nat):Int):=by rw[bB]<;>omega
   have htk:l.take (j+1)=l.take j++[l[j]]:=Ky hlt;have hge:=F3.ge;have hwf:=aAG l[j] (KE _);by_cases hfk:l[j].f=k
   ·have hcf:((l[j].f:Int) != (k:Int))=false:=by simp[hfk]
    refine aue (ee6 hc hg hw hlt hcf We.v.eq_1) ?_;obtain⟨bA,hbA⟩:∃bA:Blk,bA= .arr (.agg 4) [V.agg [V.int Ks 0,V.int Ks 0,V.bool false,V.int Ks 0]]:=⟨_,rfl⟩;have F4:rH h' ((hp3.set nx3 bA).set nx3 (.arr (.agg 4) [l[j].v])) nx (nx3+2) n mv aNo ν3:=(F3.aGd (x:=nx3) (Kj _) (nx2:=nx3+2) or _).again or or (fun k hk hne=>by have:=(F3.row k hk hne).2.2;omega) _;rw[←hbA];have e1:(id3=nx3)=False:=eq_false or;refine aO (fun q:Nat×List (List Pa)×(Nat→Nat)×List Nat×Nat=>aB 88 0 [(2, .ptr nx (.agg 2) 0 0),(5, .rs (nx+1) .leaf 0 n),(6,hZ q.2.2.2.2 q.2.2.2.1),(7, .int .i64 k),(8,pas o8 paths),(10, .ptr nx3 (.agg 4) 0 0),(40,wes ow l),(41, .int .i64 l.length),(42, .int .i64 j),(50,pas o8 paths),(51, .int .i64 paths.length),(52, .int .i64 q.1)])
     (fun q hp nx1=>q.1≤paths.length∧rH h' hp nx nx1 n mv q.2.1 q.2.2.1∧hp q.2.2.2.2=some .tip∧nx+2≤q.2.2.2.2∧q.2.2.2.2<nx1∧hp nx3=some (.arr (.agg 4) [l[j].v])∧nx3+2≤nx1∧(∀k,k<n→q.2.1.getD k []≠ []→q.2.2.1 k≠nx3)∧nU l n a k paths (fun w p=>w∈l.take j∨(w=l[j]∧p∈paths.take q.1)) q.2.1 q.2.2.2.1∧coL q.2.1+q.2.2.2.1.length≤coL out+rest.length)
     (fun q=>paths.length-q.1) (0,aNo,ν3,aHt,id3) ⟨KS _,F4,by simp only[e1,r2,go_sem,reduceIte,jA,jB,jC,jD,reduceCtorEq,jE,jF],r3,Zw,by simp only[We.v,go_sem,reduceIte,jA,jB,jC,jD,reduceCtorEq,jE,jF],Kj _,fun k hk hne=>by have:=(F3.row k hk hne).2.2;dsimp only;omega,W3.more (fun w hw p hp h hf=> .inl (h.elim (fun h=>h) fun h=>by simp at h)),r6⟩ ?_ ?_
    ·have e50:paths.length=(paths.map Ka).length:=Zm;simp only[WkL,aB,jH,jI,jJ,hZ,pas,wes,jK,We.v,go_sem,reduceIte,jA,jB,jC,jD,reduceCtorEq,jE,jF]
    rintro⟨i,aA3,ν4,aB8,id4⟩ hp4 nx4 ⟨s1,F5,s2,s3,s4,s5,s6,s7,W4,s8⟩;generalize hQ4:bH _ _ _ _ _=Q4;dsimp only at s1 s2 s3 s4 s5 s6 s7 s8 F5 W4;simp only[aB,go_sem,reduceIte,jA,jB,jC,jD,reduceCtorEq,jE,jF];have aBe:=F5.tab;have aVg:=F5.ge;rcases KR i paths.length with aBi|aZL
    ·have hc:decide ((i:Int)<(paths.length:Int))=true:=decide_eq_true or;have hg4:(paths.map Ka).getD i (.tup [])=paths[i].v:=bO Ka paths i aBi;have hw4:IntKind.i64.wrap ((i:Int)+1)=((i+1:Nat):Int):=by rw[bB]<;>omega
     have hti:l[j].t<n:=hwf.2.1;have aDE:=Pa.aDh paths[i] l[j].p;have aNq:paths.take (i+1)=paths.take i++[paths[i]]:=Ky aBi;have hpi:paths[i]∈paths:=KE _;have hwj:l[j]∈l:=KE _;have hlp:=gZ (k:=Sh.agg 2) (Kb paths[i]);have hfp:=Kb paths[i];have hft:=Kb (paths[i].then l[j].p).1;have aBv:=jp (ν:=ν4) (out:=aA3) hti;have aBu:=wC n ν4 aA3;have aBc:=ny (ν4 l[j].t) (aA3.getD l[j].t []);have n1:(nx=nx4+1)=False:=eq_false or;have n2:(nx+1=nx4)=False:=eq_false or;have n3:nx+1<nx4:=or;have n4:nx3<nx4:=or;have n5:(nx3=nx4)=False:=eq_false or;have n6:(nx3=nx4+2)=False:=eq_false or;have i1:(id4=nx4)=False:=eq_false or;have i2:(id4=nx4+2)=False:=eq_false or;have n7:((0:Int)≤(i:Int))=True:=eq_true or;have n8:((i:Int)<(paths.length:Int))=True:=eq_true or;have n9:((0:Int)≤(l[j].t:Int))=True:=eq_true or;have n10:((l[j].t:Int)<(n:Int))=True:=eq_true or;by_cases he:(paths[i].then l[j].p).2=0
     ·rw[if_pos he] at aDE;have hce:decide ((paths[i].then l[j].p).2=0)=true:=decide_eq_true he;obtain⟨r,hr⟩:∃r,r=(paths[i].then l[j].p).1:=⟨_,rfl⟩;rw[←hr] at aDE hft;have hfr:=Kb r;by_cases hdo:mB (aA3.getD l[j].t []) r
      ·(repeat' (first|(with_reducible first|refine stp ?_|refine bJ ZM ?_|refine iQ (fun _=>?_) (fun _=>?_))|((first|(with_reducible refine fV ?_;first|refine eJ rfl ?_ ?_|refine aQ (qH paths[i] l[j].p _) rfl (aT _) ?_|refine Zx ?_)|(with_reducible refine fW ?_;first|refine cB rfl ?_ ?_|refine ZX ?_)|refine Zy ?_)<;>try simp only[hc,hg4,aBi,hw4,hce,iL,hlp,hfp,hft,aBv,aBu,hti,aBc,n1,n2,n3,n4,n5,n6,n7,n8,n9,n10,and_self,and_true,true_and,s5,s6,aBe,We.v,←hr,jK,jG,go_sem,reduceIte,jA,jB,jC,jD,reduceCtorEq,jE,jF])|refine ZY ?_|omega))
       have aDm:aA3.getD l[j].t []≠ []:=fun e=>by obtain⟨q,hq,_⟩:=hdo;rw[e] at hq;cases hq
       have aEh:=(F5.row _ hti aDm).1;have hl4:=rF (W4.can l[j].t);have hst:bW .leaf 0 (lW (ν4 l[j].t) (aA3.getD l[j].t [])) (lW (ν4 l[j].t) (aA3.getD l[j].t []))=lW (ν4 l[j].t) (aA3.getD l[j].t []):=cD aBc aBc;have aOL:(eW n ν4 aA3).set l[j].t (lW (ν4 l[j].t) (aA3.getD l[j].t []))=eW n ν4 aA3:=by
        refine Kz Zm fun i i1 i2=>?_;rw[KM];split
        ·rename_i e;subst e;rw[←aBv,Ki,Kp i2];rfl
        rfl
       have aDF:∀hx:Hp,(hx (nx+1)=some (.arr .leaf (eW n ν4 aA3)))→hx.set (nx+1) (.arr .leaf (eW n ν4 aA3))=hx:=fun hx e=>by
        funext y;unfold Ke;split
        ·rename_i e';subst e';exact e.symm
        rfl
       refine iI (uz (ν4 l[j].t) (aA3.getD l[j].t []) r or hdo (Ke (fun _=>none) (ν4 l[j].t) (.arr (.agg 2) ((aA3.getD l[j].t []).map Ka))) ?_) rfl ?_ ?_
       ·simp only[go_sem,reduceIte,jA,jB,jC,jD,reduceCtorEq,jE,jF]
       ·intro y es e _;unfold Ke at e;split at e
        ·rename_i ey;have h1:=(F5.row _ hti aDm).2.2;have m1:(ν4 l[j].t=nx4)=False:=eq_false or;have m2:(ν4 l[j].t=nx4+2)=False:=eq_false or;rw[←e,ey];simp only[iV,m1,m2,aEh,go_sem,reduceIte,jA,jB,jC,jD,reduceCtorEq,jE,jF]
        cases e
       refine Zn ?_;refine aue and_self ?_;refine nM (es:=eW n ν4 aA3) rfl (lN or (by simp only[n1,n2,aBe,go_sem,reduceIte,jA,jB,jC,jD,reduceCtorEq,jE,jF]) (by simp only[cS])) (by rw[aBu];exact hti) (by first|exact gF _|simp only[go_sem,reduceIte,jA,jB,jC,jD,reduceCtorEq,jE,jF]) aBc ?_;simp only[aBv,hst,aOL,jG,go_sem,reduceIte,jA,jB,jC,jD,reduceCtorEq,jE,jF];refine aue (EK aBv aBu hti aBc n1 n2 n3 n4 n5 n6 n9 n10 and_self and_true true_and aBe) ?_;rw[←hQ4,aDF _ (by simp only[n1,n2,aBe,go_sem,reduceIte,jA,jB,jC,jD,reduceCtorEq,jE,jF])];have FB:=((((F5.aGd (x:=nx4) (Kj _) (nx2:=nx4+20) or (.arr (.agg 2) [V.agg [V.bool false,V.int Ks 0]])).again or or (fun k hk hne=>by have:=(F5.row k hk hne).2.2;omega) (.arr (.agg 2) [paths[i].v])).again (x:=nx4+2) or or (fun k hk hne=>by have:=(F5.row k hk hne).2.2;omega) (.arr (.agg 2) [V.agg [V.bool false,V.int Ks 0]])).again (x:=nx4+2) or or (fun k hk hne=>by have:=(F5.row k hk hne).2.2;omega) (.arr (.agg 2) [r.v]));refine aD (i+1,aA3,ν4,aB8,id4) Zw ⟨aBi,FB,by simp only[i1,i2,s2,go_sem,reduceIte,jA,jB,jC,jD,reduceCtorEq,jE,jF],s3,Zw,by simp only[n5,n6,s5,go_sem,reduceIte,jA,jB,jC,jD,reduceCtorEq,jE,jF],or,fun k hk hne=>s7 k hk hne,W4.more (fun w hw p hp h hf=>?_),s8⟩ ?_
       ·rcases h with h|⟨h1,h2⟩
        ·exact .inl (.inl h)
        dsimp only at h2;rw[aNq] at h2;rcases Ku.1 h2 with h|h
        ·exact .inl (.inr ⟨h1,h⟩)
        refine .inr fun r' hr'=>?_;rw[h1,Ko.1 h,aDE] at hr';injection hr' with hr';rw[h1,←hr'];exact hdo
       simp only[WkL,aB,jH,jI,jJ,hZ,pas,wes,hw4,go_sem,reduceIte,jA,jB,jC,jD,reduceCtorEq,jE,jF]
      have hl4:=rF (W4.can l[j].t);by_cases aDm:aA3.getD l[j].t []=[]
      --PUT0
      ·have hpy:=A5 (ν4 l[j].t) (aA3.getD l[j].t []) r (W4.can _) or hdo ((((hp4.set nx4 (.arr (.agg 2) [V.agg [V.bool false,V.int .i64 0]])).set nx4 (.arr (.agg 2) [paths[i].v])).set (nx4+2) (.arr (.agg 2) [V.agg [V.bool false,V.int .i64 0]])).set (nx4+2) (.arr (.agg 2) [r.v]))
        (fun hne=>absurd aDm hne)
       rw[if_pos aDm] at hpy
       (repeat' (first|(with_reducible first|refine stp ?_|refine bJ ZM ?_|refine iQ (fun _=>?_) (fun _=>?_))|((first|(with_reducible refine fV ?_;first|refine eJ rfl ?_ ?_|refine aQ (qH paths[i] l[j].p _) rfl (aT _) ?_|refine Zx ?_)|(with_reducible refine fW ?_;first|refine cB rfl ?_ ?_|refine ZX ?_)|refine Zy ?_)<;>try simp only[hc,hg4,aBi,hw4,hce,iL,hlp,hfp,hft,hfr,aBv,aBu,hti,aBc,n1,n2,n3,n4,n5,n6,n7,n8,n9,n10,and_self,and_true,true_and,s5,s6,aBe,We.v,←hr,jK,jG,go_sem,reduceIte,jA,jB,jC,jD,reduceCtorEq,jE,jF])|refine ZY ?_|omega))
       refine i7 hpy rfl (fun c' ec=>by cases ec) trivial ?_;refine Zn ?_;refine aue and_self ?_;refine nM (es:=eW n ν4 aA3) rfl (lN or (by simp only[n1,n2,aBe,go_sem,reduceIte,jA,jB,jC,jD,reduceCtorEq,jE,jF]) (by simp only[cS])) (by rw[aBu];exact hti) (by first|exact gF _|simp only[go_sem,reduceIte,jA,jB,jC,jD,reduceCtorEq,jE,jF]) rfl ?_;have hst:∀x L,bW .leaf 0 (lW (ν4 l[j].t) (aA3.getD l[j].t [])) (.rs x (.agg 2) 0 L)= .rs x (.agg 2) 0 L:=fun x L=>cD aBc rfl;simp only[aBv,hst,jG,go_sem,reduceIte,jA,jB,jC,jD,reduceCtorEq,jE,jF];have k1:(id4=nx+1)=False:=eq_false (fun e=>by rw[e,aBe] at s2;cases s2);have k3:(nx3=nx+1)=False:=eq_false or;have k5:(id4=nx4+13)=False:=eq_false or;have k6:(id4=nx4+20)=False:=eq_false or;have hrl:aB8.length≤1000000000:=by simp only[jL] at q6;omega
       have aH9:(aB8.length+1)*8≤140737488355328:=or
       (repeat' (first|(with_reducible first|refine stp ?_|refine bJ ZM ?_|refine iQ (fun _=>?_) (fun _=>?_))|((first|(with_reducible refine fV ?_;first|refine eJ rfl ?_ ?_|refine sH rfl rfl (by simp only[n1,n2,n3,n4,n5,n6,n9,n10,k1,k3,k5,i1,i2,s2,s4,s5,s6,aH9,hZ,We.v,jK,and_self,and_true,true_and,n1,n2,n3,n4,n5,n6,n9,n10,k1,k3,k5,i1,i2,s2,s4,s5,s6,aH9,hZ,We.v,jK,and_self,and_true,true_and,go_sem,reduceIte,jA,jB,jC,jD,reduceCtorEq,jE,jF];try omega) ?_|refine Zx ?_)|(with_reducible refine fW ?_;first|refine cB rfl ?_ ?_|refine ZX ?_)|refine Zy ?_)<;>try simp only[n1,n2,n3,n4,n5,n6,n9,n10,k1,k3,k5,i1,i2,s2,s4,s5,s6,aH9,hZ,We.v,jK,and_self,and_true,true_and,go_sem,reduceIte,jA,jB,jC,jD,reduceCtorEq,jE,jF])|refine ZY ?_|omega))
       rw[←hQ4];have hx0:nx4+13<nx4+20:=or;have p1:(nx4+13=nx+1)=False:=eq_false or;have p2:(nx4+12=nx)=False:=eq_false or;have aA8:gJ (aA3.getD l[j].t []) r≠ []:=by unfold gJ;split<;>simp
       have FA:=F5.put W4.len hti (gJ (aA3.getD l[j].t []) r) aA8 (x:=nx4+13) (nx2:=nx4+20) or hx0 (hq:=((((((hp4.set nx4 (.arr (.agg 2) [V.agg [V.bool false,V.int .i64 0]])).set nx4 (.arr (.agg 2) [paths[i].v])).set (nx4+2) (.arr (.agg 2) [V.agg [V.bool false,V.int .i64 0]])).set (nx4+2) (.arr (.agg 2) [r.v])).set (nx4+13) (.arr (.agg 2) ((gJ (aA3.getD l[j].t []) r).map Ka)))).set (nx+1) (.arr .leaf ((eW n ν4 aA3).set l[j].t (.rs (nx4+13) (.agg 2) 0 (gJ (aA3.getD l[j].t []) r).length))))
        (by simp only[p1,p2,go_sem,reduceIte,jA,jB,jC,jD,reduceCtorEq,jE,jF]) (by simp only[go_sem,reduceIte,jA,jB,jC,jD,reduceCtorEq,jE,jF]) (fun y y1 y2 y3 y4=>by
          have z1:(y=nx4)=False:=eq_false or;have z2:(y=nx4+2)=False:=eq_false or;have z3:(y=nx4+13)=False:=eq_false or;have z4:(y=nx+1)=False:=eq_false y2;simp only[z1,z2,z3,z4,go_sem,reduceIte,jA,jB,jC,jD,reduceCtorEq,jE,jF]) (by(try dsimp only);repeat (first|exact aI.up F5.dom or|refine aI.aAh ?_ or _|refine aI.del ?_|refine aI.aAb ?_ _))
       have FB:=((FA.aGd (x:=nx4+20) (Kj _) (nx2:=nx4+21) or .tip).del (id:=id4) (by simp only[i1,i2,k1,k5,k6,s2,go_sem,reduceIte,jA,jB,jC,jD,reduceCtorEq,jE,jF]) s3).aGd (x:=nx4+21) (Kj _) (nx2:=nx4+22) or .tip;have hco:=Bq (by rw[W4.len];exact hti) (DY (fun x hx=>(W4.val l[j].t x hx).ok) ((hfk▸W4.pv _ hpi:Val l a l[j].f paths[i]).step hwj aDE).ok hdo);have WP:=W4.put hwj hfk hti hpi aDE hdo;have k7:(nx3=id4)=False:=eq_false (fun e=>by rw[←e,s5] at s2;cases s2);have k8:(nx3=nx4+13)=False:=eq_false or;have k9:(nx3=nx4+20)=False:=eq_false or;have k10:(nx3=nx4+21)=False:=eq_false or;refine aD (i+1,aA3.set l[j].t (gJ (aA3.getD l[j].t []) r),(fun k=>if k=l[j].t then nx4+13 else ν4 k),aB8++[l[j].t],nx4+21) Zw ⟨aBi,FB,by simp only[go_sem,reduceIte,jA,jB,jC,jD,reduceCtorEq,jE,jF],Zw,Zw,by simp only[n5,n6,k3,k7,k8,k9,k10,s5,go_sem,reduceIte,jA,jB,jC,jD,reduceCtorEq,jE,jF],by(try dsimp only);omega,fun k' hk' hne=>?_,WP.more (fun w hw p hp h hf=> .inl ?_),by simp only[KL,jL,jM];omega⟩ ?_
       ·dsimp only;dsimp only at hne;split
        ·omega
        rename_i hkt;rw[mQ _ _ _ _ _ (by rw[W4.len];exact hti),if_neg hkt] at hne;exact s7 k' hk' hne
       ·rcases h with h|⟨h1,h2⟩
        ·exact .inl (.inl h)
        dsimp only at h2;rw[aNq] at h2;rcases Ku.1 h2 with h|h
        ·exact .inl (.inr ⟨h1,h⟩)
        exact .inr ⟨h1,Ko.1 h⟩
       simp only[WkL,aB,jH,jI,jJ,hZ,pas,wes,hw4,KP,Kq,Kt,go_sem,reduceIte,jA,jB,jC,jD,reduceCtorEq,jE,jF]
      ·have aEh:=(F5.row _ hti aDm).1;have hν4:=(F5.row _ hti aDm).2;have m1:(ν4 l[j].t=nx4)=False:=eq_false or;have m2:(ν4 l[j].t=nx4+2)=False:=eq_false or;have hpy:=A5 (ν4 l[j].t) (aA3.getD l[j].t []) r (W4.can _) or hdo ((((hp4.set nx4 (.arr (.agg 2) [V.agg [V.bool false,V.int .i64 0]])).set nx4 (.arr (.agg 2) [paths[i].v])).set (nx4+2) (.arr (.agg 2) [V.agg [V.bool false,V.int .i64 0]])).set (nx4+2) (.arr (.agg 2) [r.v]))
        (fun _=>by simp only[m1,m2,aEh,go_sem,reduceIte,jA,jB,jC,jD,reduceCtorEq,jE,jF])
       rw[if_neg aDm] at hpy
       (repeat' (first|(with_reducible first|refine stp ?_|refine bJ ZM ?_|refine iQ (fun _=>?_) (fun _=>?_))|((first|(with_reducible refine fV ?_;first|refine eJ rfl ?_ ?_|refine aQ (qH paths[i] l[j].p _) rfl (aT _) ?_|refine Zx ?_)|(with_reducible refine fW ?_;first|refine cB rfl ?_ ?_|refine ZX ?_)|refine Zy ?_)<;>try simp only[hc,hg4,aBi,hw4,hce,iL,hlp,hfp,hft,hfr,aBv,aBu,hti,aBc,n1,n2,n3,n4,n5,n6,n7,n8,n9,n10,and_self,and_true,true_and,s5,s6,aBe,We.v,←hr,jK,jG,go_sem,reduceIte,jA,jB,jC,jD,reduceCtorEq,jE,jF])|refine ZY ?_|omega))
       refine i7 hpy rfl (fun c' ec x hx m k i o ex=>?_) (lN Zw (by simp only[m1,m2,aEh,go_sem,reduceIte,jA,jB,jC,jD,reduceCtorEq,jE,jF]) (by simp only[cS])) ?_
       ·rw[Ko.1 hx] at ex;injection ec with ec;subst ec;injection ex with ex;dsimp only;exact ex▸(s7 _ hti aDm).symm
       refine Zn ?_;refine aue and_self ?_;have m3:(ν4 l[j].t=nx+1)=False:=eq_false or;have m4:(nx+1=ν4 l[j].t)=False:=eq_false or;have m5:nx+1≠ν4 l[j].t:=or;refine nM (es:=eW n ν4 aA3) rfl (lN or (by simp only[n1,n2,aBe,go_sem,reduceIte,jA,jB,jC,jD,reduceCtorEq,jE,jF]) ⟨m5,(by simp only[cS])⟩) (by rw[aBu];exact hti) (by first|exact gF _|simp only[go_sem,reduceIte,jA,jB,jC,jD,reduceCtorEq,jE,jF]) rfl ?_;have hst:∀x L,bW .leaf 0 (lW (ν4 l[j].t) (aA3.getD l[j].t [])) (.rs x (.agg 2) 0 L)= .rs x (.agg 2) 0 L:=fun x L=>cD aBc rfl;simp only[aBv,hst,jG,go_sem,reduceIte,jA,jB,jC,jD,reduceCtorEq,jE,jF];have k1:(id4=nx+1)=False:=eq_false (fun e=>by rw[e,aBe] at s2;cases s2);have k2:(id4=ν4 l[j].t)=False:=eq_false (fun e=>by rw[e,aEh] at s2;cases s2);have k3:(nx3=nx+1)=False:=eq_false or;have k4:(nx3=ν4 l[j].t)=False:=eq_false (s7 _ hti aDm).symm;have k5:(id4=nx4+13)=False:=eq_false or;have k6:(id4=nx4+20)=False:=eq_false or;have hrl:aB8.length≤1000000000:=by simp only[jL] at q6;omega
       have aH9:(aB8.length+1)*8≤140737488355328:=or
       (repeat' (first|(with_reducible first|refine stp ?_|refine bJ ZM ?_|refine iQ (fun _=>?_) (fun _=>?_))|((first|(with_reducible refine fV ?_;first|refine eJ rfl ?_ ?_|refine sH rfl rfl (by simp only[n1,n2,n3,n4,n5,n6,n9,n10,k1,k3,k2,k4,k5,i1,i2,s2,s4,s5,s6,aH9,hZ,We.v,jK,and_self,and_true,true_and,n1,n2,n3,n4,n5,n6,n9,n10,k1,k3,k2,k4,k5,i1,i2,s2,s4,s5,s6,aH9,hZ,We.v,jK,and_self,and_true,true_and,go_sem,reduceIte,jA,jB,jC,jD,reduceCtorEq,jE,jF];try omega) ?_|refine Zx ?_)|(with_reducible refine fW ?_;first|refine cB rfl ?_ ?_|refine ZX ?_)|refine Zy ?_)<;>try simp only[n1,n2,n3,n4,n5,n6,n9,n10,k1,k3,k2,k4,k5,i1,i2,s2,s4,s5,s6,aH9,hZ,We.v,jK,and_self,and_true,true_and,go_sem,reduceIte,jA,jB,jC,jD,reduceCtorEq,jE,jF])|refine ZY ?_|omega))
       rw[←hQ4];have hx0:nx4+13<nx4+20:=or;have p1:(nx4+13=nx+1)=False:=eq_false or;have p2:(nx4+12=nx)=False:=eq_false or;have p3:(nx4+13=ν4 l[j].t)=False:=eq_false or;have aA8:gJ (aA3.getD l[j].t []) r≠ []:=by unfold gJ;split<;>simp
       have FA:=F5.put W4.len hti (gJ (aA3.getD l[j].t []) r) aA8 (x:=nx4+13) (nx2:=nx4+20) or hx0 (hq:=((((((hp4.set nx4 (.arr (.agg 2) [V.agg [V.bool false,V.int .i64 0]])).set nx4 (.arr (.agg 2) [paths[i].v])).set (nx4+2) (.arr (.agg 2) [V.agg [V.bool false,V.int .i64 0]])).set (nx4+2) (.arr (.agg 2) [r.v])).set (nx4+13) (.arr (.agg 2) ((gJ (aA3.getD l[j].t []) r).map Ka))).del (ν4 l[j].t)).set (nx+1) (.arr .leaf ((eW n ν4 aA3).set l[j].t (.rs (nx4+13) (.agg 2) 0 (gJ (aA3.getD l[j].t []) r).length))))
        (by simp only[p1,p2,p3,go_sem,reduceIte,jA,jB,jC,jD,reduceCtorEq,jE,jF]) (by simp only[go_sem,reduceIte,jA,jB,jC,jD,reduceCtorEq,jE,jF]) (fun y y1 y2 y3 y4=>by
          have z1:(y=nx4)=False:=eq_false or;have z2:(y=nx4+2)=False:=eq_false or;have z3:(y=nx4+13)=False:=eq_false or;have z4:(y=nx+1)=False:=eq_false y2;have z5:(y=ν4 l[j].t)=False:=eq_false (y3 aDm);simp only[z1,z2,z3,z4,z5,go_sem,reduceIte,jA,jB,jC,jD,reduceCtorEq,jE,jF]) (by(try dsimp only);repeat (first|exact aI.up F5.dom or|refine aI.aAh ?_ or _|refine aI.del ?_|refine aI.aAb ?_ _))
       have FB:=((FA.aGd (x:=nx4+20) (Kj _) (nx2:=nx4+21) or .tip).del (id:=id4) (by simp only[i1,i2,k1,k2,k5,k6,s2,go_sem,reduceIte,jA,jB,jC,jD,reduceCtorEq,jE,jF]) s3).aGd (x:=nx4+21) (Kj _) (nx2:=nx4+22) or .tip;have hco:=Bq (by rw[W4.len];exact hti) (DY (fun x hx=>(W4.val l[j].t x hx).ok) ((hfk▸W4.pv _ hpi:Val l a l[j].f paths[i]).step hwj aDE).ok hdo);have WP:=W4.put hwj hfk hti hpi aDE hdo;have k7:(nx3=id4)=False:=eq_false (fun e=>by rw[←e,s5] at s2;cases s2);have k8:(nx3=nx4+13)=False:=eq_false or;have k9:(nx3=nx4+20)=False:=eq_false or;have k10:(nx3=nx4+21)=False:=eq_false or;refine aD (i+1,aA3.set l[j].t (gJ (aA3.getD l[j].t []) r),(fun k=>if k=l[j].t then nx4+13 else ν4 k),aB8++[l[j].t],nx4+21) Zw ⟨aBi,FB,by simp only[go_sem,reduceIte,jA,jB,jC,jD,reduceCtorEq,jE,jF],Zw,Zw,by simp only[n5,n6,k3,k4,k7,k8,k9,k10,s5,go_sem,reduceIte,jA,jB,jC,jD,reduceCtorEq,jE,jF],by(try dsimp only);omega,fun k' hk' hne=>?_,WP.more (fun w hw p hp h hf=> .inl ?_),by simp only[KL,jL,jM];omega⟩ ?_
       ·dsimp only;dsimp only at hne;split
        ·omega
        rename_i hkt;rw[mQ _ _ _ _ _ (by rw[W4.len];exact hti),if_neg hkt] at hne;exact s7 k' hk' hne
       ·rcases h with h|⟨h1,h2⟩
        ·exact .inl (.inl h)
        dsimp only at h2;rw[aNq] at h2;rcases Ku.1 h2 with h|h
        ·exact .inl (.inr ⟨h1,h⟩)
        exact .inr ⟨h1,Ko.1 h⟩
       simp only[WkL,aB,jH,jI,jJ,hZ,pas,wes,hw4,KP,Kq,Kt,go_sem,reduceIte,jA,jB,jC,jD,reduceCtorEq,jE,jF]
      --PUT1
     rw[if_neg he] at aDE;have hce:decide ((paths[i].then l[j].p).2=0)=false:=decide_eq_false he
     (repeat' (first|(with_reducible first|refine stp ?_|refine bJ ZM ?_|refine iQ (fun _=>?_) (fun _=>?_))|((first|(with_reducible refine fV ?_;first|refine eJ rfl ?_ ?_|refine aQ (qH paths[i] l[j].p _) rfl (aT _) ?_|refine Zx ?_)|(with_reducible refine fW ?_;first|refine cB rfl ?_ ?_|refine ZX ?_)|refine Zy ?_)<;>try simp only[hc,hg4,aBi,hw4,hce,iL,hlp,hfp,hft,aBv,aBu,hti,aBc,n1,n2,n3,n4,n5,n6,n7,n8,n9,n10,and_self,and_true,true_and,s5,s6,aBe,We.v,jK,jG,go_sem,reduceIte,jA,jB,jC,jD,reduceCtorEq,jE,jF])|refine ZY ?_|omega))
     rw[←hQ4];have FB:=((((F5.aGd (x:=nx4) (Kj _) (nx2:=nx4+4) or (.arr (.agg 2) [V.agg [V.bool false,V.int Ks 0]])).again or or (fun k hk hne=>by have:=(F5.row k hk hne).2.2;omega) (.arr (.agg 2) [paths[i].v])).again (x:=nx4+2) or or (fun k hk hne=>by have:=(F5.row k hk hne).2.2;omega) (.arr (.agg 2) [V.agg [V.bool false,V.int Ks 0]])).again (x:=nx4+2) or or (fun k hk hne=>by have:=(F5.row k hk hne).2.2;omega) (.arr (.agg 2) [(paths[i].then l[j].p).1.v]));refine aD (i+1,aA3,ν4,aB8,id4) Zw ⟨aBi,FB,by simp only[i1,i2,s2,go_sem,reduceIte,jA,jB,jC,jD,reduceCtorEq,jE,jF],s3,Zw,by simp only[n5,n6,s5,go_sem,reduceIte,jA,jB,jC,jD,reduceCtorEq,jE,jF],or,fun k hk hne=>s7 k hk hne,W4.more (fun w hw p hp h hf=>?_),s8⟩ ?_
     ·rcases h with h|⟨h1,h2⟩
      ·exact .inl (.inl h)
      dsimp only at h2;rw[aNq] at h2;rcases Ku.1 h2 with h|h
      ·exact .inl (.inr ⟨h1,h⟩)
      refine .inr fun r hr=>?_;rw[h1,Ko.1 h,aDE] at hr;cases hr
     simp only[WkL,aB,jH,jI,jJ,hZ,pas,wes,go_sem,reduceIte,jA,jB,jC,jD,reduceCtorEq,jE,jF]
    have hc:decide ((i:Int)<(paths.length:Int))=false:=decide_eq_false or;refine aue hc ?_;rw[←hQ4];refine au ?_;rw[←hQ3];refine aD (j+1,aA3,ν4,aB8,id4) Zw ⟨hlt,F5,s2,s3,s4,W4.more (fun w hw p hp h hf=> .inl ?_),s8⟩ ?_
    ·dsimp only at h;rw[htk] at h;rcases Ku.1 h with h|h
     ·exact .inl h
     exact .inr ⟨Ko.1 h,by rw[show i=paths.length by omega,KN];exact hp⟩
    simp only[WkL,aB,jH,jI,jJ,hZ,pas,wes,hw,go_sem,reduceIte,jA,jB,jC,jD,reduceCtorEq,jE,jF]
   have hcf:((l[j].f:Int) != (k:Int))=true:=by simp;omega
   refine aue (ee6 hc hg hw hlt hcf We.v.eq_1) ?_;rw[←hQ3];refine aD (j+1,aNo,ν3,aHt,id3) Zw ⟨hlt,(F3.aGd (x:=nx3) (Kj _) (nx2:=nx3+2) or _).again or or (fun k hk hne=>by have:=(F3.row k hk hne).2.2;omega) _,?_,r3,Zw,W3.more (fun w hw p hp hD hf=>?_),r6⟩ ?_
   ·have e1:(id3=nx3)=False:=eq_false or;simp only[e1,r2,go_sem,reduceIte,jA,jB,jC,jD,reduceCtorEq,jE,jF]
   ·dsimp only at hD;rw[htk] at hD;rcases Ku.1 hD with h|h
    ·exact .inl h
    exact absurd (by rw[←Ko.1 h];exact hf) hfk
   simp only[WkL,aB,jH,jI,jJ,hZ,pas,wes,go_sem,reduceIte,jA,jB,jC,jD,reduceCtorEq,jE,jF]
  have hc:decide ((j:Int)<(l.length:Int))=false:=decide_eq_false or;refine aue hc ?_;rw[←hQ3];refine au ?_;rw[←hQ];refine aD (aNo,ν3,aHt,id3) (by simp only[jL];omega) ⟨F3,r2,r3,r4,(W3.more (D':=fun _ _=>True) fun w hw p hp _ _=> .inl (by rw[show j=l.length by omega,KN];exact hw)).finish,by simp only[jL] at q6;dsimp only;omega⟩ ?_;simp only[WkL,aB,jH,jI,jJ,hZ,go_sem,reduceIte,jA,jB,jC,jD,reduceCtorEq,jE,jF]
end Go.Proofs.YtecepaehmojpgaaGreat
