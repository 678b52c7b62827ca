/-
Texts of this proof,one behind the other. No conditions.
-/
import Derived.Test.YtgbiopfghdilnaaGreatDoorKd
import Derived.Test.YtgbiopfghdilnaaGreatDoorKf
import Derived.Test.YtgbiopfghdilnaaGreatDoorKe
import Derived.Lib.Bytealg
import Derived.Shelf.SlSortCmp.WholeK
import Derived.Shelf.SlSortCmp.NoneTotal
import Derived.Shelf.SlSortCmp.Whole1
import Derived.Shelf.Strconv.AtoiAll
import Derived.Shelf.Strconv.Itoa3
import Derived.Test.YtgbiopfghdilnaaGreatDoorProg
import Derived.Lib.BufferWrite
import Derived.Lib.UnsafeStr
import Derived.Laws.MakeOwn
import Derived.Lib.AppendIntMem
import Derived.Test.YtgbiopfghdilnaaGreatDoorKdb
import Derived.Test.YtgbiopfghdilnaaGreatDoorKcb
open Go.Proofs.YtgbiopfghdilnaaGreatDoor.V renaming undef→Ka
open List renaming replicate_succ→Kb,replicate_zero→Kc,length_cons→Kd,cons_append→Kg,nil_append→Kh,getD_eq_getElem?_getD→Ki,length_nil→Kj,take_succ_eq_append_getElem→Ks,getElem?_map→Kz,mem_take_iff_getElem→KA,getElem?_eq_getElem→KB,take_of_length_le→KD,mem_singleton→KH,mem_append→KR,length_set→KU
open Nat renaming reduceAdd→Ke,reduceSub→Kf,zero_le→Kk,le_refl→Km,lt_or_ge→Kq,reduceLeDiff→Kt,reduceEqDiff→Ku,reduceLT→KC,le_succ_of_le→KI,lt_succ_of_lt→KJ,le_succ→KK,lt_succ_self→KN,lt_irrefl→KY,le_trans→KZ,zero_add→Qa,add_mul→Qc
open Array renaming getElem?_eq_getElem→Ko,length_toList→Kw,getD_eq_getD_getElem?→Kx,getElem?_eq_none→KE,getD→KW,ext→KX
open Go.IntKind renaming wrap→Kp
open Int renaming reduceToNat→Kv,toNat_natCast→Ky,natCast_zero→KM,natCast_add→KP,natCast_one→KQ
open Go.World renaming shape?→KF,cell?→KG,freeze→KV
open Option renaming getD_some→KL,map_some→KO
open Bool renaming eq_iff_iff→KS
open Go renaming undef→Qb
set_option linter.unusedSimpArgs false
set_option linter.unusedVariables false
set_option linter.unusedSectionVars false
set_option maxHeartbeats 8000000
open Nat renaming reduceAdd→jA,reduceSub→jB,reduceLT→jC,reduceLeDiff→jD,reduceEqDiff→jE
open Int renaming reduceToNat→jF,toNat_natCast→jG,natCast_add→jH,natCast_one→jI,natCast_zero→jJ
open List renaming length_cons→jL,length_nil→jM,replicate_succ→jN,replicate_zero→jO,cons_append→jP,nil_append→jQ
namespace Go.Proofs.YtgbiopfghdilnaaGreatDoor
open Go.RowKit Go.Sort
attribute [local irreducible] Kp
theorem mH{P:Program}{f:FuncId}{args:List V}{v:V}(hn:∀L,v.names L)(hen:mP P f=true)(hc:∀(K:Ker) (cargs:Array Value),gG K→VRs K args cargs→Calls P f cargs K.w fun e w'=>∃cv,e= .returned cv∧(∀K,VR K v cv)∧dK K.w w')(h:Hp):aM P f args h v:=by
 refine aJ hn fun h' nx hh=>⟨hen,fun K cargs hlv hr hv=>?_⟩;refine(hc K cargs hr.size hv).mono ?_;rintro e w' ⟨cv,rfl,hv',hb⟩;exact⟨{K with w:=w'},v,cv,h',nx,rfl,rfl,oN hb,hv' _,hr.later hb,fun n hn=>⟨hlv n hn, .inl hn⟩,Km _,rfl,rfl⟩
theorem bN{t u v:Nat}{R:V→Hp→Nat→Prop}{s:St}(h':Hp)(hle:h'.le s.h)(hR:R (.tup [s.sl.getD t Ka,s.sl.getD u Ka,s.sl.getD v Ka]) h' s.nx):rU [.slot t, .slot u, .slot v] R .ret s:=⟨h',hle,hR⟩
theorem sr{K:Ker}{a:V}{c:Array Value}(h:VRs K [a] c):∃x,c=#[x]∧VR K a x:=by
 obtain⟨hs,hv⟩:=h;have hs:c.size=1:=by simpa using hs.symm
 refine⟨c[0],?_,?_⟩
 ·apply KX
  ·simp[hs]
  intro i h1 h2;obtain rfl:i=0:=or;rfl
 have:=hv 0 Zm;simpa [KW,hs] using this
theorem sq{K:Ker}{a b:V}{c:Array Value}(h:VRs K [a,b] c):∃x y,c=#[x,y]∧VR K a x∧VR K b y:=by
 obtain⟨hs,hv⟩:=h;have hs:c.size=2:=by simpa using hs.symm
 refine⟨c[0],c[1],?_,?_,?_⟩
 ·apply KX
  ·simp[hs]
  intro i h1 h2;have:i=0∨i=1:=or;rcases this with rfl|rfl<;>rfl
 ·have:=hv 0 Zm;simpa [KW,hs] using this
 have:=hv 1 Zm;simpa [KW,hs] using this
set_option maxHeartbeats 1000000 in
set_option maxRecDepth 100000 in
theorem oP(s:ByteArray)(c:Int)(w:World):
 Calls Tryz.prog 207 #[.string s, .int .u8 c] w fun e w'=>e= .returned (.int .i64 (Lib.indexByte s.data.toList c.toNat.toUInt8))∧w'=w:=by
 go_enter Tryz.func207,Tryz.ntmps207
 go_wp2
 rw[run_callFunc_extern Tryz.func221 Zz Zz Zz (e:=Extern.BytealgIndexByte.indexByte) Zz,Lib.run_indexByteString];simp only[Result.andThen];rw[Oper.upon_value]
 go_wp2
 go_ret
 exact⟨rfl,rfl⟩
theorem wF(s:ByteArray)(c:Nat)(h:Hp):aM Tryz.prog 207 [.str s, .int .u8 c] h (.int .i64 (Lib.indexByte s.data.toList c.toUInt8)):=by
 refine mH ?_ Zz (fun K cargs _ hv=>?_) h
 ·exact fun L=>trivial
 obtain⟨x,y,rfl,v1,v2⟩:=sq hv;cases v1;cases v2;refine(oP s c K.w).mono ?_;rintro e w' ⟨rfl,rfl⟩;exact⟨_,rfl,fun K=> .int _ _,dK.refl _⟩
theorem yZ(s:ByteArray)(c:Nat)(h:Hp):aM Tryz.prog 198 [.str s, .int .u8 c] h (.int .i64 (Lib.indexByte s.data.toList c.toUInt8)):=by
 refine aJ (fun L=>trivial) fun h' nx hh=>aB L.aRq fun hd=>?_;simp only[Kd,Kj,Ke,Kf,Kb,Kc,Kg,Kh,Ka];have C1:=fun h=>wF s c h;refine au ?_;exact aC h' (leo hd) ⟨rfl,rfl⟩
theorem mv:∀(l:List UInt8) (c:UInt8),(∃i:Nat,i<l.length∧Lib.indexByte l c=i∧l.getD i 0=c∧∀j,j<i→l.getD j 0≠c)∨(Lib.indexByte l c=-1∧∀j,j<l.length→l.getD j 0≠c)
 | [],c=> .inr ⟨rfl,fun j hj=>absurd hj Zm⟩
 |b::l,c=>by
  unfold Lib.indexByte;by_cases hb:b=c
  ·subst hb;exact .inl ⟨0,Zm,Zm,Zm,fun j hj=>absurd hj or⟩
  rw[if_neg (by simpa using hb)];rcases mv l c with⟨i,h1,h2,h3,h4⟩|⟨h2,h4⟩
  ·refine .inl ⟨i+1,by simpa using h1,?_,by simpa using h3,fun j hj=>?_⟩
   ·rw[h2,if_neg (by rw[beq_iff_eq];omega)];omega
   cases j with
   |zero=>simpa using hb
   |succ j=>simpa using h4 j or
  refine .inr ⟨by rw[h2];rfl,fun j hj=>?_⟩;cases j with
  |zero=>simpa using hb
  |succ j=>simpa using h4 j (by simpa using hj)
theorem xj(c:Nat)(hc:c<256):decide (0≤Lib.indexByte [9,10,13,32] c.toUInt8)=oX c:=by
 revert c;decide+kernel
def gC(r:ByteArray):Nat:=iY (fun c=>decide (c≠10)) r 0
theorem zp(r:ByteArray):Lib.indexByte r.data.toList 10=if gC r<r.size then (gC r:Int) else-1:=by
 have hb:∀j,(byt r j=10)↔r.data.toList.getD j 0=10:=fun j=>by
  unfold byt;constructor
  ·intro h;exact UInt8.toNat_inj.1 (by rw[h];rfl)
  intro h;rw[h];rfl
 have hl:r.data.toList.length=r.size:=Zm;rcases mv r.data.toList 10 with⟨i,h1,h2,h3,h4⟩|⟨h2,h4⟩
 ·have:gC r=i:=rG (Kk _) or (fun k _ hk=>decide_eq_true fun e=>h4 k hk ((hb k).1 e)) (.inr (decide_eq_false fun e=>e ((hb i).2 h3)));rw[this,if_pos or,h2]
 have:gC r=r.size:=rG (Kk _) (Km _) (fun k _ hk=>decide_eq_true fun e=>h4 k or ((hb k).1 e)) (.inl rfl);rw[this,if_neg or,h2]
set_option maxHeartbeats 2000000 in
set_option maxRecDepth 100000 in
theorem qy(s:ByteArray)(c:UInt8)(w:World):
 Calls Tryz.prog 222 #[.string s, .string ⟨#[c]⟩] w fun e w'=>e= .returned (.int .i64 (Lib.indexByte s.data.toList c))∧w'=w:=by
 go_enter Tryz.func222,Tryz.ntmps222
 go_wp2_with (go_at_call 207;refine(oP _ _ _).mono ?_;rintro e w' ⟨rfl,rfl⟩)
 ·have h:([c]==s.toList)=true:=by assumption
  go_ret
  refine⟨?_,rfl⟩;have e:s.data.toList=[c]:=by rw[←Lib.toList_data];exact(beq_iff_eq.1 h).symm
  rw[e];simp[Lib.indexByte]
 go_ret
 exact⟨rfl,rfl⟩
theorem mr(r:ByteArray)(h:Hp):aM Tryz.prog 222 [.str r, .str ⟨#[10]⟩] h (.int .i64 (if gC r<r.size then (gC r:Int) else-1)):=by
 rw[←zp];refine mH ?_ Zz (fun K cargs _ hv=>?_) h
 ·exact fun L=>trivial
 obtain⟨x,y,rfl,v1,v2⟩:=sq hv;cases v1;cases v2;refine(qy r 10 K.w).mono ?_;rintro e w' ⟨rfl,rfl⟩;exact⟨_,rfl,fun K=> .int _ _,dK.refl _⟩
theorem Bj(r:ByteArray)(hl:r.size≤1000000)(h:Hp):∃a b,aM Tryz.prog 208 [.str r, .str ⟨#[10]⟩] h (.tup [.str (r.extract 0 (gC r)), .str a, .bool b]):=by
 have hle:gC r≤r.size:=(mF _ r 0 (Kk _)).2.1;by_cases hc:gC r<r.size
 ·refine⟨r.extract (gC r+1) r.size,true,aJ (fun L=>⟨trivial,trivial,trivial,trivial⟩) fun h' nx hh=>aB L.aLA fun hd=>?_⟩;simp only[Kd,Kj,Ke,Kf,Kb,Kc,Kg,Kh,Ka];have C1:=fun h=>mr r h;rw[if_pos hc] at C1;have g1:decide ((gC r:Int)≥0)=true:=dct;have g2:decide ((0:Int)≤gC r)=true:=dct;have g3:IntKind.i64.wrap ((gC r:Int)+((1:Nat):Int))=((gC r+1:Nat):Int):=wrp;have g4:(⟨#[10]⟩:ByteArray).size=1:=rfl;have g5:gC r+1≤r.size:=hc;refine aue (e7 g4 g1 g2 g3 hc (Ky (gC r+1)) g5) ?_;refine bN h' (leo hd) ⟨?_,rfl⟩;simp only[go_sem,reduceIte,Ke,Kf,KC,Kt,reduceCtorEq,Ku,Kv]
 refine⟨⟨#[]⟩,false,aJ (fun L=>⟨trivial,trivial,trivial,trivial⟩) fun h' nx hh=>aB L.aLA fun hd=>?_⟩;simp only[Kd,Kj,Ke,Kf,Kb,Kc,Kg,Kh,Ka];have C1:=fun h=>mr r h;rw[if_neg hc] at C1;have g1:decide ((0:Int)≤-1)=false:=ZM;refine aue g1 ?_;refine bN h' (leo hd) ⟨?_,rfl⟩;have:r.extract 0 (gC r)=r:=by rw[show gC r=r.size by omega,sN]
 rw[this];rfl
theorem B1(r:ByteArray)(hl:r.size≤1000000)(h:Hp):∃a b,aM Tryz.prog 199 [.str r, .str ⟨#[10]⟩] h (.tup [.str (r.extract 0 (gC r)), .str a, .bool b]):=by
 obtain⟨a,b,hc⟩:=Bj r hl Hp.none;refine⟨a,b,aJ (fun L=>⟨trivial,trivial,trivial,trivial⟩) fun h' nx hh=>aB L.aRp fun hd=>?_⟩;simp only[Kd,Kj,Ke,Kf,Kb,Kc,Kg,Kh,Ka];have C1:=fun h=>hc.mono (aZ h);refine au ?_;exact bN h' (leo hd) ⟨rfl,rfl⟩
end Go.Proofs.YtgbiopfghdilnaaGreatDoor
namespace Go.Proofs.YtgbiopfghdilnaaGreatDoor
open Go.Shelf
def ab:Go.Shelf.Ren:=⟨fun|172=>188|244=>203|245=>204|247=>214|279=>215|280=>216|281=>217|282=>218|287=>224|316=>225|171=>212|205=>226|321=>234|322=>235|243=>223|246=>233|283=>238|284=>239|285=>240|286=>241|129=>243|317=>242|318=>244|319=>245|320=>246|337=>247|338=>248|n=>n,fun|9=>9|3=>3|75=>34|76=>261|4=>4|5=>5|167=>290|37=>291|0=>0|85=>292|2=>2|168=>294|53=>299|175=>300|46=>302|210=>305|127=>310|145=>313|143=>311|21=>21|171=>318|173=>321|212=>324|51=>315|20=>20|213=>325|232=>328|233=>329|80=>330|n=>n,fun|15=>4|16=>5|17=>7|18=>8|19=>9|n=>n⟩
theorem ac:Go.Proofs.LaysC.n172 Tryz.prog ab:={
 mixed:=Zz
 f129:=Tryz.func243.trans (congrArg some Zz)
 f171:=Tryz.func212.trans (congrArg some Zz)
 f172:=Tryz.func188.trans (congrArg some Zz)
 f205:=Tryz.func226.trans (congrArg some Zz)
 f243:=Tryz.func223.trans (congrArg some Zz)
 f244:=Tryz.func203.trans (congrArg some Zz)
 f245:=Tryz.func204.trans (congrArg some Zz)
 f246:=Tryz.func233.trans (congrArg some Zz)
 f247:=Tryz.func214.trans (congrArg some Zz)
 f279:=Tryz.func215.trans (congrArg some Zz)
 f280:=Tryz.func216.trans (congrArg some Zz)
 f281:=Tryz.func217.trans (congrArg some Zz)
 f282:=Tryz.func218.trans (congrArg some Zz)
 f283:=Tryz.func238.trans (congrArg some Zz)
 f284:=Tryz.func239.trans (congrArg some Zz)
 f285:=Tryz.func240.trans (congrArg some Zz)
 f286:=Tryz.func241.trans (congrArg some Zz)
 f287:=Tryz.func224.trans (congrArg some Zz)
 f316:=Tryz.func225.trans (congrArg some Zz)
 f317:=Tryz.func242.trans (congrArg some Zz)
 f318:=Tryz.func244.trans (congrArg some Zz)
 f319:=Tryz.func245.trans (congrArg some Zz)
 f320:=Tryz.func246.trans (congrArg some Zz)
 f321:=Tryz.func234.trans (congrArg some Zz)
 f322:=Tryz.func235.trans (congrArg some Zz)
 f337:=Tryz.func247.trans (congrArg some Zz)
 f338:=Tryz.func248.trans (congrArg some Zz)
 t0:=Tryz.underlying0
 a0:=Tryz.isAgg0
 z0:=Tryz.sizeOf0
 v0:=Tryz.zeroValue0
 t2:=Tryz.underlying2
 a2:=Tryz.isAgg2
 z2:=Tryz.sizeOf2
 v2:=Tryz.zeroValue2
 t3:=Tryz.underlying3
 a3:=Tryz.isAgg3
 z3:=Tryz.sizeOf3
 v3:=Tryz.zeroValue3
 t4:=Tryz.underlying4
 a4:=Tryz.isAgg4
 z4:=Tryz.sizeOf4
 v4:=Tryz.zeroValue4
 t5:=Tryz.underlying5
 a5:=Tryz.isAgg5
 z5:=Tryz.sizeOf5
 v5:=Tryz.zeroValue5
 t9:=Tryz.underlying9
 a9:=Tryz.isAgg9
 z9:=Tryz.sizeOf9
 v9:=Tryz.zeroValue9
 t20:=Tryz.underlying20
 a20:=Tryz.isAgg20
 z20:=Tryz.sizeOf20
 v20:=Tryz.zeroValue20
 t21:=Tryz.underlying21
 a21:=Tryz.isAgg21
 z21:=Tryz.sizeOf21
 v21:=Tryz.zeroValue21
 t37:=Tryz.underlying291
 a37:=Tryz.isAgg291
 z37:=Tryz.sizeOf291
 v37:=Tryz.zeroValue291
 t46:=Tryz.underlying302
 a46:=Tryz.isAgg302
 z46:=Tryz.sizeOf302
 v46:=Tryz.zeroValue302
 t51:=Tryz.underlying315
 a51:=Tryz.isAgg315
 z51:=Tryz.sizeOf315
 v51:=Tryz.zeroValue315
 t53:=Tryz.underlying299
 a53:=Tryz.isAgg299
 z53:=Tryz.sizeOf299
 v53:=Tryz.zeroValue299
 t75:=Tryz.underlying34
 a75:=Tryz.isAgg34
 z75:=Tryz.sizeOf34
 v75:=Tryz.zeroValue34
 t76:=Tryz.underlying261
 a76:=Tryz.isAgg261
 z76:=Tryz.sizeOf261
 v76:=Tryz.zeroValue261
 t85:=Tryz.underlying292
 a85:=Tryz.isAgg292
 z85:=Tryz.sizeOf292
 v85:=Tryz.zeroValue292
 t127:=Tryz.underlying310
 a127:=Tryz.isAgg310
 z127:=Tryz.sizeOf310
 v127:=Tryz.zeroValue310
 t143:=Tryz.underlying311
 a143:=Tryz.isAgg311
 z143:=Tryz.sizeOf311
 v143:=Tryz.zeroValue311
 t145:=Tryz.underlying313
 a145:=Tryz.isAgg313
 z145:=Tryz.sizeOf313
 v145:=Tryz.zeroValue313
 t167:=Tryz.underlying290
 a167:=Tryz.isAgg290
 z167:=Tryz.sizeOf290
 v167:=Tryz.zeroValue290
 t168:=Tryz.underlying294
 a168:=Tryz.isAgg294
 z168:=Tryz.sizeOf294
 v168:=Tryz.zeroValue294
 t171:=Tryz.underlying318
 a171:=Tryz.isAgg318
 z171:=Tryz.sizeOf318
 v171:=Tryz.zeroValue318
 t173:=Tryz.underlying321
 a173:=Tryz.isAgg321
 z173:=Tryz.sizeOf321
 v173:=Tryz.zeroValue321
 t175:=Tryz.underlying300
 a175:=Tryz.isAgg300
 z175:=Tryz.sizeOf300
 v175:=Tryz.zeroValue300
 t210:=Tryz.underlying305
 a210:=Tryz.isAgg305
 z210:=Tryz.sizeOf305
 v210:=Tryz.zeroValue305
 t212:=Tryz.underlying324
 a212:=Tryz.isAgg324
 z212:=Tryz.sizeOf324
 v212:=Tryz.zeroValue324
 t213:=Tryz.underlying325
 a213:=Tryz.isAgg325
 z213:=Tryz.sizeOf325
 t232:=Tryz.underlying328
 a232:=Tryz.isAgg328
 z232:=Tryz.sizeOf328
 v232:=Tryz.zeroValue328
 t233:=Tryz.underlying329
 a233:=Tryz.isAgg329
 z233:=Tryz.sizeOf329
 v233:=Tryz.zeroValue329
 g15:=Zz
 g16:=Zz
 g17:=Zz
 g18:=Zz
 g19:=Zz
 t80:=Tryz.underlying330
 a80:=Tryz.isAgg330
 z80:=Tryz.sizeOf330
 v80:=Tryz.zeroValue330
 i0:=Zz
 i2:=Zz
 i3:=Zz
 i4:=Zz
 i5:=Zz
 i9:=Zz
 i20:=Zz
 i21:=Zz
 i37:=Zz
 i46:=Zz
 i51:=Zz
 i53:=Zz
 i75:=Zz
 i76:=Zz
 i80:=Zz
 i85:=Zz
 i127:=Zz
 i143:=Zz
 i145:=Zz
 i167:=Zz
 i168:=Zz
 i171:=Zz
 i173:=Zz
 i175:=Zz
 i210:=Zz
 i212:=Zz
 i232:=Zz
 i233:=Zz
 m15:=Zz
 m16:=Zz
 m17:=Zz
 m18:=Zz
 m19:=Zz
 c0:=Zz
 c2:=Zz
 c3:=Zz
 c4:=Zz
 c5:=Zz
 c9:=Zz
 c20:=Zz
 c21:=Zz
 c37:=Zz
 c46:=Zz
 c51:=Zz
 c53:=Zz
 c75:=Zz
 c76:=Zz
 c80:=Zz
 c85:=Zz
 c127:=Zz
 c143:=Zz
 c145:=Zz
 c167:=Zz
 c168:=Zz
 c171:=Zz
 c173:=Zz
 c175:=Zz
 c210:=Zz
 c212:=Zz
 c213:=Zz
 c232:=Zz
 c233:=by kernel_rfl}
def ml:Go.Shelf.Ren:=⟨fun|171=>212|243=>223|246=>233|283=>238|284=>239|285=>240|286=>241|129=>243|317=>242|318=>244|319=>245|320=>246|337=>247|338=>248|n=>n,fun|3=>3|9=>9|2=>2|4=>4|171=>318|0=>0|53=>299|37=>291|5=>5|173=>321|212=>324|51=>315|20=>20|213=>325|46=>302|232=>328|233=>329|n=>n,fun|17=>7|18=>8|19=>9|n=>n⟩
theorem itoa:Go.Proofs.LaysM.n171 Tryz.prog ml:={
 mixed:=Zz
 f129:=Tryz.func243.trans (congrArg some Zz)
 f171:=Tryz.func212.trans (congrArg some Zz)
 f243:=Tryz.func223.trans (congrArg some Zz)
 f246:=Tryz.func233.trans (congrArg some Zz)
 f283:=Tryz.func238.trans (congrArg some Zz)
 f284:=Tryz.func239.trans (congrArg some Zz)
 f285:=Tryz.func240.trans (congrArg some Zz)
 f286:=Tryz.func241.trans (congrArg some Zz)
 f317:=Tryz.func242.trans (congrArg some Zz)
 f318:=Tryz.func244.trans (congrArg some Zz)
 f319:=Tryz.func245.trans (congrArg some Zz)
 f320:=Tryz.func246.trans (congrArg some Zz)
 f337:=Tryz.func247.trans (congrArg some Zz)
 f338:=Tryz.func248.trans (congrArg some Zz)
 t0:=Tryz.underlying0
 a0:=Tryz.isAgg0
 z0:=Tryz.sizeOf0
 v0:=Tryz.zeroValue0
 t2:=Tryz.underlying2
 a2:=Tryz.isAgg2
 z2:=Tryz.sizeOf2
 v2:=Tryz.zeroValue2
 t3:=Tryz.underlying3
 a3:=Tryz.isAgg3
 z3:=Tryz.sizeOf3
 v3:=Tryz.zeroValue3
 t4:=Tryz.underlying4
 a4:=Tryz.isAgg4
 z4:=Tryz.sizeOf4
 v4:=Tryz.zeroValue4
 t5:=Tryz.underlying5
 a5:=Tryz.isAgg5
 z5:=Tryz.sizeOf5
 v5:=Tryz.zeroValue5
 t9:=Tryz.underlying9
 a9:=Tryz.isAgg9
 z9:=Tryz.sizeOf9
 v9:=Tryz.zeroValue9
 t20:=Tryz.underlying20
 a20:=Tryz.isAgg20
 z20:=Tryz.sizeOf20
 v20:=Tryz.zeroValue20
 t37:=Tryz.underlying291
 a37:=Tryz.isAgg291
 z37:=Tryz.sizeOf291
 v37:=Tryz.zeroValue291
 t46:=Tryz.underlying302
 a46:=Tryz.isAgg302
 z46:=Tryz.sizeOf302
 v46:=Tryz.zeroValue302
 t51:=Tryz.underlying315
 a51:=Tryz.isAgg315
 z51:=Tryz.sizeOf315
 v51:=Tryz.zeroValue315
 t53:=Tryz.underlying299
 a53:=Tryz.isAgg299
 z53:=Tryz.sizeOf299
 v53:=Tryz.zeroValue299
 t171:=Tryz.underlying318
 a171:=Tryz.isAgg318
 z171:=Tryz.sizeOf318
 v171:=Tryz.zeroValue318
 t173:=Tryz.underlying321
 a173:=Tryz.isAgg321
 z173:=Tryz.sizeOf321
 v173:=Tryz.zeroValue321
 t212:=Tryz.underlying324
 a212:=Tryz.isAgg324
 z212:=Tryz.sizeOf324
 v212:=Tryz.zeroValue324
 t213:=Tryz.underlying325
 a213:=Tryz.isAgg325
 z213:=Tryz.sizeOf325
 t232:=Tryz.underlying328
 a232:=Tryz.isAgg328
 z232:=Tryz.sizeOf328
 v232:=Tryz.zeroValue328
 t233:=Tryz.underlying329
 a233:=Tryz.isAgg329
 z233:=Tryz.sizeOf329
 v233:=Tryz.zeroValue329
 g17:=Zz
 g18:=Zz
 g19:=Zz
 i0:=Zz
 i2:=Zz
 i3:=Zz
 i4:=Zz
 i5:=Zz
 i9:=Zz
 i20:=Zz
 i37:=Zz
 i46:=Zz
 i51:=Zz
 i53:=Zz
 i171:=Zz
 i173:=Zz
 i212:=Zz
 i232:=Zz
 i233:=Zz
 m17:=Zz
 m18:=Zz
 m19:=by kernel_rfl}
end Go.Proofs.YtgbiopfghdilnaaGreatDoor
namespace Go.Proofs.YtgbiopfghdilnaaGreatDoor
open Go.RowKit Go.Sort Go.Shelf
attribute [local irreducible] Kp
set_option maxHeartbeats 4000000 in
set_option maxRecDepth 100000 in
theorem zV(s:ByteArray)(w:World)(hlim:s.size≤4000):
 Calls Tryz.prog 225 #[.string s] w fun e w'=>e= .returned (.string s)∧dK w w':=by
 have mixed:Tryz.prog.follows .mixedOrders=true:=Zz;by_cases h0:s.size=0
 ·obtain rfl:s=⟨#[]⟩:=ByteArray.ext (Array.eq_empty_of_size_eq_zero h0)
  go_enter Tryz.func225,Tryz.ntmps225
  go_wp2
  go_ret
  exact⟨rfl,dK.refl _⟩
 obtain⟨i,hi,hz,hs1,hb1⟩:=info_parts ac.i5;have hs2:(Tryz.prog.info? 5).map (·.size)=some 1:=by
  show(Tryz.prog.info? (ab.t 5)).map (·.size)=some 1;rw[hi];simp[hs1]
 have hce:Tryz.prog.cellsOf 5=1:=Zz;generalize hM:madeCells (Value.int .u8 0).cells (((s.size:Nat):Int).toNat*i.size)=M;have hmk:∀W:World,(Instr.makeSlice 291 (.int .i64 (s.size:Int)) (.int .i64 (s.size:Int))).run Tryz.prog W= .ok (.slice (some ⟨W.heap.size,0,none⟩) s.size s.size) (W.alloc (.cells M 5)):=fun W=>by
  have h:=run_make (P:=Tryz.prog) W 291 5 i (.int .u8 0) Tryz.underlying291 hi hz .i64 .i64 (s.size:Int) (s.size:Int) or or (by rw[hb1];omega) or;rw[hM] at h;simpa using h
 have hMl:M.size=s.size:=by rw[←hM,size_madeCells,hs1];simp
 have hcp:=Lib.run_copy_row_string (P:=Tryz.prog) (w.alloc (.cells M 5)) 291 9 3 5 w.heap.size 0 s.size s.size s M 5 Tryz.underlying291 hs2 (heap_alloc_new w _) (Km _) or;generalize hY:(M.toList.take 0++Lib.byteCells s.data.toList++M.toList.drop (0+s.size)).toArray=Y at hcp;have hYl:Y.toList=Lib.byteCells s.data.toList:=by
  rw[←hY,List.toList_toArray,List.take_zero,Kh,List.drop_of_length_le (by rw[Kw];omega),List.append_nil]
 have hYs:Y.size=s.size:=by rw[←Kw,hYl,Lib.byteCells_length,←Lib.size_eq]
 have hgY:((w.alloc (.cells M 5)).setRow w.heap.size Y).heap[w.heap.size]?=some (.cells Y 5 (0,0)):=setRow_heap _ _ M _ 5 (0,0) (heap_alloc_new w _)
 have hus:=Lib.run_unsafeString_row (P:=Tryz.prog) ((w.alloc (.cells M 5)).setRow w.heap.size Y) 310 3 9 5 Tryz.underlying310 hce w.heap.size Y.size (by unfold KF;rw[hgY]) s.data.toList (fun e=>h0 (by rw[Lib.size_eq,e];rfl)) (by rw[←Lib.size_eq];omega) (by rw[←Lib.size_eq];omega)
  (fun j x hx=>Lib.cells_of_row hgY Y.size j _ (by rw[KD (by rw[Kw];exact Km _),hYl];simp[Lib.byteCells,hx]))
 rw[←Lib.size_eq] at hus;clear hM hY
 go_enter Tryz.func225,Tryz.ntmps225
 go_wp2
 go_ret
 refine⟨rfl,Lib.below_freeze (((Below.refl _ w).alloc (Km _) (.cells M 5)).trans ?_) (p:=⟨w.heap.size,0,none⟩) (Km _) _,by unfold KV;split<;>exact Km _⟩;exact⟨rfl,rfl,rfl,Zm,fun k hk=>setRow_other _ _ _ _ or⟩
theorem yW{w w':World}(h:dK w w'){g:Nat}{v:Value}(hv:w.cell? ⟨g,0,none⟩=some v):w'.cell? ⟨g,0,none⟩=some v:=
 (h.1.cell (Lib.lt_of_cell hv)).trans hv
set_option maxHeartbeats 4000000 in
set_option maxRecDepth 100000 in
theorem xI(fn s:ByteArray)(w:World)(hlim:s.size≤4000)(ev:Value)(hv:w.cell? ⟨4,0,none⟩=some ev)(hev:ev= .nilIface∨∃te pe,ev= .iface te pe):
 Calls Tryz.prog 215 #[.string fn, .string s] w fun e w'=>∃a,e= .returned (.pointer (some a))∧dK w w':=by
 have mixed:Tryz.prog.follows .mixedOrders=true:=Zz;have e1:∀args w,(callFunc 225 args).run Tryz.prog w= .ok (.enter 225 args) w:=enters_of Tryz.func225 Zz rfl;rcases hev with rfl|⟨te,pe,rfl⟩;all_goals (
  have hvd:w.drew.cell? ⟨4,0,none⟩=some _:=hv
  go_enter Tryz.func215,Tryz.ntmps215
  go_wp2
  go_region_with_o (
   go_at_fn 225
   refine(zV s _ hlim).mono ?_;rintro e w2 ⟨rfl,hb⟩;have hv2:w2.cell? ⟨4,0,none⟩=some _:=yW hb hvd)
  all_goals (
   go_wp2
   go_ret
   exact⟨_,rfl,(Below.drew (Below.refl _ w)).trans hb.1 |>.alloc hb.1.size _,KZ (KK _) hb.2⟩))
set_option maxHeartbeats 4000000 in
set_option maxRecDepth 100000 in
theorem aw(fn s:ByteArray)(w:World)(hlim:s.size≤4000)(ev:Value)(hv:w.cell? ⟨5,0,none⟩=some ev)(hev:ev= .nilIface∨∃te pe,ev= .iface te pe):
 Calls Tryz.prog 216 #[.string fn, .string s] w fun e w'=>∃a,e= .returned (.pointer (some a))∧dK w w':=by
 have mixed:Tryz.prog.follows .mixedOrders=true:=Zz;have e1:∀args w,(callFunc 225 args).run Tryz.prog w= .ok (.enter 225 args) w:=enters_of Tryz.func225 Zz rfl;rcases hev with rfl|⟨te,pe,rfl⟩;all_goals (
  have hvd:w.drew.cell? ⟨5,0,none⟩=some _:=hv
  go_enter Tryz.func216,Tryz.ntmps216
  go_wp2
  go_region_with_o (
   go_at_fn 225
   refine(zV s _ hlim).mono ?_;rintro e w2 ⟨rfl,hb⟩;have hv2:w2.cell? ⟨5,0,none⟩=some _:=yW hb hvd)
  all_goals (
   go_wp2
   go_ret
   exact⟨_,rfl,(Below.drew (Below.refl _ w)).trans hb.1 |>.alloc hb.1.size _,KZ (KK _) hb.2⟩))
set_option maxHeartbeats 4000000 in
set_option maxRecDepth 100000 in
theorem jp(fn s:ByteArray)(b c:Int)(w:World)(hlim:s.size≤4000)(ev:Value)(hv:w.cell? ⟨4,0,none⟩=some ev)(hev:ev= .nilIface∨∃te pe,ev= .iface te pe):
 Calls Tryz.prog 204 #[.string fn, .string s, .int .i64 b, .int .i64 c, .iface 290 (.int .i64 2)] w fun e w'=>∃a,e= .returned (.iface 294 (.pointer (some a)))∧dK w w':=by
 have mixed:Tryz.prog.follows .mixedOrders=true:=Zz;have e1:∀args w,(callFunc 215 args).run Tryz.prog w= .ok (.enter 215 args) w:=enters_of Tryz.func215 Zz rfl;have heq:∀W,(binOp .eql 34 (.iface 290 (.int .i64 2)) (.iface 290 (.int .i64 2))).run Tryz.prog W= .ok (.bool true) W:=fun W=>Lib.run_eql_iface_int (P:=Tryz.prog) W 2 2 ac.t75 ac.c167 ac.t167
 go_enter Tryz.func204,Tryz.ntmps204
 go_wp2_with (go_at_fn 215;refine(xI fn s _ hlim ev ?_ hev).mono ?_)
 ·exact hv
 rintro e w2 ⟨a,rfl,hb⟩
 go_wp2
 go_ret
 exact⟨a,rfl,hb⟩
set_option maxHeartbeats 4000000 in
set_option maxRecDepth 100000 in
theorem jq(fn s:ByteArray)(b c:Int)(w:World)(hlim:s.size≤4000)(ev:Value)(hv:w.cell? ⟨5,0,none⟩=some ev)(hev:ev= .nilIface∨∃te pe,ev= .iface te pe):
 Calls Tryz.prog 204 #[.string fn, .string s, .int .i64 b, .int .i64 c, .iface 290 (.int .i64 1)] w fun e w'=>∃a,e= .returned (.iface 294 (.pointer (some a)))∧dK w w':=by
 have mixed:Tryz.prog.follows .mixedOrders=true:=Zz;have e1:∀args w,(callFunc 216 args).run Tryz.prog w= .ok (.enter 216 args) w:=enters_of Tryz.func216 Zz rfl;have heq:∀W,(binOp .eql 34 (.iface 290 (.int .i64 1)) (.iface 290 (.int .i64 1))).run Tryz.prog W= .ok (.bool true) W:=fun W=>Lib.run_eql_iface_int (P:=Tryz.prog) W 1 1 ac.t75 ac.c167 ac.t167;have heq2:∀W,(binOp .eql 34 (.iface 290 (.int .i64 1)) (.iface 290 (.int .i64 2))).run Tryz.prog W= .ok (.bool false) W:=fun W=>Lib.run_eql_iface_int (P:=Tryz.prog) W 1 2 ac.t75 ac.c167 ac.t167
 go_enter Tryz.func204,Tryz.ntmps204
 go_wp2_with (go_at_fn 216;refine(aw fn s _ hlim ev ?_ hev).mono ?_)
 ·exact hv
 rintro e w2 ⟨a,rfl,hb⟩
 go_wp2
 go_ret
 exact⟨a,rfl,hb⟩
theorem rm(w:World)(e:TypeId)(t:ByteArray):dK w (Lib.bytesWorld w e t):=
 ⟨Lib.bytesWorld_below _ _ _,by unfold Lib.bytesWorld KV;split<;>exact KK _⟩
def nr:Lib.NumEnd Int→V
 | .ok _=> .nilIface
 | .range=> .iface 290 (.int .i64 1)
 |_=> .iface 290 (.int .i64 2)
def ub(sat:Int):Lib.NumEnd Int→Int
 | .ok n=>n
 | .range=>sat
 |_=>0
theorem sa(s:ByteArray)(hs:s.size≤4000)(h:Hp):aM Tryz.prog 203 [.str s] h (.tup [.int .i64 (ub (Lib.atoiSat s.data.toList) (Lib.atoiAll s.data.toList)),nr (Lib.atoiAll s.data.toList)]):=by
 refine mH ?_ Zz (fun K cargs _ hv=>?_) h
 ·exact fun L=>⟨trivial,by unfold nr;split<;>trivial,trivial⟩
 obtain⟨x,rfl,v1⟩:=sr hv;cases v1;have c:=Any.internal_strconv_Atoi_all (P:=Tryz.prog) (ρ:=ab) {ac with} s or K.w;refine Calls.mono (show Calls Tryz.prog 203 #[.string s] K.w _ from c) ?_;rintro e w' ⟨rfl,hw⟩;refine⟨_,rfl,fun K=>?_,?_⟩
 ·have two:∀(a b:V) (x y:Value),VR K a x→VR K b y→VR K (.tup [a,b]) (.tuple #[x,y]):=fun a b x y h1 h2=> .tup [a,b] #[x,y] rfl fun i hi=>by
   have:i=0∨i=1:=by simp at hi;omega
   rcases this with rfl|rfl
   ·exact h1
   exact h2
  cases Lib.atoiAll s.data.toList with
  |ok n=>exact two _ _ _ _ (.int _ _) .nilIface
  |range=>exact two _ _ _ _ (.int _ _) (.iface _ _ _ (.int _ _))
  |_=>exact two _ _ _ _ (.int _ _) (.iface _ _ _ (.int _ _))
 rcases hw with rfl|⟨t,rfl⟩
 ·exact dK.refl _
 exact rm _ _ _
theorem pg(fn s:ByteArray)(hs:s.size≤4000)(c:Int)(hc:c=1∨c=2)(h:Hp):aM Tryz.prog 204 [.str fn, .str s, .int .i64 0, .int .i64 0, .iface 290 (.int .i64 c)] h (.iface 294 .top):=by
 refine mH ?_ Zz (fun K cargs hf hv=>?_) h
 ·exact fun L=>trivial
 have hca:cargs=#[.string fn, .string s, .int .i64 0, .int .i64 0, .iface 290 (.int .i64 c)]:=by
  obtain⟨hz,hv⟩:=hv;have hz:cargs.size=5:=by simpa using hz.symm
  obtain⟨l⟩:=cargs;match l,hz with
  | [x0,x1,x2,x3,x4],_=>
   have v0:VR K (.str fn) x0:=hv 0 Zm;have v1:VR K (.str s) x1:=hv 1 Zm;have v2:VR K (.int .i64 0) x2:=hv 2 Zm;have v3:VR K (.int .i64 0) x3:=hv 3 Zm;have v4:VR K (.iface 290 (.int .i64 c)) x4:=hv 4 Zm;cases v0;cases v1;cases v2;cases v3;cases v4 with
   |iface _ _ _ v5=>cases v5;rfl
 subst hca;rcases hc with rfl|rfl
 ·obtain⟨_,ev,h2,h3⟩:=hf.gi 5 ZM;refine(jq fn s 0 0 K.w hs ev h2 h3).mono ?_;rintro e w' ⟨a,rfl,hb⟩;exact⟨_,rfl,fun K=> .iface _ _ _ (.top _),hb⟩
 obtain⟨_,ev,h2,h3⟩:=hf.gi 4 ZM;refine(jp fn s 0 0 K.w hs ev h2 h3).mono ?_;rintro e w' ⟨a,rfl,hb⟩;exact⟨_,rfl,fun K=> .iface _ _ _ (.top _),hb⟩
theorem BG{K:Ker}(hf:gG K):Lib.TabIs Tryz.prog K.w "internal/strconv.uint64pow10" .u64 Lib.pow10Tab:=by
 obtain⟨h1,⟨T,h2⟩,h3⟩:=hf.gt 7 ((List.range 20).map fun i=>Value.int .u64 ((10 ^ i:Nat):Int)) (by unfold GT;repeat (first|exact List.mem_cons_self .. |refine List.mem_cons_of_mem _ ?_));unfold Lib.TabIs World.var?;rw[show Tryz.prog.globalNamed "internal/strconv.uint64pow10" =some 7 by kernel_rfl,Option.bind_some]
 unfold KF at h2;split at h2
 ·rename_i c e fr hh;injection h2 with h2;injection h2 with h2 h4;simp only[hh];congr 1;apply KX
  ·rw[h4];simp[Lib.pow10Tab]
  intro i hi1 hi2;have:=h3 i (by rw[←h4];exact hi1);simp only[KG,hh] at this;have hi3:i<20:=by rw[h4] at hi1;simpa using hi1
  simp only[Option.isSome_none,Bool.false_eq_true,if_false,Ko hi1,Ki,Kz,List.getElem?_range hi3,KO,KL,Option.some.injEq] at this;rw[this];simp[Lib.pow10Tab]
 cases h2
theorem wn(n:Int)(h0:-9223372036854775808≤n)(h1:n≤9223372036854775807)(h:Hp):aM Tryz.prog 212 [.int .i64 n] h (.str ⟨(Lib.itoa n).toArray⟩):=by
 refine mH ?_ Zz (fun K cargs hf hv=>?_) h
 ·exact fun L=>trivial
 obtain⟨x,rfl,v1⟩:=sr hv;cases v1;have c:=Any.strconv_Itoa (P:=Tryz.prog) (ρ:=ml) itoa n h0 h1 K.w (BG hf);refine Calls.mono (show Calls Tryz.prog 212 #[.int .i64 n] K.w _ from c) ?_;rintro e w' ⟨rfl,k,os,rfl⟩;exact⟨_,rfl,fun K=> .str _,⟨Lib.below_grow _ _ (Km _) k os,Nat.le_add_right _ _⟩⟩
end Go.Proofs.YtgbiopfghdilnaaGreatDoor
namespace Go.Proofs.YtgbiopfghdilnaaGreatDoor
open Go.RowKit Go.Sort
attribute [local irreducible] Kp
set_option maxHeartbeats 4000000
theorem pl(c:Nat)(h:Hp):aM Tryz.prog 209 [.int .u8 c] h (.bool (fU c)):=by
 refine aJ (fun L=>trivial) fun h' nx hh=>aB L.aRk fun hd=>?_;simp only[jL,jM,jA,jB,jN,jO,jP,jQ,Ka];unfold fU;cases h1:decide ((97:Int)≤c)<;>cases h2:decide ((c:Int)≤122)<;>
  (refine aue (e2 h1 h2) ?_
   refine aC h' (leo hd) ⟨?_,rfl⟩;simp only[decide_eq_true_eq,decide_eq_false_iff_not] at h1 h2;refine vb ?_;simp;try omega)
theorem zD(c:Nat)(h:Hp):aM Tryz.prog 210 [.int .u8 c] h (.bool (fZ c)):=by
 refine aJ (fun L=>trivial) fun h' nx hh=>aB L.aRj fun hd=>?_;simp only[jL,jM,jA,jB,jN,jO,jP,jQ,Ka];unfold fZ;cases h1:decide ((65:Int)≤c)<;>cases h2:decide ((c:Int)≤90)<;>
  (refine aue (e2 h1 h2) ?_
   refine aC h' (leo hd) ⟨?_,rfl⟩;simp only[decide_eq_true_eq,decide_eq_false_iff_not] at h1 h2;refine vb ?_;simp;try omega)
theorem m6(c:Nat)(h:Hp):aM Tryz.prog 211 [.int .u8 c] h (.bool (rg c)):=by
 refine aJ (fun L=>trivial) fun h' nx hh=>aB L.aRi fun hd=>?_;simp only[jL,jM,jA,jB,jN,jO,jP,jQ,Ka];unfold rg;cases h1:decide ((48:Int)≤c)<;>cases h2:decide ((c:Int)≤57)<;>
  (refine aue (e2 h1 h2) ?_
   refine aC h' (leo hd) ⟨?_,rfl⟩;simp only[decide_eq_true_eq,decide_eq_false_iff_not] at h1 h2;refine vb ?_;simp;try omega)
theorem run_pure(s:ByteArray)(hl:s.size≤4000)(h:Hp):aM Tryz.prog 200 [.str s] h (.int .i64 (mV s)):=by
 refine aJ (fun L=>trivial) fun h' nx hh=>aB L.aRo fun hd=>?_;simp only[jL,jM,jA,jB,jN,jO,jP,jQ,Ka];refine au ?_;refine aS (fun i:Nat=>aF 35 0 [(0, .str s),(3, .int .i64 i)]) (fun i hp nx1=>i≤s.size∧hp=h'∧∀j,j<i→iV (byt s j)=true) (fun i=>s.size-i) 0 ⟨Kk _,rfl,fun j hj=>absurd hj or⟩ (by simp only[WkL,aF,jH,jI,jJ,go_sem,reduceIte,jA,jB,jC,jD,reduceCtorEq,jE,jF]) ?_;rintro i hp nx1 ⟨hi,rfl,aGE⟩;generalize hQ:bK _ _ _ _ _=Q0;simp only[aF,go_sem,reduceIte,jA,jB,jC,jD,reduceCtorEq,jE,jF];have aAp:∀(b:Bool),i=s.size∨iV (byt s i)=false→mV s=i:=fun _ k=>rG (Kk _) hi (fun j _ hj=>aGE j hj) k;rcases Kq i s.size with hlt|hge
 ·have hc:decide ((i:Int)<(s.size:Int))=true:=dct;have hb:(s.data.toList.getD i 0).toNat=byt s i:=rfl;obtain⟨c,hcq⟩:∃c,byt s i=c:=⟨_,rfl⟩;rw[hcq] at aAp;have C1:=fun h=>pl c h;have C2:=fun h=>zD c h;have C3:=fun h=>m6 c h;have hw:IntKind.i64.wrap ((i:Int)+1)=((i+1:Nat):Int):=wrp;have h95:((c:Int)==95)=decide (c=95):=by by_cases e:c=95<;>simp[e]<;>omega
  have hin:iV c=true→∀j,j<i+1→iV (byt s j)=true:=fun k j hj=>by
   by_cases e:j=i
   ·subst e;rw[hcq];exact k
   exact aGE j or
  cases k1:fU c<;>cases k2:fZ c<;>cases k3:rg c<;>cases k4:decide (c=95);all_goals rw[k1] at C1
  all_goals rw[k2] at C2
  all_goals rw[k3] at C3
  all_goals refine aue (e6 hc hb hcq hw (h95.trans k4) hlt) ?_
  all_goals
   first
    |(rw[←hQ]
      refine aG (i+1) or ⟨or,rfl,hin (by simp[iV,k1,k2,k3,k4])⟩ (by simp only[WkL,aF,jH,jI,jJ,go_sem,reduceIte,jA,jB,jC,jD,reduceCtorEq,jE,jF]))
    |(rw[←hQ]
      refine aue hlt ?_;exact aC hp (leo hd) ⟨by rw[aAp true (.inr (by simp[iV,k1,k2,k3,k4]))]<;>rfl,rfl⟩)
 have hc:decide ((i:Int)<(s.size:Int))=false:=dcf;refine aue hc ?_;rw[←hQ];refine au ?_;exact aC hp (leo hd) ⟨by rw[aAp true (.inl or)]<;>rfl,rfl⟩
theorem zq{s:ByteArray}{i:Nat}(h:i≤s.size):gC (s.extract i s.size)=iY (fun c=>decide (c≠10)) s i-i:=by
 obtain⟨a,b,c,d⟩:=mF (fun c=>decide (c≠10)) s i h;have hsz:=eM s i s.size;refine rG (Kk _) or (fun k _ hk=>?_) ?_
 ·rw[ue or (Km _)];exact c _ or or
 rcases d with d|d
 ·left;omega
 by_cases e:iY (fun c=>decide (c≠10)) s i=s.size
 ·left;omega
 right;rw[ue or (Km _),show i+(iY (fun c=>decide (c≠10)) s i-i)=iY (fun c=>decide (c≠10)) s i by omega];exact d
theorem ct(s:ByteArray)(hl:s.size≤4000)(i0:Nat)(hi0:i0≤s.size)(h:Hp):aM Tryz.prog 186 [.str s, .int .i64 i0] h (.int .i64 (bY s i0)):=by
 refine aJ (fun L=>trivial) fun h' nx hh=>aB L.aRz fun hd=>?_;simp only[jL,jM,jA,jB,jN,jO,jP,jQ,Ka];refine au ?_;refine aS (fun i:Nat=>aF 39 0 [(0, .str s),(1, .int .i64 i)]) (fun i hp nx1=>i≤s.size∧hp=h'∧bY s i0=bY s i) (fun i=>s.size-i) i0 ⟨hi0,rfl,rfl⟩ (by simp only[WkL,aF,jH,jI,jJ,go_sem,reduceIte,jA,jB,jC,jD,reduceCtorEq,jE,jF]) ?_;rintro i hp nx1 ⟨hi,rfl,hsk⟩;generalize hQ:bK _ _ _ _ _=Q0;simp only[aF,go_sem,reduceIte,jA,jB,jC,jD,reduceCtorEq,jE,jF];rcases Kq i s.size with hlt|hge
 ·have hc:decide ((i:Int)<(s.size:Int))=true:=dct;have hb:(s.data.toList.getD i 0).toNat=byt s i:=rfl;have aDT:byt s i<256:=by unfold byt;exact UInt8.toNat_lt _
  have hbl:=xj (byt s i) aDT;have C1:=fun h=>yZ ⟨#[9,10,13,32]⟩ (byt s i) h;cases k1:oX (byt s i) with
  |true=>
   rw[k1] at hbl;have hw:IntKind.i64.wrap ((i:Int)+1)=((i+1:Nat):Int):=wrp;refine aue (e5 hc hb hw hbl hlt) ?_;rw[←hQ];exact aG (i+1) or ⟨or,rfl,hsk.trans (j2 hlt k1)⟩ (by simp only[WkL,aF,jH,jI,jJ,go_sem,reduceIte,jA,jB,jC,jD,reduceCtorEq,jE,jF])
  |false=>
   rw[k1] at hbl;by_cases k2:byt s i=37
   ·have h37:((byt s i:Int)==37)=true:=bqt;have hlen:=wN hlt k2;have aTJ:=zq (Nat.le_of_lt hlt);obtain⟨a,b,aMy⟩:=B1 (s.extract i s.size) (by rw[eM];omega) Hp.none;have C2:=fun h=>aMy.mono (aZ h);rw[aTJ] at C2;have hsz:((s.extract i s.size).extract 0 (iY (fun c=>decide (c≠10)) s i-i)).size=iY (fun c=>decide (c≠10)) s i-i:=by rw[eM,eM];omega
    have hw:IntKind.i64.wrap ((i:Int)+((iY (fun c=>decide (c≠10)) s i-i:Nat):Int))=((iY (fun c=>decide (c≠10)) s i:Nat):Int):=wrp;refine aue (e8 hc hb h37 hw hbl hlt hsz (jG i)) ?_;rw[←hQ];exact aG (iY (fun c=>decide (c≠10)) s i) or ⟨or,rfl,hsk.trans (pm hlt k1 k2)⟩ (by simp only[WkL,aF,jH,jI,jJ,go_sem,reduceIte,jA,jB,jC,jD,reduceCtorEq,jE,jF])
   have h37:((byt s i:Int)==37)=false:=bqf;refine aue (e5 hc hb h37 hbl hlt) ?_;rw[←hQ];refine au ?_;exact aC hp (leo hd) ⟨by rw[hsk,xK hlt k1 k2]<;>rfl,rfl⟩
 have hc:decide ((i:Int)<(s.size:Int))=false:=dcf;refine aue hc ?_;rw[←hQ];refine au ?_;exact aC hp (leo hd) ⟨by rw[hsk,pE hge]<;>rfl,rfl⟩
end Go.Proofs.YtgbiopfghdilnaaGreatDoor
namespace Go.Proofs.YtgbiopfghdilnaaGreatDoor
open Go.RowKit
theorem rb{K:Ker}{h:Hp}(hr:Rel K h){n a:Nat}{k:Sh}{es:List V}{off len:Nat}{cv:Value}(hn:h n=some (.arr k es))(ha:¬K.live a)(hb0:off+len≤es.length)(hv:VR K (.rs n k off len) cv):
 ∃K',K'.w=K.w∧K.le K'∧(∀m,K'.live m→K.live m∨m=a)∧VR K' (.sl k .free ((es.drop off).take len)) cv∧Rel K' (h.del n):=by
 have hb:=hr.blk n _ hn;cases hb with
 |arr _ _ c T hh hcs aAr aAK hcv=>
  cases hv with
  |rs _ _ _ _ cap hl hcap hm=>
   obtain⟨T',m,hm1,hm2⟩:=hm;have hcm:m=c.size:=by simp[KF,hh] at hm1;exact hm1.2.symm
   subst hcm;have hblk:K.mu n<K.w.heap.size:=by
    rcases Kq (K.mu n) K.w.heap.size with hlt|hge
    ·exact hlt
    rw[KE hge] at hh;exact absurd hh Zm
   have hle:K.le (K.aAG a (K.mu n) (es.length*k.size)):=K.aAR ha (by rw[aAr];exact Kk _);have hmu:(K.aAG a (K.mu n) (es.length*k.size)).mu a=K.mu n:=by simp[Ker.aAG]
   have hrel:Rel (K.aAG a (K.mu n) (es.length*k.size)) ((h.del n).set a .tip):=hr.aAG hn ha (by rw[aAr];exact Kk _) (.tip c T (by rw[hmu];exact hh) (by simp[Ker.aAG]) (by simp only[Ker.aAG,if_true];exact hcs));have hlen:((es.drop off).take len).length=len:=by simp;omega
   have hsz:(off+len)*k.size≤es.length*k.size:=Nat.mul_le_mul_right _ hb0;rw[Qc] at hsz;have aBF:∀i,i<len→((es.drop off).take len).getD i Ka=es.getD (off+i) Ka:=fun i hi=>by
    rw[Ki,Ki,List.getElem?_take_of_lt hi,List.getElem?_drop]
   refine⟨K.aAG a (K.mu n) (es.length*k.size),rfl,hle,fun m hm=>hm.symm,?_,hrel.weaken fun m b e=>?_⟩
   ·have:=VR.sl (K:=K.aAG a (K.mu n) (es.length*k.size)) k .free ((es.drop off).take len) (K.mu n) (off*k.size) cap (fun j=>c.getD (off*k.size+j) Qb) hblk (fun e he=>aAK e (List.mem_of_mem_drop (List.mem_of_mem_take he)))
     (fun j hj=>by
       rw[hlen] at hj;show K.w.cell? _=_;simp only[KG,hh];rw[Kx,Ko or];rfl)
     (fun j hj=> .inr (by rw[hlen] at hj;simp only[Ker.aAG,if_true];omega))
     (fun i hi j hj=>by
       rw[hlen] at hi;rw[aBF i hi];have:=(hcv (off+i) or j hj).mono hle;rwa [Qc,Nat.add_assoc] at this) (by rw[hlen];exact hcap) Zm Zm
     (fun m hm=>by cases hm)
    rw[hlen] at this;exact this
   unfold Hp.del at e;unfold Hp.set Hp.del;by_cases e1:m=n
   ·rw[if_pos e1] at e;cases e
   rw[if_neg e1] at e;have hma:m≠a:=fun e2=>ha (e2▸hr.lt m b e);rw[if_neg hma,if_neg e1];exact e
def Co(k:Sh)(m:Nat)(l:List V):V:=if l.isEmpty=true then .sl k .nil [] else .rs m k 0 l.length
structure CJ(h:Hp)(O:Nat)(k:Sh)(ν:Nat→Nat)(ls:List (List V))(j:Nat)(es:List V):Prop where
 blk:h O=some (.arr .leaf es)
 len:es.length=ls.length
 old:∀i (hi:i<ls.length) (hi':i<es.length),i<j→es[i]=lst k ls[i]
 new:∀i (hi:i<ls.length) (hi':i<es.length),j≤i→es[i]=Co k (ν i) ls[i]
 mem:∀i (hi:i<ls.length),j≤i→ls[i]≠ []→h (ν i)=some (.arr k ls[i])∧ν i≠O
 apart:∀i i' (hi:i<ls.length) (hi':i'<ls.length),j≤i→i<i'→ls[i]≠ []→ls[i']≠ []→ν i≠ν i'
def V.aAu:V→V
 | .tup vs=> .tup (vs.map V.loose)
 |v=>v.loose
theorem VR.aAu{K:Ker}{v:V}{cv:Value}(r:VR K v cv):VR K v.aAu cv:=by
 cases v with
 |tup vs=>
  cases r with
  |tup _ ccs hl hv=>
   refine .tup _ ccs (by simpa using hl) fun i hi=>?_;have hi':i<vs.length:=by simpa using hi
   have:=hv i hi';simp only[Ki,Kz,KB hi',KO,KL] at this⊢;exact this.loose
 |_=>exact r.loose
theorem aQ.aMC{P:Program}{f:FuncId}{args:List V}{h:Hp}{nx:Nat}{R R':V→Hp→Nat→Prop}(c:aQ P f args h nx R)(hc:∀v h' nx',nx≤nx'→aW h' nx'→R v h' nx'→∃h2,h2.le h'∧R' v.aAu h2 nx'):aQ P f args h nx R':=by
 refine⟨c.1,fun K cargs hl hr hv=>(c.2 K cargs hl hr hv).mono ?_⟩;rintro e w' ⟨K',v,cv,h',nx',rfl,he,hle,hvr,hrel,hlv,hnx,hR⟩;obtain⟨h2,q1,q2⟩:=hc v h' nx' hnx (fun m b hm=>(hlv m (hrel.lt m b hm)).1) hR;exact⟨K',v.aAu,cv,h2,nx',rfl,he,hle,hvr.aAu,hrel.weaken q1,hlv,hnx,q2⟩
theorem dV{P:Program}{f:FuncId}{args:List V}{h:Hp}{v:V}(hv:∀L,v.names L)(hc:∀h' nx,h.has h'→aQ P f args h' nx fun v' h'' _=>v'.aAu=v∧h'.le h''):aM P f args h v:=
 aJ hv fun h' nx hh=>(hc h' nx hh).aMC fun v' h'' nx' _ _ hq=>⟨h',hq.2,hq.1,rfl⟩
end Go.Proofs.YtgbiopfghdilnaaGreatDoor
namespace Go.Proofs.YtgbiopfghdilnaaGreatDoor
open Go.RowKit Go.Sort
attribute [local irreducible] Kp
set_option maxHeartbeats 4000000
theorem mt(own:Own)(l:List ByteArray)(hl:l.length≤1000000000)(x:ByteArray)(h:Hp):aM Tryz.prog 82 [.sl .leaf own (l.map V.str), .str x] h (.int .i64 (bE (fun y=>decide (x=y)) l)):=by
 refine aJ (fun L=>trivial) fun h' nx hh=>aB L.aPz fun hd=>?_;simp only[Kd,Kj,Ke,Kf,Kb,Kc,Kg,Kh,Ka];refine aue trivial ?_;refine aS (fun i:Nat=>aF 19 0 [(0, .sl .leaf own (l.map V.str)),(1, .str x),(7, .int .i64 l.length),(8, .int .i64 i)]) (fun i hp nx1=>i≤l.length∧hp=h'∧∀y∈l.take i,decide (x=y)=false) (fun i=>l.length-i) 0 ⟨Kk _,rfl,Zm⟩ (by simp only[WkL,aF,KP,KQ,KM,go_sem,reduceIte,Ke,Kf,KC,Kt,reduceCtorEq,Ku,Kv]) ?_;rintro i hp nx1 ⟨hi,rfl,hno⟩;generalize hQ:bK _ _ _ _ _=Q0;simp only[aF,go_sem,reduceIte,Ke,Kf,KC,Kt,reduceCtorEq,Ku,Kv];rcases Kq i l.length with hlt|hge
 ·have hc:decide ((i:Int)<(l.length:Int))=true:=dct;have hg:=aN V.str l i hlt;have hw:IntKind.i64.wrap ((i:Int)+1)=((i+1:Nat):Int):=wrp;have hbe:=eN x l[i];cases k:decide (x=l[i]) with
  |true=>
   rw[k] at hbe;refine aue (e5 hc hg hbe hlt (Ky i)) ?_;rw[←hQ];refine au ?_;have:l.findIdx? (fun y=>decide (x=y))=some i:=by
    rw[List.findIdx?_eq_some_iff_getElem];refine⟨hlt,k,fun j hj=>?_⟩;have:=hno l[j] (KA.2 ⟨j,or,rfl⟩);simp[this]
   exact aC hp (leo hd) ⟨by simp only[bE,this];rfl,rfl⟩
  |false=>
   rw[k] at hbe;refine aue (e6 hc hg hbe hlt (Ky i) hw) ?_;rw[←hQ];refine aG (i+1) or ⟨or,rfl,fun y hy=>?_⟩ (by simp only[WkL,aF,KP,KQ,KM,go_sem,reduceIte,Ke,Kf,KC,Kt,reduceCtorEq,Ku,Kv]);rw[Ks hlt,KR,KH] at hy;rcases hy with hy|rfl
   ·exact hno y hy
   exact k
 have hc:decide ((i:Int)<(l.length:Int))=false:=dcf;refine aue hc ?_;rw[←hQ];refine au ?_;have hi':i=l.length:=or;rw[hi',List.take_length] at hno;have:l.findIdx? (fun y=>decide (x=y))=none:=by
  rw[List.findIdx?_eq_none_iff];exact fun y hy=>hno y hy
 exact aC hp (leo hd) ⟨by simp only[bE,this];rfl,rfl⟩
theorem gP(own:Own)(l:List ByteArray)(hl:l.length≤1000000000)(x:ByteArray)(h:Hp):aM Tryz.prog 41 [.sl .leaf own (l.map V.str), .str x] h (.bool (l.any fun y=>decide (x=y))):=by
 refine aJ (fun L=>trivial) fun h' nx hh=>aB L.aSj fun hd=>?_;simp only[Kd,Kj,Ke,Kf,Kb,Kc,Kg,Kh,Ka];have C1:=fun h=>mt own l hl x h;refine au ?_;exact aC h' (leo hd) ⟨by rw[←oR];rfl,rfl⟩
theorem zu(w:ByteArray):(mi.any fun y=>decide (w=y))=qw w:=by
 rw[KS,mj,List.any_eq_true];exact⟨fun⟨y,h1,h2⟩=>by rw[of_decide_eq_true h2];exact h1,fun h=>⟨w,h,decide_eq_true rfl⟩⟩
theorem xq(s:ByteArray)(hs:s.size≤4000):∃n e,aM Tryz.prog 188 [.str s] Hp.none (.tup [.int .i64 n,e])∧-9223372036854775808≤n∧n≤9223372036854775807∧(e= .nilIface∨∃T,e= .iface T .top):=by
 have C1:=fun h=>sa s hs h;have C2:=fun c hc h=>pg ⟨#[65,116,111,105]⟩ s hs c hc h;cases k:Lib.atoiAll s.data.toList with
 |ok v=>
  obtain⟨b1,b2⟩:=Lib.atoiAll_bounds k;rw[k] at C1;simp only[ub,nr] at C1;refine⟨v, .nilIface,aJ (fun L=>⟨trivial,trivial,trivial⟩) fun h' nx hh=>aB L.aDl fun hd=>?_,or,or, .inl rfl⟩;simp only[Kd,Kj,Ke,Kf,Kb,Kc,Kg,Kh,Ka];refine au ?_;exact aV h' (leo hd) ⟨rfl,rfl⟩
 |range=>
  rw[k] at C1;simp only[ub,nr] at C1;have aSI:-9223372036854775808≤Lib.atoiSat s.data.toList∧Lib.atoiSat s.data.toList≤9223372036854775807:=by unfold Lib.atoiSat;split<;>omega
  refine⟨Lib.atoiSat s.data.toList, .iface 294 .top,aJ (fun L=>⟨trivial,trivial,trivial⟩) fun h' nx hh=>aB L.aDl fun hd=>?_,aSI.1,aSI.2, .inr ⟨_,rfl⟩⟩;simp only[Kd,Kj,Ke,Kf,Kb,Kc,Kg,Kh,Ka];have C2:=C2 1 (.inl rfl);refine au ?_;exact aV h' (leo hd) ⟨rfl,rfl⟩
 |_=>
  rw[k] at C1;simp only[ub,nr] at C1;refine⟨0, .iface 294 .top,aJ (fun L=>⟨trivial,trivial,trivial⟩) fun h' nx hh=>aB L.aDl fun hd=>?_,or,or, .inr ⟨_,rfl⟩⟩;simp only[Kd,Kj,Ke,Kf,Kb,Kc,Kg,Kh,Ka];have C2:=C2 2 (.inr rfl);refine au ?_;exact aV h' (leo hd) ⟨rfl,rfl⟩
noncomputable def gK(w:ByteArray):Int:=@ite _ (aM Tryz.prog 201 [.str w] Hp.none (.int .i64 4)) (Classical.propDecidable _) 4 0
theorem s7(w:ByteArray):gK w=0∨gK w=4:=by
 unfold gK;split
 ·exact .inr rfl
 exact .inl rfl
theorem ul(w:ByteArray)(h1:1≤w.size)(h2:w.size≤4000)(h:Hp):aM Tryz.prog 201 [.str w] h (.int .i64 (gH gK w)):=by
 have aS8:(qw w=false→lG w=false→¬(fZ (byt w 0)=true∧w.size≤32)→∀k:Int,(k=4∨k=0)→aM Tryz.prog 201 [.str w] Hp.none (.int .i64 k)→aM Tryz.prog 201 [.str w] h (.int .i64 (gH gK w))):=by
  intro g1 g2 g3 k hk hp;have:gH gK w=gK w:=by unfold gH;rw[if_neg (by simp[g1]),if_neg (by simp[g2]),if_neg g3]
  rw[this];unfold gK;split
  ·rename_i q;exact q.mono (aZ h)
  rename_i q;rcases hk with rfl|rfl
  ·exact absurd hp q
  exact hp.mono (aZ h)
 have C1:=fun h=>gP .free mi ZM w h;rw[zu] at C1;have C2:=fun h=>du w h;cases k1:qw w with
 |true=>
  rw[k1] at C1;refine aJ (fun L=>trivial) fun h' nx hh=>aB L.aB6 fun hd=>?_;simp only[Kd,Kj,Ke,Kf,Kb,Kc,Kg,Kh,Ka];refine au ?_;exact aC h' (leo hd) ⟨by unfold gH;rw[if_pos k1]<;>rfl,rfl⟩
 |false=>
  rw[k1] at C1;cases k2:lG w with
  |true=>
   rw[k2] at C2;refine aJ (fun L=>trivial) fun h' nx hh=>aB L.aB6 fun hd=>?_;simp only[Kd,Kj,Ke,Kf,Kb,Kc,Kg,Kh,Ka];refine au ?_;exact aC h' (leo hd) ⟨by unfold gH;rw[if_neg (by simp[k1]),if_pos k2]<;>rfl,rfl⟩
  |false=>
   rw[k2] at C2;have hb:(w.data.toList.getD 0 0).toNat=byt w 0:=rfl;have C3:=fun h=>zD (byt w 0) h;by_cases k3:fZ (byt w 0)=true∧w.size≤32
   ·rw[k3.1] at C3;have g1:decide ((w.size:Int)≤32)=true:=dct;have g2:0<w.size:=h1;refine aJ (fun L=>trivial) fun h' nx hh=>aB L.aB6 fun hd=>?_;simp only[Kd,Kj,Ke,Kf,Kb,Kc,Kg,Kh,Ka];refine aue (e3 hb g1 g2) ?_;exact aC h' (leo hd) ⟨by unfold gH;rw[if_neg (by simp[k1]),if_neg (by simp[k2]),if_pos k3]<;>rfl,rfl⟩
   obtain⟨n,e,hA,hn1,hn2,he⟩:=xq w h2;have C4:=fun h=>hA.mono (aZ h);have g2:0<w.size:=h1;have aDW:∀k:Int,k=4∨k=0→(∀h,aM Tryz.prog 201 [.str w] h (.int .i64 k))→aM Tryz.prog 201 [.str w] h (.int .i64 (gH gK w)):=fun k hk hp=>aS8 k1 k2 k3 k hk (hp Hp.none);have hgr:∃g,fZ (byt w 0)=g∧(g=true→decide ((w.size:Int)≤32)=false):=⟨_,rfl,fun g=>dcf (by intro q;exact k3 ⟨g,or⟩)⟩;obtain⟨g,g3,g4⟩:=hgr;rw[g3] at C3;rcases he with rfl|⟨T,rfl⟩
   ·by_cases k5:n≤2147483647
    ·have g5:decide (n≤2147483647)=true:=dct;have C5:=wn n hn1 hn2;have hbe:=eN ⟨(Lib.itoa n).toArray⟩ w;cases k6:decide ((⟨(Lib.itoa n).toArray⟩:ByteArray)=w) with
     |true=>
      rw[k6] at hbe;refine aDW 4 (.inl rfl) fun h=>aJ (fun L=>trivial) fun h' nx hh=>aB L.aB6 fun hd=>?_;simp only[Kd,Kj,Ke,Kf,Kb,Kc,Kg,Kh,Ka];have C5:=C5 h';cases g with
      |false=>
       refine aue (e4 hb g5 g2 hbe) ?_;exact aC h' (leo hd) ⟨rfl,rfl⟩
      |true=>
       have g4:=g4 rfl;refine aue (e5 hb g5 g2 hbe g4) ?_;exact aC h' (leo hd) ⟨rfl,rfl⟩
     |false=>
      rw[k6] at hbe;refine aDW 0 (.inr rfl) fun h=>aJ (fun L=>trivial) fun h' nx hh=>aB L.aB6 fun hd=>?_;simp only[Kd,Kj,Ke,Kf,Kb,Kc,Kg,Kh,Ka];have C5:=C5 h';cases g with
      |false=>
       refine aue (e4 hb g5 g2 hbe) ?_;exact aC h' (leo hd) ⟨rfl,rfl⟩
      |true=>
       have g4:=g4 rfl;refine aue (e5 hb g5 g2 hbe g4) ?_;exact aC h' (leo hd) ⟨rfl,rfl⟩
    have g5:decide (n≤2147483647)=false:=dcf;refine aDW 0 (.inr rfl) fun h=>aJ (fun L=>trivial) fun h' nx hh=>aB L.aB6 fun hd=>?_;simp only[Kd,Kj,Ke,Kf,Kb,Kc,Kg,Kh,Ka];cases g with
    |false=>
     refine aue (e3 hb g5 g2) ?_;exact aC h' (leo hd) ⟨rfl,rfl⟩
    |true=>
     have g4:=g4 rfl;refine aue (e4 hb g5 g2 g4) ?_;exact aC h' (leo hd) ⟨rfl,rfl⟩
   refine aDW 0 (.inr rfl) fun h=>aJ (fun L=>trivial) fun h' nx hh=>aB L.aB6 fun hd=>?_;simp only[Kd,Kj,Ke,Kf,Kb,Kc,Kg,Kh,Ka];cases g with
   |false=>
    refine aue (e2 hb g2) ?_;exact aC h' (leo hd) ⟨rfl,rfl⟩
   |true=>
    have g4:=g4 rfl;refine aue (e3 hb g2 g4) ?_;exact aC h' (leo hd) ⟨rfl,rfl⟩
end Go.Proofs.YtgbiopfghdilnaaGreatDoor
namespace Go.Proofs.YtgbiopfghdilnaaGreatDoor
open Go.RowKit Go.Sort
attribute [local irreducible] Kp
set_option maxHeartbeats 4000000
theorem AO(r t:ByteArray):qR r t=(decide (t.size≤r.size)&&decide (r.extract 0 t.size=t)):=by
 have e:(r.extract 0 t.size).data.toList=r.data.toList.take t.size:=by
  rw[ByteArray.data_extract,Array.toList_extract];simp[List.extract]
 have hl:t.data.toList.length=t.size:=Zm;rw[KS,qR,List.isPrefixOf_iff_prefix,Bool.and_eq_true,decide_eq_true_eq,decide_eq_true_eq,List.prefix_iff_eq_take,hl];constructor
 ·intro h;refine⟨?_,ByteArray.ext (Array.toList_inj.1 (by rw[e,←h]))⟩;have:=congrArg List.length h;rw[List.length_take,hl] at this;have h2:r.data.toList.length=r.size:=Zm;omega
 rintro⟨_,h⟩;rw[←e,h]
theorem ia(r t:ByteArray)(hr:r.size≤1000000)(ht:t.size≤1000000)(h:Hp):aM Tryz.prog 213 [.str r, .str t] h (.bool (qR r t)):=by
 refine aJ (fun L=>trivial) fun h' nx hh=>aB L.aRg fun hd=>?_;simp only[jL,jM,jA,jB,jN,jO,jP,jQ,Ka];rw[AO];by_cases hc:t.size≤r.size
 ·have g1:decide ((t.size:Int)≤(r.size:Int))=true:=dct;have g2:decide (t.size≤r.size)=true:=dct;have hbe:=eN (r.extract 0 t.size) t;refine aue (e4 g1 hbe hc (jG t.size)) ?_;exact aC h' (leo hd) ⟨by first|rfl|(rw[g2];rfl),rfl⟩
 have g1:decide ((t.size:Int)≤(r.size:Int))=false:=dcf;have g2:decide (t.size≤r.size)=false:=dcf;refine aue g1 ?_;exact aC h' (leo hd) ⟨by first|rfl|(rw[g2];rfl),rfl⟩
theorem kp(r t:ByteArray)(hr:r.size≤1000000)(ht:t.size≤1000000)(h:Hp):aM Tryz.prog 202 [.str r, .str t] h (.bool (qR r t)):=by
 refine aJ (fun L=>trivial) fun h' nx hh=>aB L.aRn fun hd=>?_;simp only[jL,jM,jA,jB,jN,jO,jP,jQ,Ka];have C1:=fun h=>ia r t hr ht h;refine au ?_;exact aC h' (leo hd) ⟨rfl,rfl⟩
def Tk.v(t:Tk):V:= .agg [.int .i64 t.k, .str t.t, .int .i64 t.a]
theorem Tk.aAD(t:Tk):t.v.fits (.agg 3)=true:=rfl
theorem Tk.aAQ(L:Nat→Prop)(t:Tk):t.v.names L:=by simp[Tk.v,V.names,bD]
theorem po{r:ByteArray}{i:Nat}(hi:i<eF.length)(hp:qR r eF[i]=true)(hno:∀t∈eF.take i,qR r t=false):rN r=(5,eF[i]):=by
 unfold rN;have:eF.find? (qR r)=some eF[i]:=by
  rw[List.find?_eq_some_iff_getElem];refine⟨hp,i,hi,rfl,fun j hj=>?_⟩;have:=hno eF[j] (KA.2 ⟨j,or,rfl⟩);simp[this]
 rw[this]
theorem pq{r:ByteArray}(hno:∀t∈eF,qR r t=false):rN r=(0,⟨#[]⟩):=by
 unfold rN;have:eF.find? (qR r)=none:=by
  rw[List.find?_eq_none];intro t ht;simp[hno t ht]
 rw[this]
theorem vm(r:ByteArray)(h1:1≤r.size)(h2:r.size≤4000)(h:Hp):aM Tryz.prog 187 [.str r] h (Tk.v ⟨(eX gK r).1,(eX gK r).2,0⟩):=by
 refine aJ (fun L=>Tk.aAQ L _) fun h' nx hh=>aB L.aRu fun hd=>?_;simp only[jL,jM,jA,jB,jN,jO,jP,jQ,Ka];have C1:=fun h=>run_pure r h2 h;have hrl:=gw r;have hb:(r.data.toList.getD 0 0).toNat=byt r 0:=rfl;have h0:0<r.size:=h1;by_cases hc:0<mV r∧byt r 0≠95
 ·have g1:decide ((0:Int)<(mV r:Int))=true:=dct or;have g2:((byt r 0:Int) != 95)=true:=bnt or;have g3:mV r≤r.size:=hrl;have D1:=fun h=>ul (r.extract 0 (mV r)) (by rw[eM];omega) (by rw[eM];omega) h;refine aue (e6 hb g1 g2 g3 h0 (jG (mV r))) ?_;refine xT (by simp only[go_sem,reduceIte,jA,jB,jC,jD,reduceCtorEq,jE,jF]) h' (leo hd) ⟨?_,rfl⟩;refine Zn ?_;unfold eX;rw[if_pos hc];rfl
 obtain⟨SG,hSG⟩:∃SG,SG=eF.map V.str:=⟨_,rfl⟩;have aMO: [V.str ⟨#[58,45]⟩, .str ⟨#[33,61]⟩, .str ⟨#[60,61]⟩, .str ⟨#[62,61]⟩, .str ⟨#[40]⟩, .str ⟨#[41]⟩, .str ⟨#[44]⟩, .str ⟨#[46]⟩, .str ⟨#[61]⟩, .str ⟨#[60]⟩, .str ⟨#[62]⟩, .str ⟨#[43]⟩, .str ⟨#[45]⟩, .str ⟨#[42]⟩]=SG:=by rw[hSG];rfl
 have hSl:SG.length=14:=by rw[hSG];rfl
 have hSf:SG.all V.aAE=true:=by rw[hSG];rfl
 have hnx:eX gK r=rN r:=by unfold eX;rw[if_neg hc]
 rw[hnx];have key:∀(i:Nat) (hi:i<14),SG.getD i (.tup [])= .str eF[i]:=fun i hi=>by
  rw[hSG,Ki,Kz,KB (by exact hi)];rfl
 have hsz:∀t∈eF,t.size≤1000000:=by decide+kernel
 have aBV:decide ((0:Int)<(mV r:Int))=false∨(decide ((0:Int)<(mV r:Int))=true∧((byt r 0:Int) != 95)=false):=by
  by_cases q:0<mV r
  ·exact .inr ⟨dct or,bnf (by have:¬byt r 0≠95:=fun k=>hc ⟨q,k⟩;omega)⟩
  exact .inl (dcf or)
 rcases aBV with g1|⟨g1,g2⟩
 all_goals
  first
   |refine aue (e6 hb g1 g2 h0 aMO hSl) ?_
   |refine aue (e5 hb g1 h0 aMO hSl) ?_
  refine aS (fun i:Nat=>aF 34 0 [(0, .str r),(2, .ptr nx (.agg 3) 0 0),(23, .agg SG),(24, .int .i64 i)]) (fun i hp nx1=>i≤14∧hp=h'.set nx (.arr (.agg 3) [.agg [.int .i64 0, .str ⟨#[]⟩, .int .i64 0]])∧nx<nx1∧∀t∈eF.take i,qR r t=false) (fun i=>14-i) 0 ⟨or,rfl,Zw,Zm⟩ (by simp only[WkL,aF,jH,jI,jJ,go_sem,reduceIte,jA,jB,jC,jD,reduceCtorEq,jE,jF]) ?_;rintro i hp nx1 ⟨hi,rfl,aCm,hno⟩;generalize hQ:bK _ _ _ _ _=Q0;simp only[aF,go_sem,reduceIte,jA,jB,jC,jD,reduceCtorEq,jE,jF];rcases Kq i 14 with hlt|hge
  ·have hc:decide ((i:Int)<14)=true:=dct;have hg:=key i hlt;have hw:IntKind.i64.wrap ((i:Int)+1)=((i+1:Nat):Int):=wrp;have C1:=fun h=>kp r eF[i] or (hsz _ (List.getElem_mem _)) h;have aSO:(i:Int)<14:=or;cases k:qR r eF[i] with
   |true=>
    rw[k] at C1;refine aue (e6 hc hg hSl hlt aSO (jG i)) ?_;rw[←hQ];refine au ?_;refine xT (by simp only[go_sem,reduceIte,jA,jB,jC,jD,reduceCtorEq,jE,jF]) h' (leo hd) ⟨?_,rfl⟩;refine Zn ?_;rw[po hlt k hno];rfl
   |false=>
    rw[k] at C1;refine aue (e7 hc hg hSl hlt aSO (jG i) hw) ?_;rw[←hQ];refine aG (i+1) or ⟨or,rfl,or,fun t ht=>?_⟩ (by simp only[WkL,aF,jH,jI,jJ,go_sem,reduceIte,jA,jB,jC,jD,reduceCtorEq,jE,jF]);rw[Ks hlt,KR,KH] at ht;rcases ht with ht|rfl
    ·exact hno t ht
    exact k
  have hc:decide ((i:Int)<14)=false:=dcf;refine aue hc ?_;rw[←hQ];refine au ?_;refine xT (by simp only[go_sem,reduceIte,jA,jB,jC,jD,reduceCtorEq,jE,jF]) h' (leo hd) ⟨?_,rfl⟩;refine Zn ?_;rw[pq (fun t ht=>hno t (by rw[KD (by show 14≤i;omega)];exact ht))];rfl
end Go.Proofs.YtgbiopfghdilnaaGreatDoor
namespace Go.Proofs.YtgbiopfghdilnaaGreatDoor
open Go.RowKit
theorem eE.set{K:Ker}{sl:List V}{a:Act}(r:eE K sl a){t:Nat}{v:V}(hv:VR K v (a.tmps.getD t Qb)):eE K (sl.set t v) a:=by
 refine⟨by rw[KU];exact r.1,fun u=>?_⟩;by_cases e:u=t
 ·subst e;by_cases hl:u<sl.length
  ·rw[Ki,List.getElem?_set_self hl];exact hv
  have:=r.2 u;rw[List.set_eq_of_length_le or];exact this
 have:=r.2 u;rw[Ki] at this⊢;rw[List.getElem?_set_ne (fun h=>e h.symm)];exact this
theorem iI{sl:List V}{h:Hp}{nx t n off len:Nat}{k:Sh}{es:List V}(ht:sl.getD t Ka= .rs n k off len)(hn:h n=some (.arr k es))(hb:off+len≤es.length):
 tA ⟨sl,h,nx⟩ ⟨sl.set t (.sl k .free ((es.drop off).take len)),h.del n,nx+1⟩:=by
 intro K0 K nx0 a r;have hv:=r.aAC.2 t;rw[ht] at hv;have hfr:¬K.live nx:=fun hh=>KY _ (r.live nx hh).1;obtain⟨K',q1,q2,q3,q4,q5⟩:=rb r.rel hn hfr hb hv;refine⟨K',q1,r.le.trans q2,(r.aAC.mono q2).set q4,q5,fun m hm=>?_,KI r.nx,by rw[q1];exact r.defers⟩;rcases q3 m hm with hm|rfl
 ·have:=r.live m hm;exact⟨KJ this.1,this.2⟩
 exact⟨KN _, .inr r.nx⟩
theorem rc{K:Ker}{h:Hp}(hr:Rel K h){n a i o:Nat}{k:Sh}{es:List V}{cv:Value}(hn:h n=some (.arr k es))(ha:¬K.live a)(hv:VR K (.ptr n k i o) cv):
 ∃K',K'.w=K.w∧K.le K'∧(∀m,K'.live m→K.live m∨m=a)∧VR K' (.ept k es i o) cv∧Rel K' (h.del n):=by
 have hb:=hr.blk n _ hn;cases hb with
 |arr _ _ c T hh hcs aAr aAK hcv=>
  cases hv with
  |ptr _ _ _ _ hl=>
   have hblk:K.mu n<K.w.heap.size:=by
    rcases Kq (K.mu n) K.w.heap.size with hlt|hge
    ·exact hlt
    rw[KE hge] at hh;exact absurd hh Zm
   have hle:K.le (K.aAG a (K.mu n) (es.length*k.size)):=K.aAR ha (by rw[aAr];exact Kk _);have hmu:(K.aAG a (K.mu n) (es.length*k.size)).mu a=K.mu n:=by simp[Ker.aAG]
   have hrel:Rel (K.aAG a (K.mu n) (es.length*k.size)) ((h.del n).set a .tip):=hr.aAG hn ha (by rw[aAr];exact Kk _) (.tip c T (by rw[hmu];exact hh) (by simp[Ker.aAG]) (by simp only[Ker.aAG,if_true];exact hcs));refine⟨K.aAG a (K.mu n) (es.length*k.size),rfl,hle,fun m hm=>hm.symm,?_,hrel.weaken fun m b e=>?_⟩
   ·have:=VR.ept (K:=K.aAG a (K.mu n) (es.length*k.size)) k es i o (K.mu n) 0 (fun j=>c.getD j Qb) hblk aAK
     (fun j hj=>by
       show K.w.cell? _=_;simp only[KG,hh,Qa];rw[Kx,Ko or];rfl)
     (fun j hj=> .inr (by simp only[Ker.aAG,if_true];omega))
     (fun i hi j hj=>(hcv i hi j hj).mono hle)
    rwa [Qa] at this
   unfold Hp.del at e;unfold Hp.set Hp.del;by_cases e1:m=n
   ·rw[if_pos e1] at e;cases e
   rw[if_neg e1] at e;have hma:m≠a:=fun e2=>ha (e2▸hr.lt m b e);rw[if_neg hma,if_neg e1];exact e
theorem xH{sl:List V}{h:Hp}{nx t n i o:Nat}{k:Sh}{es:List V}(ht:sl.getD t Ka= .ptr n k i o)(hn:h n=some (.arr k es)):
 tA ⟨sl,h,nx⟩ ⟨sl.set t (.ept k es i o),h.del n,nx+1⟩:=by
 intro K0 K nx0 a r;have hv:=r.aAC.2 t;rw[ht] at hv;have hfr:¬K.live nx:=fun hh=>KY _ (r.live nx hh).1;obtain⟨K',q1,q2,q3,q4,q5⟩:=rc r.rel hn hfr hv;refine⟨K',q1,r.le.trans q2,(r.aAC.mono q2).set q4,q5,fun m hm=>?_,KI r.nx,by rw[q1];exact r.defers⟩;rcases q3 m hm with hm|rfl
 ·have:=r.live m hm;exact⟨KJ this.1,this.2⟩
 exact⟨KN _, .inr r.nx⟩
theorem gsl(l:List V)(i j:Nat)(v d:V):(l.set i v).getD j d=if i=j∧j<l.length then v else l.getD j d:=by
 rw[Ki,Ki,List.getElem?_set];split
 ·rename_i e;subst e;split
  ·rename_i h;rw[if_pos ⟨rfl,h⟩];rfl
  rename_i h;rw[if_neg (fun k=>h k.2),List.getElem?_eq_none or]
 rename_i e;rw[if_neg (fun k=>e k.1)]
structure RG(F:List (Nat×Nat×V))(fix:List (Nat×V))(n:Nat)(D:Nat→Bool)(sl:List V):Prop where
 len:sl.length=n
 fx:∀p∈fix,sl.getD p.1 Ka=p.2
 dn:∀f∈F,D f.1=true→sl.getD f.2.1 Ka=f.2.2
theorem RG.slot{F:List (Nat×Nat×V)}{fix:List (Nat×V)}{n:Nat}{D:Nat→Bool}{sl:List V}(r:RG F fix n D sl)(i t:Nat)(v:V)(ht:t<n)(hF:∀f∈F,(f.1=i∨f.2.1=t)→f=(i,t,v))(hx:∀p∈fix,p.1≠t):
 RG F fix n (fun j=>if j=i then true else D j) (sl.set t v):=by
 obtain⟨len,fx,dn⟩:=r;refine⟨by rw[KU];exact len,fun p hp=>?_,fun f hf hd=>?_⟩
 ·rw[gsl,if_neg (fun e=>hx p hp e.1.symm)];exact fx p hp
 rw[gsl];by_cases e:t=f.2.1
 ·have:=hF f hf (.inr e.symm);subst this;rw[if_pos ⟨rfl,by rw[len];exact ht⟩]
 rw[if_neg (fun k=>e k.1)];by_cases e2:f.1=i
 ·have:=hF f hf (.inl e2);subst this;exact absurd rfl e
 rw[if_neg e2] at hd;exact dn f hf hd
theorem RG.none{F:List (Nat×Nat×V)}{fix:List (Nat×V)}{n:Nat}{D:Nat→Bool}{sl:List V}(r:RG F fix n D sl)(i:Nat)(hF:∀f∈F,f.1≠i):RG F fix n (fun j=>if j=i then true else D j) sl:=
 ⟨r.len,r.fx,fun f hf hd=>r.dn f hf (by rwa [if_neg (hF f hf)] at hd)⟩
end Go.Proofs.YtgbiopfghdilnaaGreatDoor
