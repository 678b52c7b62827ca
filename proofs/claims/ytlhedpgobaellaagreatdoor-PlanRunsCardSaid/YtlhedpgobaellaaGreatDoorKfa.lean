/-
Texts of this proof,one behind the other. No conditions.
-/
import Derived.Test.YtlhedpgobaellaaGreatDoorKf
import Derived.Lib.Bytealg
import Derived.Shelf.SlSortCmp.Whole1
import Derived.Shelf.Strconv.AtoiAll
import Derived.Shelf.Strconv.Itoa3
import Derived.Lib.BufferWrite
import Derived.Lib.UnsafeStr
import Derived.Lib.AppendIntMem
open Go.Proofs.YtlhedpgobaellaaGreatDoor.V renaming undef→Ka
open List renaming replicate_succ→Kb,replicate_zero→Kc,length_cons→Kd,cons_append→Kg,nil_append→Kh,length_nil→Ki,take_succ_eq_append_getElem→Ko,getD_eq_getElem?_getD→Ku,mem_take_iff_getElem→Kw,take_of_length_le→Kz,mem_singleton→KA,getElem?_map→KB,mem_append→KG
open Nat renaming reduceAdd→Ke,reduceSub→Kf,le_refl→Kj,zero_le→Kk,reduceLeDiff→Kp,reduceEqDiff→Kq,reduceLT→Kx,lt_or_ge→Ky,le_succ→KC,le_trans→KM
open Go.IntKind renaming wrap→Km
open Int renaming reduceToNat→Ks,toNat_natCast→Kv,natCast_zero→KD,natCast_add→KE,natCast_one→KF
open Array renaming length_toList→Kt,getD→KK,ext→KL
open Bool renaming eq_iff_iff→KH
open Go.World renaming shape?→KI,freeze→KJ
open Nat renaming reduceAdd→jA,reduceSub→jB,reduceLT→jC,reduceLeDiff→jD,reduceEqDiff→jE
open Int renaming reduceToNat→jF,toNat_natCast→jG,natCast_add→jH,natCast_one→jI,natCast_zero→jJ
set_option linter.all false
set_option maxHeartbeats 8000000
namespace Go.Proofs.YtlhedpgobaellaaGreatDoor
open Go.RowKit Go.Sort
attribute [local irreducible] Km
theorem oZ{P:Program}{f:FuncId}{args:List V}{v:V}(hn:∀L,v.names L)(hen:kP P f=true)(hc:∀(K:Ker) (cargs:Array Value),iV K→VRs K args cargs→Calls P f cargs K.w fun e w'=>∃cv,e= .returned cv∧(∀K,VR K v cv)∧eM K.w w')(h:Hp):aM P f args h v:=by
 refine aJ hn fun h' nx hh=>⟨hen,fun K cargs hlv hr hv=>?_⟩;refine(hc K cargs hr.size hv).mono ?_;rintro e w' ⟨cv,rfl,hv',hb⟩;exact⟨{K with w:=w'},v,cv,h',nx,rfl,rfl,rT hb,hv' _,hr.later hb,fun n hn=>⟨hlv n hn, .inl hn⟩,Kj _,rfl,rfl⟩
theorem bE{t u v:Nat}{R:V→Hp→Nat→Prop}{s:St}(h':Hp)(hle:h'.le s.h)(hR:R (.tup [s.sl.getD t Ka,s.sl.getD u Ka,s.sl.getD v Ka]) h' s.nx):rM [.slot t, .slot u, .slot v] R .ret s:=⟨h',hle,hR⟩
theorem AX{K:Ker}{a:V}{c:Array Value}(h:VRs K [a] c):∃x,c=#[x]∧VR K a x:=by
 obtain⟨hs,hv⟩:=h;have hs:c.size=1:=by simpa using hs.symm
 refine⟨c[0],?_,?_⟩
 ·apply KL
  ·simp[hs]
  intro i h1 h2;obtain rfl:i=0:=or;rfl
 have:=hv 0 Zm;simpa [KK,hs] using this
theorem AW{K:Ker}{a b:V}{c:Array Value}(h:VRs K [a,b] c):∃x y,c=#[x,y]∧VR K a x∧VR K b y:=by
 obtain⟨hs,hv⟩:=h;have hs:c.size=2:=by simpa using hs.symm
 refine⟨c[0],c[1],?_,?_,?_⟩
 ·apply KL
  ·simp[hs]
  intro i h1 h2;have:i=0∨i=1:=or;rcases this with rfl|rfl<;>rfl
 ·have:=hv 0 Zm;simpa [KK,hs] using this
 have:=hv 1 Zm;simpa [KK,hs] using this
set_option maxRecDepth 100000 in
theorem rV(s:ByteArray)(c:Int)(w:World):
 Calls Tryz.prog 264 #[.string s, .int .u8 c] w fun e w'=>e= .returned (.int .i64 (Lib.indexByte s.data.toList c.toNat.toUInt8))∧w'=w:=by
 go_enter Tryz.func264,Tryz.ntmps264
 go_wp2
 rw[run_callFunc_extern Tryz.func280 Zz Zz Zz (e:=Extern.BytealgIndexByte.indexByte) Zz,Lib.run_indexByteString];simp only[Result.andThen];rw[Oper.upon_value]
 go_wp2
 go_ret
 exact⟨rfl,rfl⟩
theorem az(s:ByteArray)(c:Nat)(h:Hp):aM Tryz.prog 264 [.str s, .int .u8 c] h (.int .i64 (Lib.indexByte s.data.toList c.toUInt8)):=by
 refine oZ ?_ Zz (fun K cargs _ hv=>?_) h
 ·exact fun L=>trivial
 obtain⟨x,y,rfl,v1,v2⟩:=AW hv;cases v1;cases v2;refine(rV s c K.w).mono ?_;rintro e w' ⟨rfl,rfl⟩;exact⟨_,rfl,fun K=> .int _ _,eM.refl _⟩
theorem gu(s:ByteArray)(c:Nat)(h:Hp):aM Tryz.prog 253 [.str s, .int .u8 c] h (.int .i64 (Lib.indexByte s.data.toList c.toUInt8)):=by
 refine aJ (fun L=>trivial) fun h' nx hh=>aB L.aWj fun hd=>?_;simp only[Kd,Ki,Ke,Kf,Kb,Kc,Kg,Kh,Ka];have C1:=fun h=>az s c h;refine au ?_;exact aC h' (leo hd) ⟨rfl,rfl⟩
theorem wg:∀(l:List UInt8) (c:UInt8),(∃i:Nat,i<l.length∧Lib.indexByte l c=i∧l.getD i 0=c∧∀j,j<i→l.getD j 0≠c)∨(Lib.indexByte l c=-1∧∀j,j<l.length→l.getD j 0≠c)
 | [],c=> .inr ⟨rfl,fun j hj=>absurd hj Zm⟩
 |b::l,c=>by
  unfold Lib.indexByte;by_cases hb:b=c
  ·subst hb;exact .inl ⟨0,Zm,Zm,Zm,fun j hj=>absurd hj or⟩
  rw[if_neg (by simpa using hb)];rcases wg l c with⟨i,h1,h2,h3,h4⟩|⟨h2,h4⟩
  ·refine .inl ⟨i+1,by simpa using h1,?_,by simpa using h3,fun j hj=>?_⟩
   ·rw[h2,if_neg (by rw[beq_iff_eq];omega)];omega
   cases j with
   |zero=>simpa using hb
   |succ j=>simpa using h4 j or
  refine .inr ⟨by rw[h2];rfl,fun j hj=>?_⟩;cases j with
  |zero=>simpa using hb
  |succ j=>simpa using h4 j (by simpa using hj)
theorem DA(c:Nat)(hc:c<256):decide (0≤Lib.indexByte [9,10,13,32] c.toUInt8)=sF c:=by
 revert c;decide+kernel
def iT(r:ByteArray):Nat:=mB (fun c=>decide (c≠10)) r 0
theorem EZ(r:ByteArray):Lib.indexByte r.data.toList 10=if iT r<r.size then (iT r:Int) else-1:=by
 have hb:∀j,(byt r j=10)↔r.data.toList.getD j 0=10:=fun j=>by
  unfold byt;constructor
  ·intro h;exact UInt8.toNat_inj.1 (by rw[h];rfl)
  intro h;rw[h];rfl
 have hl:r.data.toList.length=r.size:=Zm;rcases wg r.data.toList 10 with⟨i,h1,h2,h3,h4⟩|⟨h2,h4⟩
 ·have:iT r=i:=vP (Kk _) or (fun k _ hk=>decide_eq_true fun e=>h4 k hk ((hb k).1 e)) (.inr (decide_eq_false fun e=>e ((hb i).2 h3)));rw[this,if_pos or,h2]
 have:iT r=r.size:=vP (Kk _) (Kj _) (fun k _ hk=>decide_eq_true fun e=>h4 k or ((hb k).1 e)) (.inl rfl);rw[this,if_neg or,h2]
set_option maxRecDepth 100000 in
theorem Af(s:ByteArray)(c:UInt8)(w:World):
 Calls Tryz.prog 281 #[.string s, .string ⟨#[c]⟩] w fun e w'=>e= .returned (.int .i64 (Lib.indexByte s.data.toList c))∧w'=w:=by
 go_enter Tryz.func281,Tryz.ntmps281
 go_wp2_with (go_at_call 264;refine(rV _ _ _).mono ?_;rintro e w' ⟨rfl,rfl⟩)
 ·have h:([c]==s.toList)=true:=by assumption
  go_ret
  refine⟨?_,rfl⟩;have e:s.data.toList=[c]:=by rw[←Lib.toList_data];exact(beq_iff_eq.1 h).symm
  rw[e];simp[Lib.indexByte]
 go_ret
 exact⟨rfl,rfl⟩
theorem wd(r:ByteArray)(h:Hp):aM Tryz.prog 281 [.str r, .str ⟨#[10]⟩] h (.int .i64 (if iT r<r.size then (iT r:Int) else-1)):=by
 rw[←EZ];refine oZ ?_ Zz (fun K cargs _ hv=>?_) h
 ·exact fun L=>trivial
 obtain⟨x,y,rfl,v1,v2⟩:=AW hv;cases v1;cases v2;refine(Af r 10 K.w).mono ?_;rintro e w' ⟨rfl,rfl⟩;exact⟨_,rfl,fun K=> .int _ _,eM.refl _⟩
theorem GH(r:ByteArray)(hl:r.size≤1000000)(h:Hp):∃a b,aM Tryz.prog 265 [.str r, .str ⟨#[10]⟩] h (.tup [.str (r.extract 0 (iT r)), .str a, .bool b]):=by
 have hle:iT r≤r.size:=(oV _ r 0 (Kk _)).2.1;by_cases hc:iT r<r.size
 ·refine⟨r.extract (iT r+1) r.size,true,aJ (fun L=>⟨trivial,trivial,trivial,trivial⟩) fun h' nx hh=>aB L.aMX fun hd=>?_⟩;simp only[Kd,Ki,Ke,Kf,Kb,Kc,Kg,Kh,Ka];have C1:=fun h=>wd r h;rw[if_pos hc] at C1;have g1:decide ((iT r:Int)≥0)=true:=dct;have g2:decide ((0:Int)≤iT r)=true:=dct;have g3:IntKind.i64.wrap ((iT r:Int)+((1:Nat):Int))=((iT r+1:Nat):Int):=wrp;have g4:(⟨#[10]⟩:ByteArray).size=1:=rfl;have g5:iT r+1≤r.size:=hc;refine aue (e7 g4 g1 g2 g3 hc (Kv (iT r+1)) g5) ?_;refine bE h' (leo hd) ⟨?_,rfl⟩;simp only[go_sem,reduceIte,Ke,Kf,Kx,Kp,reduceCtorEq,Kq,Ks]
 refine⟨⟨#[]⟩,false,aJ (fun L=>⟨trivial,trivial,trivial,trivial⟩) fun h' nx hh=>aB L.aMX fun hd=>?_⟩;simp only[Kd,Ki,Ke,Kf,Kb,Kc,Kg,Kh,Ka];have C1:=fun h=>wd r h;rw[if_neg hc] at C1;have g1:decide ((0:Int)≤-1)=false:=ZM;refine aue g1 ?_;refine bE h' (leo hd) ⟨?_,rfl⟩;have:r.extract 0 (iT r)=r:=by rw[show iT r=r.size by omega,wZ]
 rw[this];rfl
theorem HC(r:ByteArray)(hl:r.size≤1000000)(h:Hp):∃a b,aM Tryz.prog 254 [.str r, .str ⟨#[10]⟩] h (.tup [.str (r.extract 0 (iT r)), .str a, .bool b]):=by
 obtain⟨a,b,hc⟩:=GH r hl Hp.none;refine⟨a,b,aJ (fun L=>⟨trivial,trivial,trivial,trivial⟩) fun h' nx hh=>aB L.aWi fun hd=>?_⟩;simp only[Kd,Ki,Ke,Kf,Kb,Kc,Kg,Kh,Ka];have C1:=fun h=>hc.mono (bH h);refine au ?_;exact bE h' (leo hd) ⟨rfl,rfl⟩
end Go.Proofs.YtlhedpgobaellaaGreatDoor
namespace Go.Proofs.YtlhedpgobaellaaGreatDoor
open Go.Shelf
def jc:Go.Shelf.Ren:=⟨fun|172=>242|244=>258|245=>259|247=>271|279=>272|280=>273|281=>274|282=>275|287=>283|316=>284|171=>269|205=>285|321=>291|322=>292|243=>282|246=>290|283=>294|284=>295|285=>296|286=>297|129=>154|317=>298|318=>299|319=>300|320=>301|337=>302|338=>303|n=>n,fun|9=>9|3=>3|75=>38|76=>193|4=>4|5=>5|167=>368|37=>369|0=>0|85=>370|2=>2|168=>372|53=>263|175=>375|46=>84|210=>379|127=>385|145=>388|143=>386|21=>21|171=>391|173=>393|212=>396|51=>261|20=>20|213=>397|232=>398|233=>399|80=>400|n=>n,fun|15=>4|16=>5|17=>7|18=>8|19=>9|n=>n⟩
theorem jd:Go.Proofs.LaysC.n172 Tryz.prog jc:={
 mixed:=Zz
 f129:=Tryz.func154.trans (congrArg some Zz)
 f171:=Tryz.func269.trans (congrArg some Zz)
 f172:=Tryz.func242.trans (congrArg some Zz)
 f205:=Tryz.func285.trans (congrArg some Zz)
 f243:=Tryz.func282.trans (congrArg some Zz)
 f244:=Tryz.func258.trans (congrArg some Zz)
 f245:=Tryz.func259.trans (congrArg some Zz)
 f246:=Tryz.func290.trans (congrArg some Zz)
 f247:=Tryz.func271.trans (congrArg some Zz)
 f279:=Tryz.func272.trans (congrArg some Zz)
 f280:=Tryz.func273.trans (congrArg some Zz)
 f281:=Tryz.func274.trans (congrArg some Zz)
 f282:=Tryz.func275.trans (congrArg some Zz)
 f283:=Tryz.func294.trans (congrArg some Zz)
 f284:=Tryz.func295.trans (congrArg some Zz)
 f285:=Tryz.func296.trans (congrArg some Zz)
 f286:=Tryz.func297.trans (congrArg some Zz)
 f287:=Tryz.func283.trans (congrArg some Zz)
 f316:=Tryz.func284.trans (congrArg some Zz)
 f317:=Tryz.func298.trans (congrArg some Zz)
 f318:=Tryz.func299.trans (congrArg some Zz)
 f319:=Tryz.func300.trans (congrArg some Zz)
 f320:=Tryz.func301.trans (congrArg some Zz)
 f321:=Tryz.func291.trans (congrArg some Zz)
 f322:=Tryz.func292.trans (congrArg some Zz)
 f337:=Tryz.func302.trans (congrArg some Zz)
 f338:=Tryz.func303.trans (congrArg some Zz)
 t0:=Tryz.underlying0
 a0:=Tryz.isAgg0
 z0:=Tryz.sizeOf0
 v0:=Tryz.zeroValue0
 t2:=Tryz.underlying2
 a2:=Tryz.isAgg2
 z2:=Tryz.sizeOf2
 v2:=Tryz.zeroValue2
 t3:=Tryz.underlying3
 a3:=Tryz.isAgg3
 z3:=Tryz.sizeOf3
 v3:=Tryz.zeroValue3
 t4:=Tryz.underlying4
 a4:=Tryz.isAgg4
 z4:=Tryz.sizeOf4
 v4:=Tryz.zeroValue4
 t5:=Tryz.underlying5
 a5:=Tryz.isAgg5
 z5:=Tryz.sizeOf5
 v5:=Tryz.zeroValue5
 t9:=Tryz.underlying9
 a9:=Tryz.isAgg9
 z9:=Tryz.sizeOf9
 v9:=Tryz.zeroValue9
 t20:=Tryz.underlying20
 a20:=Tryz.isAgg20
 z20:=Tryz.sizeOf20
 v20:=Tryz.zeroValue20
 t21:=Tryz.underlying21
 a21:=Tryz.isAgg21
 z21:=Tryz.sizeOf21
 v21:=Tryz.zeroValue21
 t37:=Tryz.underlying369
 a37:=Tryz.isAgg369
 z37:=Tryz.sizeOf369
 v37:=Tryz.zeroValue369
 t46:=Tryz.underlying84
 a46:=Tryz.isAgg84
 z46:=Tryz.sizeOf84
 v46:=Tryz.zeroValue84
 t51:=Tryz.underlying261
 a51:=Tryz.isAgg261
 z51:=Tryz.sizeOf261
 v51:=Tryz.zeroValue261
 t53:=Tryz.underlying263
 a53:=Tryz.isAgg263
 z53:=Tryz.sizeOf263
 v53:=Tryz.zeroValue263
 t75:=Tryz.underlying38
 a75:=Tryz.isAgg38
 z75:=Tryz.sizeOf38
 v75:=Tryz.zeroValue38
 t76:=Tryz.underlying193
 a76:=Tryz.isAgg193
 z76:=Tryz.sizeOf193
 v76:=Tryz.zeroValue193
 t85:=Tryz.underlying370
 a85:=Tryz.isAgg370
 z85:=Tryz.sizeOf370
 v85:=Tryz.zeroValue370
 t127:=Tryz.underlying385
 a127:=Tryz.isAgg385
 z127:=Tryz.sizeOf385
 v127:=Tryz.zeroValue385
 t143:=Tryz.underlying386
 a143:=Tryz.isAgg386
 z143:=Tryz.sizeOf386
 v143:=Tryz.zeroValue386
 t145:=Tryz.underlying388
 a145:=Tryz.isAgg388
 z145:=Tryz.sizeOf388
 v145:=Tryz.zeroValue388
 t167:=Tryz.underlying368
 a167:=Tryz.isAgg368
 z167:=Tryz.sizeOf368
 v167:=Tryz.zeroValue368
 t168:=Tryz.underlying372
 a168:=Tryz.isAgg372
 z168:=Tryz.sizeOf372
 v168:=Tryz.zeroValue372
 t171:=Tryz.underlying391
 a171:=Tryz.isAgg391
 z171:=Tryz.sizeOf391
 v171:=Tryz.zeroValue391
 t173:=Tryz.underlying393
 a173:=Tryz.isAgg393
 z173:=Tryz.sizeOf393
 v173:=Tryz.zeroValue393
 t175:=Tryz.underlying375
 a175:=Tryz.isAgg375
 z175:=Tryz.sizeOf375
 v175:=Tryz.zeroValue375
 t210:=Tryz.underlying379
 a210:=Tryz.isAgg379
 z210:=Tryz.sizeOf379
 v210:=Tryz.zeroValue379
 t212:=Tryz.underlying396
 a212:=Tryz.isAgg396
 z212:=Tryz.sizeOf396
 v212:=Tryz.zeroValue396
 t213:=Tryz.underlying397
 a213:=Tryz.isAgg397
 z213:=Tryz.sizeOf397
 t232:=Tryz.underlying398
 a232:=Tryz.isAgg398
 z232:=Tryz.sizeOf398
 v232:=Tryz.zeroValue398
 t233:=Tryz.underlying399
 a233:=Tryz.isAgg399
 z233:=Tryz.sizeOf399
 v233:=Tryz.zeroValue399
 g15:=Zz
 g16:=Zz
 g17:=Zz
 g18:=Zz
 g19:=Zz
 t80:=Tryz.underlying400
 a80:=Tryz.isAgg400
 z80:=Tryz.sizeOf400
 v80:=Tryz.zeroValue400
 i0:=Zz
 i2:=Zz
 i3:=Zz
 i4:=Zz
 i5:=Zz
 i9:=Zz
 i20:=Zz
 i21:=Zz
 i37:=Zz
 i46:=Zz
 i51:=Zz
 i53:=Zz
 i75:=Zz
 i76:=Zz
 i80:=Zz
 i85:=Zz
 i127:=Zz
 i143:=Zz
 i145:=Zz
 i167:=Zz
 i168:=Zz
 i171:=Zz
 i173:=Zz
 i175:=Zz
 i210:=Zz
 i212:=Zz
 i232:=Zz
 i233:=Zz
 m15:=Zz
 m16:=Zz
 m17:=Zz
 m18:=Zz
 m19:=Zz
 c0:=Zz
 c2:=Zz
 c3:=Zz
 c4:=Zz
 c5:=Zz
 c9:=Zz
 c20:=Zz
 c21:=Zz
 c37:=Zz
 c46:=Zz
 c51:=Zz
 c53:=Zz
 c75:=Zz
 c76:=Zz
 c80:=Zz
 c85:=Zz
 c127:=Zz
 c143:=Zz
 c145:=Zz
 c167:=Zz
 c168:=Zz
 c171:=Zz
 c173:=Zz
 c175:=Zz
 c210:=Zz
 c212:=Zz
 c213:=Zz
 c232:=Zz
 c233:=by kernel_rfl}
def v7:Go.Shelf.Ren:=⟨fun|171=>269|243=>282|246=>290|283=>294|284=>295|285=>296|286=>297|129=>154|317=>298|318=>299|319=>300|320=>301|337=>302|338=>303|n=>n,fun|3=>3|9=>9|2=>2|4=>4|171=>391|0=>0|53=>263|37=>369|5=>5|173=>393|212=>396|51=>261|20=>20|213=>397|46=>84|232=>398|233=>399|n=>n,fun|17=>7|18=>8|19=>9|n=>n⟩
theorem itoa:Go.Proofs.LaysM.n171 Tryz.prog v7:={
 mixed:=Zz
 f129:=Tryz.func154.trans (congrArg some Zz)
 f171:=Tryz.func269.trans (congrArg some Zz)
 f243:=Tryz.func282.trans (congrArg some Zz)
 f246:=Tryz.func290.trans (congrArg some Zz)
 f283:=Tryz.func294.trans (congrArg some Zz)
 f284:=Tryz.func295.trans (congrArg some Zz)
 f285:=Tryz.func296.trans (congrArg some Zz)
 f286:=Tryz.func297.trans (congrArg some Zz)
 f317:=Tryz.func298.trans (congrArg some Zz)
 f318:=Tryz.func299.trans (congrArg some Zz)
 f319:=Tryz.func300.trans (congrArg some Zz)
 f320:=Tryz.func301.trans (congrArg some Zz)
 f337:=Tryz.func302.trans (congrArg some Zz)
 f338:=Tryz.func303.trans (congrArg some Zz)
 t0:=Tryz.underlying0
 a0:=Tryz.isAgg0
 z0:=Tryz.sizeOf0
 v0:=Tryz.zeroValue0
 t2:=Tryz.underlying2
 a2:=Tryz.isAgg2
 z2:=Tryz.sizeOf2
 v2:=Tryz.zeroValue2
 t3:=Tryz.underlying3
 a3:=Tryz.isAgg3
 z3:=Tryz.sizeOf3
 v3:=Tryz.zeroValue3
 t4:=Tryz.underlying4
 a4:=Tryz.isAgg4
 z4:=Tryz.sizeOf4
 v4:=Tryz.zeroValue4
 t5:=Tryz.underlying5
 a5:=Tryz.isAgg5
 z5:=Tryz.sizeOf5
 v5:=Tryz.zeroValue5
 t9:=Tryz.underlying9
 a9:=Tryz.isAgg9
 z9:=Tryz.sizeOf9
 v9:=Tryz.zeroValue9
 t20:=Tryz.underlying20
 a20:=Tryz.isAgg20
 z20:=Tryz.sizeOf20
 v20:=Tryz.zeroValue20
 t37:=Tryz.underlying369
 a37:=Tryz.isAgg369
 z37:=Tryz.sizeOf369
 v37:=Tryz.zeroValue369
 t46:=Tryz.underlying84
 a46:=Tryz.isAgg84
 z46:=Tryz.sizeOf84
 v46:=Tryz.zeroValue84
 t51:=Tryz.underlying261
 a51:=Tryz.isAgg261
 z51:=Tryz.sizeOf261
 v51:=Tryz.zeroValue261
 t53:=Tryz.underlying263
 a53:=Tryz.isAgg263
 z53:=Tryz.sizeOf263
 v53:=Tryz.zeroValue263
 t171:=Tryz.underlying391
 a171:=Tryz.isAgg391
 z171:=Tryz.sizeOf391
 v171:=Tryz.zeroValue391
 t173:=Tryz.underlying393
 a173:=Tryz.isAgg393
 z173:=Tryz.sizeOf393
 v173:=Tryz.zeroValue393
 t212:=Tryz.underlying396
 a212:=Tryz.isAgg396
 z212:=Tryz.sizeOf396
 v212:=Tryz.zeroValue396
 t213:=Tryz.underlying397
 a213:=Tryz.isAgg397
 z213:=Tryz.sizeOf397
 t232:=Tryz.underlying398
 a232:=Tryz.isAgg398
 z232:=Tryz.sizeOf398
 v232:=Tryz.zeroValue398
 t233:=Tryz.underlying399
 a233:=Tryz.isAgg399
 z233:=Tryz.sizeOf399
 v233:=Tryz.zeroValue399
 g17:=Zz
 g18:=Zz
 g19:=Zz
 i0:=Zz
 i2:=Zz
 i3:=Zz
 i4:=Zz
 i5:=Zz
 i9:=Zz
 i20:=Zz
 i37:=Zz
 i46:=Zz
 i51:=Zz
 i53:=Zz
 i171:=Zz
 i173:=Zz
 i212:=Zz
 i232:=Zz
 i233:=Zz
 m17:=Zz
 m18:=Zz
 m19:=by kernel_rfl}
end Go.Proofs.YtlhedpgobaellaaGreatDoor
namespace Go.Proofs.YtlhedpgobaellaaGreatDoor
open Go.RowKit Go.Sort Go.Shelf
attribute [local irreducible] Km
set_option maxRecDepth 100000 in
theorem iz(s:ByteArray)(w:World)(hlim:s.size≤4000):
 Calls Tryz.prog 284 #[.string s] w fun e w'=>e= .returned (.string s)∧eM w w':=by
 have mixed:Tryz.prog.follows .mixedOrders=true:=Zz;by_cases h0:s.size=0
 ·obtain rfl:s=⟨#[]⟩:=ByteArray.ext (Array.eq_empty_of_size_eq_zero h0)
  go_enter Tryz.func284,Tryz.ntmps284
  go_wp2
  go_ret
  exact⟨rfl,eM.refl _⟩
 obtain⟨i,hi,hz,hs1,hb1⟩:=info_parts jd.i5;have hs2:(Tryz.prog.info? 5).map (·.size)=some 1:=by
  show(Tryz.prog.info? (jc.t 5)).map (·.size)=some 1;rw[hi];simp[hs1]
 have hce:Tryz.prog.cellsOf 5=1:=Zz;generalize hM:madeCells (Value.int .u8 0).cells (((s.size:Nat):Int).toNat*i.size)=M;have hmk:∀W:World,(Instr.makeSlice 369 (.int .i64 (s.size:Int)) (.int .i64 (s.size:Int))).run Tryz.prog W= .ok (.slice (some ⟨W.heap.size,0,none⟩) s.size s.size) (W.alloc (.cells M 5)):=fun W=>by
  have h:=run_make (P:=Tryz.prog) W 369 5 i (.int .u8 0) Tryz.underlying369 hi hz .i64 .i64 (s.size:Int) (s.size:Int) or or (by rw[hb1];omega) or;rw[hM] at h;simpa using h
 have hMl:M.size=s.size:=by rw[←hM,size_madeCells,hs1];simp
 have hcp:=Lib.run_copy_row_string (P:=Tryz.prog) (w.alloc (.cells M 5)) 369 9 3 5 w.heap.size 0 s.size s.size s M 5 Tryz.underlying369 hs2 (heap_alloc_new w _) (Kj _) or;generalize hY:(M.toList.take 0++Lib.byteCells s.data.toList++M.toList.drop (0+s.size)).toArray=Y at hcp;have hYl:Y.toList=Lib.byteCells s.data.toList:=by
  rw[←hY,List.toList_toArray,List.take_zero,Kh,List.drop_of_length_le (by rw[Kt];omega),List.append_nil]
 have hYs:Y.size=s.size:=by rw[←Kt,hYl,Lib.byteCells_length,←Lib.size_eq]
 have hgY:((w.alloc (.cells M 5)).setRow w.heap.size Y).heap[w.heap.size]?=some (.cells Y 5 (0,0)):=setRow_heap _ _ M _ 5 (0,0) (heap_alloc_new w _)
 have hus:=Lib.run_unsafeString_row (P:=Tryz.prog) ((w.alloc (.cells M 5)).setRow w.heap.size Y) 385 3 9 5 Tryz.underlying385 hce w.heap.size Y.size (by unfold KI;rw[hgY]) s.data.toList (fun e=>h0 (by rw[Lib.size_eq,e];rfl)) (by rw[←Lib.size_eq];omega) (by rw[←Lib.size_eq];omega)
  (fun j x hx=>Lib.cells_of_row hgY Y.size j _ (by rw[Kz (by rw[Kt];exact Kj _),hYl];simp[Lib.byteCells,hx]))
 rw[←Lib.size_eq] at hus;clear hM hY
 go_enter Tryz.func284,Tryz.ntmps284
 go_wp2
 go_ret
 refine⟨rfl,Lib.below_freeze (((Below.refl _ w).alloc (Kj _) (.cells M 5)).trans ?_) (p:=⟨w.heap.size,0,none⟩) (Kj _) _,by unfold KJ;split<;>exact Kj _⟩;exact⟨rfl,rfl,rfl,Zm,fun k hk=>setRow_other _ _ _ _ or⟩
theorem gj{w w':World}(h:eM w w'){g:Nat}{v:Value}(hv:w.cell? ⟨g,0,none⟩=some v):w'.cell? ⟨g,0,none⟩=some v:=
 (h.1.cell (Lib.lt_of_cell hv)).trans hv
set_option maxRecDepth 100000 in
theorem ct(fn s:ByteArray)(w:World)(hlim:s.size≤4000)(ev:Value)(hv:w.cell? ⟨4,0,none⟩=some ev)(hev:ev= .nilIface∨∃te pe,ev= .iface te pe):
 Calls Tryz.prog 272 #[.string fn, .string s] w fun e w'=>∃a,e= .returned (.pointer (some a))∧eM w w':=by
 have mixed:Tryz.prog.follows .mixedOrders=true:=Zz;have e1:∀args w,(callFunc 284 args).run Tryz.prog w= .ok (.enter 284 args) w:=enters_of Tryz.func284 Zz rfl;rcases hev with rfl|⟨te,pe,rfl⟩;all_goals (
  have hvd:w.drew.cell? ⟨4,0,none⟩=some _:=hv
  go_enter Tryz.func272,Tryz.ntmps272
  go_wp2
  go_region_with_o (
   go_at_fn 284
   refine(iz s _ hlim).mono ?_;rintro e w2 ⟨rfl,hb⟩;have hv2:w2.cell? ⟨4,0,none⟩=some _:=gj hb hvd)
  all_goals (
   go_wp2
   go_ret
   exact⟨_,rfl,(Below.drew (Below.refl _ w)).trans hb.1 |>.alloc hb.1.size _,KM (KC _) hb.2⟩))
set_option maxRecDepth 100000 in
theorem jt(fn s:ByteArray)(w:World)(hlim:s.size≤4000)(ev:Value)(hv:w.cell? ⟨5,0,none⟩=some ev)(hev:ev= .nilIface∨∃te pe,ev= .iface te pe):
 Calls Tryz.prog 273 #[.string fn, .string s] w fun e w'=>∃a,e= .returned (.pointer (some a))∧eM w w':=by
 have mixed:Tryz.prog.follows .mixedOrders=true:=Zz;have e1:∀args w,(callFunc 284 args).run Tryz.prog w= .ok (.enter 284 args) w:=enters_of Tryz.func284 Zz rfl;rcases hev with rfl|⟨te,pe,rfl⟩;all_goals (
  have hvd:w.drew.cell? ⟨5,0,none⟩=some _:=hv
  go_enter Tryz.func273,Tryz.ntmps273
  go_wp2
  go_region_with_o (
   go_at_fn 284
   refine(iz s _ hlim).mono ?_;rintro e w2 ⟨rfl,hb⟩;have hv2:w2.cell? ⟨5,0,none⟩=some _:=gj hb hvd)
  all_goals (
   go_wp2
   go_ret
   exact⟨_,rfl,(Below.drew (Below.refl _ w)).trans hb.1 |>.alloc hb.1.size _,KM (KC _) hb.2⟩))
set_option maxRecDepth 100000 in
theorem sm(fn s:ByteArray)(b c:Int)(w:World)(hlim:s.size≤4000)(ev:Value)(hv:w.cell? ⟨4,0,none⟩=some ev)(hev:ev= .nilIface∨∃te pe,ev= .iface te pe):
 Calls Tryz.prog 259 #[.string fn, .string s, .int .i64 b, .int .i64 c, .iface 368 (.int .i64 2)] w fun e w'=>∃a,e= .returned (.iface 372 (.pointer (some a)))∧eM w w':=by
 have mixed:Tryz.prog.follows .mixedOrders=true:=Zz;have e1:∀args w,(callFunc 272 args).run Tryz.prog w= .ok (.enter 272 args) w:=enters_of Tryz.func272 Zz rfl;have heq:∀W,(binOp .eql 38 (.iface 368 (.int .i64 2)) (.iface 368 (.int .i64 2))).run Tryz.prog W= .ok (.bool true) W:=fun W=>Lib.run_eql_iface_int (P:=Tryz.prog) W 2 2 jd.t75 jd.c167 jd.t167
 go_enter Tryz.func259,Tryz.ntmps259
 go_wp2_with (go_at_fn 272;refine(ct fn s _ hlim ev ?_ hev).mono ?_)
 ·exact hv
 rintro e w2 ⟨a,rfl,hb⟩
 go_wp2
 go_ret
 exact⟨a,rfl,hb⟩
set_option maxRecDepth 100000 in
theorem sq(fn s:ByteArray)(b c:Int)(w:World)(hlim:s.size≤4000)(ev:Value)(hv:w.cell? ⟨5,0,none⟩=some ev)(hev:ev= .nilIface∨∃te pe,ev= .iface te pe):
 Calls Tryz.prog 259 #[.string fn, .string s, .int .i64 b, .int .i64 c, .iface 368 (.int .i64 1)] w fun e w'=>∃a,e= .returned (.iface 372 (.pointer (some a)))∧eM w w':=by
 have mixed:Tryz.prog.follows .mixedOrders=true:=Zz;have e1:∀args w,(callFunc 273 args).run Tryz.prog w= .ok (.enter 273 args) w:=enters_of Tryz.func273 Zz rfl;have heq:∀W,(binOp .eql 38 (.iface 368 (.int .i64 1)) (.iface 368 (.int .i64 1))).run Tryz.prog W= .ok (.bool true) W:=fun W=>Lib.run_eql_iface_int (P:=Tryz.prog) W 1 1 jd.t75 jd.c167 jd.t167;have heq2:∀W,(binOp .eql 38 (.iface 368 (.int .i64 1)) (.iface 368 (.int .i64 2))).run Tryz.prog W= .ok (.bool false) W:=fun W=>Lib.run_eql_iface_int (P:=Tryz.prog) W 1 2 jd.t75 jd.c167 jd.t167
 go_enter Tryz.func259,Tryz.ntmps259
 go_wp2_with (go_at_fn 273;refine(jt fn s _ hlim ev ?_ hev).mono ?_)
 ·exact hv
 rintro e w2 ⟨a,rfl,hb⟩
 go_wp2
 go_ret
 exact⟨a,rfl,hb⟩
theorem At(w:World)(e:TypeId)(t:ByteArray):eM w (Lib.bytesWorld w e t):=
 ⟨Lib.bytesWorld_below _ _ _,by unfold Lib.bytesWorld KJ;split<;>exact KC _⟩
def xd:Lib.NumEnd Int→V
 | .ok _=> .nilIface
 | .range=> .iface 368 (.int .i64 1)
 |_=> .iface 368 (.int .i64 2)
def By(sat:Int):Lib.NumEnd Int→Int
 | .ok n=>n
 | .range=>sat
 |_=>0
theorem AF(s:ByteArray)(hs:s.size≤4000)(h:Hp):aM Tryz.prog 258 [.str s] h (.tup [.int .i64 (By (Lib.atoiSat s.data.toList) (Lib.atoiAll s.data.toList)),xd (Lib.atoiAll s.data.toList)]):=by
 refine oZ ?_ Zz (fun K cargs _ hv=>?_) h
 ·exact fun L=>⟨trivial,by unfold xd;split<;>trivial,trivial⟩
 obtain⟨x,rfl,v1⟩:=AX hv;cases v1;have c:=Any.internal_strconv_Atoi_all (P:=Tryz.prog) (ρ:=jc) {jd with} s or K.w;refine Calls.mono (show Calls Tryz.prog 258 #[.string s] K.w _ from c) ?_;rintro e w' ⟨rfl,hw⟩;refine⟨_,rfl,fun K=>?_,?_⟩
 ·have two:∀(a b:V) (x y:Value),VR K a x→VR K b y→VR K (.tup [a,b]) (.tuple #[x,y]):=fun a b x y h1 h2=> .tup [a,b] #[x,y] rfl fun i hi=>by
   have:i=0∨i=1:=by simp at hi;omega
   rcases this with rfl|rfl
   ·exact h1
   exact h2
  cases Lib.atoiAll s.data.toList with
  |ok n=>exact two _ _ _ _ (.int _ _) .nilIface
  |range=>exact two _ _ _ _ (.int _ _) (.iface _ _ _ (.int _ _))
  |_=>exact two _ _ _ _ (.int _ _) (.iface _ _ _ (.int _ _))
 rcases hw with rfl|⟨t,rfl⟩
 ·exact eM.refl _
 exact At _ _ _
theorem yq(fn s:ByteArray)(hs:s.size≤4000)(c:Int)(hc:c=1∨c=2)(h:Hp):aM Tryz.prog 259 [.str fn, .str s, .int .i64 0, .int .i64 0, .iface 368 (.int .i64 c)] h (.iface 372 .top):=by
 refine oZ ?_ Zz (fun K cargs hf hv=>?_) h
 ·exact fun L=>trivial
 have hca:cargs=#[.string fn, .string s, .int .i64 0, .int .i64 0, .iface 368 (.int .i64 c)]:=by
  obtain⟨hz,hv⟩:=hv;have hz:cargs.size=5:=by simpa using hz.symm
  obtain⟨l⟩:=cargs;match l,hz with
  | [x0,x1,x2,x3,x4],_=>
   have v0:VR K (.str fn) x0:=hv 0 Zm;have v1:VR K (.str s) x1:=hv 1 Zm;have v2:VR K (.int .i64 0) x2:=hv 2 Zm;have v3:VR K (.int .i64 0) x3:=hv 3 Zm;have v4:VR K (.iface 368 (.int .i64 c)) x4:=hv 4 Zm;cases v0;cases v1;cases v2;cases v3;cases v4 with
   |iface _ _ _ v5=>cases v5;rfl
 subst hca;rcases hc with rfl|rfl
 ·obtain⟨_,ev,h2,h3⟩:=hf.gi 5 ZM;refine(sq fn s 0 0 K.w hs ev h2 h3).mono ?_;rintro e w' ⟨a,rfl,hb⟩;exact⟨_,rfl,fun K=> .iface _ _ _ (.top _),hb⟩
 obtain⟨_,ev,h2,h3⟩:=hf.gi 4 ZM;refine(sm fn s 0 0 K.w hs ev h2 h3).mono ?_;rintro e w' ⟨a,rfl,hb⟩;exact⟨_,rfl,fun K=> .iface _ _ _ (.top _),hb⟩
theorem Hb{K:Ker}(hf:iV K):Lib.TabIs Tryz.prog K.w "internal/strconv.uint64pow10" .u64 Lib.pow10Tab:=by
 obtain⟨h1,⟨T,h2⟩,h3⟩:=hf.gt 7 ((List.range 20).map fun i=>Value.int .u64 ((10 ^ i:Nat):Int)) (by unfold GT;repeat (first|exact List.mem_cons_self .. |refine List.mem_cons_of_mem _ ?_));unfold Lib.TabIs World.var?;rw[show Tryz.prog.globalNamed "internal/strconv.uint64pow10" =some 7 by kernel_rfl,Option.bind_some]
 unfold KI at h2;split at h2
 ·rename_i c e fr hh;injection h2 with h2;injection h2 with h2 h4;simp only[hh];congr 1;apply KL
  ·rw[h4];simp[Lib.pow10Tab]
  intro i hi1 hi2;have:=h3 i (by rw[←h4];exact hi1);simp only[World.cell?,hh] at this;have hi3:i<20:=by rw[h4] at hi1;simpa using hi1
  simp only[Option.isSome_none,Bool.false_eq_true,if_false,Array.getElem?_eq_getElem hi1,Ku,KB,List.getElem?_range hi3,Option.map_some,Option.getD_some,Option.some.injEq] at this;rw[this];simp[Lib.pow10Tab]
 cases h2
theorem CW(n:Int)(h0:-9223372036854775808≤n)(h1:n≤9223372036854775807)(h:Hp):aM Tryz.prog 269 [.int .i64 n] h (.str ⟨(Lib.itoa n).toArray⟩):=by
 refine oZ ?_ Zz (fun K cargs hf hv=>?_) h
 ·exact fun L=>trivial
 obtain⟨x,rfl,v1⟩:=AX hv;cases v1;have c:=Any.strconv_Itoa (P:=Tryz.prog) (ρ:=v7) itoa n h0 h1 K.w (Hb hf);refine Calls.mono (show Calls Tryz.prog 269 #[.int .i64 n] K.w _ from c) ?_;rintro e w' ⟨rfl,k,os,rfl⟩;exact⟨_,rfl,fun K=> .str _,⟨Lib.below_grow _ _ (Kj _) k os,Nat.le_add_right _ _⟩⟩
end Go.Proofs.YtlhedpgobaellaaGreatDoor
namespace Go.Proofs.YtlhedpgobaellaaGreatDoor
open Go.RowKit Go.Sort
attribute [local irreducible] Km
theorem y5(c:Nat)(h:Hp):aM Tryz.prog 266 [.int .u8 c] h (.bool (eE c)):=by
 refine aJ (fun L=>trivial) fun h' nx hh=>aB L.aWY fun hd=>?_;refine ZK ?_;unfold eE;cases h1:decide ((97:Int)≤c)<;>cases h2:decide ((c:Int)≤122)<;>
  (refine aue (e2 h1 h2) ?_
   refine aC h' (leo hd) ⟨?_,rfl⟩;simp only[decide_eq_true_eq,decide_eq_false_iff_not] at h1 h2;refine vb ?_;simp;try omega)
theorem gy(c:Nat)(h:Hp):aM Tryz.prog 267 [.int .u8 c] h (.bool (iN c)):=by
 refine aJ (fun L=>trivial) fun h' nx hh=>aB L.aWX fun hd=>?_;refine ZK ?_;unfold iN;cases h1:decide ((65:Int)≤c)<;>cases h2:decide ((c:Int)≤90)<;>
  (refine aue (e2 h1 h2) ?_
   refine aC h' (leo hd) ⟨?_,rfl⟩;simp only[decide_eq_true_eq,decide_eq_false_iff_not] at h1 h2;refine vb ?_;simp;try omega)
theorem wm(c:Nat)(h:Hp):aM Tryz.prog 268 [.int .u8 c] h (.bool (Al c)):=by
 refine aJ (fun L=>trivial) fun h' nx hh=>aB L.aWW fun hd=>?_;refine ZK ?_;unfold Al;cases h1:decide ((48:Int)≤c)<;>cases h2:decide ((c:Int)≤57)<;>
  (refine aue (e2 h1 h2) ?_
   refine aC h' (leo hd) ⟨?_,rfl⟩;simp only[decide_eq_true_eq,decide_eq_false_iff_not] at h1 h2;refine vb ?_;simp;try omega)
theorem run_pure(s:ByteArray)(hl:s.size≤4000)(h:Hp):aM Tryz.prog 255 [.str s] h (.int .i64 (pX s)):=by
 refine aJ (fun L=>trivial) fun h' nx hh=>aB L.aWh fun hd=>?_;refine ZK ?_;refine au ?_;refine aP (fun i:Nat=>aD 35 0 [(0, .str s),(3, .int .i64 i)]) (fun i hp nx1=>i≤s.size∧hp=h'∧∀j,j<i→lW (byt s j)=true) (fun i=>s.size-i) 0 ⟨Kk _,rfl,fun j hj=>absurd hj or⟩ (by simp only[WkL,aD,jH,jI,jJ,go_sem,reduceIte,jA,jB,jC,jD,reduceCtorEq,jE,jF]) ?_;rintro i hp nx1 ⟨hi,rfl,aC9⟩;generalize hQ:aZ _ _ _ _ _=Q0;refine Zk ?_;have aAh:∀(b:Bool),i=s.size∨lW (byt s i)=false→pX s=i:=fun _ k=>vP (Kk _) hi (fun j _ hj=>aC9 j hj) k;rcases Ky i s.size with hlt|hge
 ·have hc:decide ((i:Int)<(s.size:Int))=true:=dct;have hb:(s.data.toList.getD i 0).toNat=byt s i:=rfl;obtain⟨c,hcq⟩:∃c,byt s i=c:=⟨_,rfl⟩;rw[hcq] at aAh;have C1:=fun h=>y5 c h;have C2:=fun h=>gy c h;have C3:=fun h=>wm c h;have hw:IntKind.i64.wrap ((i:Int)+1)=((i+1:Nat):Int):=wrp;have h95:((c:Int)==95)=decide (c=95):=by by_cases e:c=95<;>simp[e]<;>omega
  have hin:lW c=true→∀j,j<i+1→lW (byt s j)=true:=fun k j hj=>by
   by_cases e:j=i
   ·subst e;rw[hcq];exact k
   exact aC9 j or
  cases k1:eE c<;>cases k2:iN c<;>cases k3:Al c<;>cases k4:decide (c=95);all_goals rw[k1] at C1
  all_goals rw[k2] at C2
  all_goals rw[k3] at C3
  all_goals refine aue (e6 hc hb hcq hw (h95.trans k4) hlt) ?_
  all_goals
   first
    |(rw[←hQ]
      refine aF (i+1) or ⟨or,rfl,hin (by simp[lW,k1,k2,k3,k4])⟩ (by simp only[WkL,aD,jH,jI,jJ,go_sem,reduceIte,jA,jB,jC,jD,reduceCtorEq,jE,jF]))
    |(rw[←hQ]
      refine aue hlt ?_;exact aC hp (leo hd) ⟨by rw[aAh true (.inr (by simp[lW,k1,k2,k3,k4]))]<;>rfl,rfl⟩)
 have hc:decide ((i:Int)<(s.size:Int))=false:=dcf;refine aue hc ?_;rw[←hQ];refine au ?_;exact aC hp (leo hd) ⟨by rw[aAh true (.inl or)]<;>rfl,rfl⟩
theorem E0{s:ByteArray}{i:Nat}(h:i≤s.size):iT (s.extract i s.size)=mB (fun c=>decide (c≠10)) s i-i:=by
 obtain⟨a,b,c,d⟩:=oV (fun c=>decide (c≠10)) s i h;have hsz:=fP s i s.size;refine vP (Kk _) or (fun k _ hk=>?_) ?_
 ·rw[BB or (Kj _)];exact c _ or or
 rcases d with d|d
 ·left;omega
 by_cases e:mB (fun c=>decide (c≠10)) s i=s.size
 ·left;omega
 right;rw[BB or (Kj _),show i+(mB (fun c=>decide (c≠10)) s i-i)=mB (fun c=>decide (c≠10)) s i by omega];exact d
theorem k9(s:ByteArray)(hl:s.size≤4000)(i0:Nat)(hi0:i0≤s.size)(h:Hp):aM Tryz.prog 240 [.str s, .int .i64 i0] h (.int .i64 (cO s i0)):=by
 refine aJ (fun L=>trivial) fun h' nx hh=>aB L.aWr fun hd=>?_;refine ZK ?_;refine au ?_;refine aP (fun i:Nat=>aD 39 0 [(0, .str s),(1, .int .i64 i)]) (fun i hp nx1=>i≤s.size∧hp=h'∧cO s i0=cO s i) (fun i=>s.size-i) i0 ⟨hi0,rfl,rfl⟩ (by simp only[WkL,aD,jH,jI,jJ,go_sem,reduceIte,jA,jB,jC,jD,reduceCtorEq,jE,jF]) ?_;rintro i hp nx1 ⟨hi,rfl,hsk⟩;generalize hQ:aZ _ _ _ _ _=Q0;refine Zk ?_;rcases Ky i s.size with hlt|hge
 ·have hc:decide ((i:Int)<(s.size:Int))=true:=dct;have hb:(s.data.toList.getD i 0).toNat=byt s i:=rfl;have aCt:byt s i<256:=by unfold byt;exact UInt8.toNat_lt _
  have hbl:=DA (byt s i) aCt;have C1:=fun h=>gu ⟨#[9,10,13,32]⟩ (byt s i) h;cases k1:sF (byt s i) with
  |true=>
   rw[k1] at hbl;have hw:IntKind.i64.wrap ((i:Int)+1)=((i+1:Nat):Int):=wrp;refine aue (e5 hc hb hw hbl hlt) ?_;rw[←hQ];exact aF (i+1) or ⟨or,rfl,hsk.trans (ti hlt k1)⟩ (by simp only[WkL,aD,jH,jI,jJ,go_sem,reduceIte,jA,jB,jC,jD,reduceCtorEq,jE,jF])
  |false=>
   rw[k1] at hbl;by_cases k2:byt s i=37
   ·have h37:((byt s i:Int)==37)=true:=bqt;have hlen:=bh hlt k2;have aZN:=E0 (Nat.le_of_lt hlt);obtain⟨a,b,aPu⟩:=HC (s.extract i s.size) (by rw[fP];omega) Hp.none;have C2:=fun h=>aPu.mono (bH h);rw[aZN] at C2;have hsz:((s.extract i s.size).extract 0 (mB (fun c=>decide (c≠10)) s i-i)).size=mB (fun c=>decide (c≠10)) s i-i:=by rw[fP,fP];omega
    have hw:IntKind.i64.wrap ((i:Int)+((mB (fun c=>decide (c≠10)) s i-i:Nat):Int))=((mB (fun c=>decide (c≠10)) s i:Nat):Int):=wrp;refine aue (e8 hc hb h37 hw hbl hlt hsz (jG i)) ?_;rw[←hQ];exact aF (mB (fun c=>decide (c≠10)) s i) or ⟨or,rfl,hsk.trans (y6 hlt k1 k2)⟩ (by simp only[WkL,aD,jH,jI,jJ,go_sem,reduceIte,jA,jB,jC,jD,reduceCtorEq,jE,jF])
   have h37:((byt s i:Int)==37)=false:=bqf;refine aue (e5 hc hb h37 hbl hlt) ?_;rw[←hQ];refine au ?_;exact aC hp (leo hd) ⟨by rw[hsk,dg hlt k1 k2]<;>rfl,rfl⟩
 have hc:decide ((i:Int)<(s.size:Int))=false:=dcf;refine aue hc ?_;rw[←hQ];refine au ?_;exact aC hp (leo hd) ⟨by rw[hsk,sN hge]<;>rfl,rfl⟩
end Go.Proofs.YtlhedpgobaellaaGreatDoor
namespace Go.Proofs.YtlhedpgobaellaaGreatDoor
open Go.RowKit Go.Sort
attribute [local irreducible] Km
theorem we(own:Own)(l:List ByteArray)(hl:l.length≤1000000000)(x:ByteArray)(h:Hp):aM Tryz.prog 125 [.sl .leaf own (l.map V.str), .str x] h (.int .i64 (bN (fun y=>decide (x=y)) l)):=by
 refine aJ (fun L=>trivial) fun h' nx hh=>aB L.aR9 fun hd=>?_;simp only[Kd,Ki,Ke,Kf,Kb,Kc,Kg,Kh,Ka];refine aue trivial ?_;refine aP (fun i:Nat=>aD 19 0 [(0, .sl .leaf own (l.map V.str)),(1, .str x),(7, .int .i64 l.length),(8, .int .i64 i)]) (fun i hp nx1=>i≤l.length∧hp=h'∧∀y∈l.take i,decide (x=y)=false) (fun i=>l.length-i) 0 ⟨Kk _,rfl,Zm⟩ (by simp only[WkL,aD,KE,KF,KD,go_sem,reduceIte,Ke,Kf,Kx,Kp,reduceCtorEq,Kq,Ks]) ?_;rintro i hp nx1 ⟨hi,rfl,hno⟩;generalize hQ:aZ _ _ _ _ _=Q0;simp only[aD,go_sem,reduceIte,Ke,Kf,Kx,Kp,reduceCtorEq,Kq,Ks];rcases Ky i l.length with hlt|hge
 ·have hc:decide ((i:Int)<(l.length:Int))=true:=dct;have hg:=aL V.str l i hlt;have hw:IntKind.i64.wrap ((i:Int)+1)=((i+1:Nat):Int):=wrp;have hbe:=dV x l[i];cases k:decide (x=l[i]) with
  |true=>
   rw[k] at hbe;refine aue (e5 hc hg hbe hlt (Kv i)) ?_;rw[←hQ];refine au ?_;have:l.findIdx? (fun y=>decide (x=y))=some i:=by
    rw[List.findIdx?_eq_some_iff_getElem];refine⟨hlt,k,fun j hj=>?_⟩;have:=hno l[j] (Kw.2 ⟨j,or,rfl⟩);simp[this]
   exact aC hp (leo hd) ⟨by simp only[bN,this];rfl,rfl⟩
  |false=>
   rw[k] at hbe;refine aue (e6 hc hg hbe hlt (Kv i) hw) ?_;rw[←hQ];refine aF (i+1) or ⟨or,rfl,fun y hy=>?_⟩ (by simp only[WkL,aD,KE,KF,KD,go_sem,reduceIte,Ke,Kf,Kx,Kp,reduceCtorEq,Kq,Ks]);rw[Ko hlt,KG,KA] at hy;rcases hy with hy|rfl
   ·exact hno y hy
   exact k
 have hc:decide ((i:Int)<(l.length:Int))=false:=dcf;refine aue hc ?_;rw[←hQ];refine au ?_;have hi':i=l.length:=or;rw[hi',List.take_length] at hno;have:l.findIdx? (fun y=>decide (x=y))=none:=by
  rw[List.findIdx?_eq_none_iff];exact fun y hy=>hno y hy
 exact aC hp (leo hd) ⟨by simp only[bN,this];rfl,rfl⟩
theorem kB(own:Own)(l:List ByteArray)(hl:l.length≤1000000000)(x:ByteArray)(h:Hp):aM Tryz.prog 76 [.sl .leaf own (l.map V.str), .str x] h (.bool (l.any fun y=>decide (x=y))):=by
 refine aJ (fun L=>trivial) fun h' nx hh=>aB L.aYG fun hd=>?_;simp only[Kd,Ki,Ke,Kf,Kb,Kc,Kg,Kh,Ka];have C1:=fun h=>we own l hl x h;refine au ?_;exact aC h' (leo hd) ⟨by rw[←rY];rfl,rfl⟩
theorem E4(w:ByteArray):(vn.any fun y=>decide (w=y))=Ad w:=by
 rw[KH,vq,List.any_eq_true];exact⟨fun⟨y,h1,h2⟩=>by rw[of_decide_eq_true h2];exact h1,fun h=>⟨w,h,decide_eq_true rfl⟩⟩
theorem DD(s:ByteArray)(hs:s.size≤4000):∃n e,aM Tryz.prog 242 [.str s] Hp.none (.tup [.int .i64 n,e])∧-9223372036854775808≤n∧n≤9223372036854775807∧(e= .nilIface∨∃T,e= .iface T .top):=by
 have C1:=fun h=>AF s hs h;have C2:=fun c hc h=>yq ⟨#[65,116,111,105]⟩ s hs c hc h;cases k:Lib.atoiAll s.data.toList with
 |ok v=>
  obtain⟨b1,b2⟩:=Lib.atoiAll_bounds k;rw[k] at C1;simp only[By,xd] at C1;refine⟨v, .nilIface,aJ (fun L=>⟨trivial,trivial,trivial⟩) fun h' nx hh=>aB L.aEG fun hd=>?_,or,or, .inl rfl⟩;simp only[Kd,Ki,Ke,Kf,Kb,Kc,Kg,Kh,Ka];refine au ?_;exact aN h' (leo hd) ⟨rfl,rfl⟩
 |range=>
  rw[k] at C1;simp only[By,xd] at C1;have aXl:-9223372036854775808≤Lib.atoiSat s.data.toList∧Lib.atoiSat s.data.toList≤9223372036854775807:=by unfold Lib.atoiSat;split<;>omega
  refine⟨Lib.atoiSat s.data.toList, .iface 372 .top,aJ (fun L=>⟨trivial,trivial,trivial⟩) fun h' nx hh=>aB L.aEG fun hd=>?_,aXl.1,aXl.2, .inr ⟨_,rfl⟩⟩;simp only[Kd,Ki,Ke,Kf,Kb,Kc,Kg,Kh,Ka];have C2:=C2 1 (.inl rfl);refine au ?_;exact aN h' (leo hd) ⟨rfl,rfl⟩
 |_=>
  rw[k] at C1;simp only[By,xd] at C1;refine⟨0, .iface 372 .top,aJ (fun L=>⟨trivial,trivial,trivial⟩) fun h' nx hh=>aB L.aEG fun hd=>?_,or,or, .inr ⟨_,rfl⟩⟩;simp only[Kd,Ki,Ke,Kf,Kb,Kc,Kg,Kh,Ka];have C2:=C2 2 (.inr rfl);refine au ?_;exact aN h' (leo hd) ⟨rfl,rfl⟩
noncomputable def jT(w:ByteArray):Int:=@ite _ (aM Tryz.prog 256 [.str w] Hp.none (.int .i64 4)) (Classical.propDecidable _) 4 0
theorem A8(w:ByteArray):jT w=0∨jT w=4:=by
 unfold jT;split
 ·exact .inr rfl
 exact .inl rfl
theorem BI(w:ByteArray)(h1:1≤w.size)(h2:w.size≤4000)(h:Hp):aM Tryz.prog 256 [.str w] h (.int .i64 (iX jT w)):=by
 have aY5:(Ad w=false→jV w=false→¬(iN (byt w 0)=true∧w.size≤32)→∀k:Int,(k=4∨k=0)→aM Tryz.prog 256 [.str w] Hp.none (.int .i64 k)→aM Tryz.prog 256 [.str w] h (.int .i64 (iX jT w))):=by
  intro g1 g2 g3 k hk hp;have:iX jT w=jT w:=by unfold iX;rw[if_neg (by simp[g1]),if_neg (by simp[g2]),if_neg g3]
  rw[this];unfold jT;split
  ·rename_i q;exact q.mono (bH h)
  rename_i q;rcases hk with rfl|rfl
  ·exact absurd hp q
  exact hp.mono (bH h)
 have C1:=fun h=>kB .free vn ZM w h;rw[E4] at C1;have C2:=fun h=>mr w h;cases k1:Ad w with
 |true=>
  rw[k1] at C1;refine aJ (fun L=>trivial) fun h' nx hh=>aB L.aCO fun hd=>?_;simp only[Kd,Ki,Ke,Kf,Kb,Kc,Kg,Kh,Ka];refine au ?_;exact aC h' (leo hd) ⟨by unfold iX;rw[if_pos k1]<;>rfl,rfl⟩
 |false=>
  rw[k1] at C1;cases k2:jV w with
  |true=>
   rw[k2] at C2;refine aJ (fun L=>trivial) fun h' nx hh=>aB L.aCO fun hd=>?_;simp only[Kd,Ki,Ke,Kf,Kb,Kc,Kg,Kh,Ka];refine au ?_;exact aC h' (leo hd) ⟨by unfold iX;rw[if_neg (by simp[k1]),if_pos k2]<;>rfl,rfl⟩
  |false=>
   rw[k2] at C2;have hb:(w.data.toList.getD 0 0).toNat=byt w 0:=rfl;have C3:=fun h=>gy (byt w 0) h;by_cases k3:iN (byt w 0)=true∧w.size≤32
   ·rw[k3.1] at C3;have g1:decide ((w.size:Int)≤32)=true:=dct;have g2:0<w.size:=h1;refine aJ (fun L=>trivial) fun h' nx hh=>aB L.aCO fun hd=>?_;simp only[Kd,Ki,Ke,Kf,Kb,Kc,Kg,Kh,Ka];refine aue (e3 hb g1 g2) ?_;exact aC h' (leo hd) ⟨by unfold iX;rw[if_neg (by simp[k1]),if_neg (by simp[k2]),if_pos k3]<;>rfl,rfl⟩
   obtain⟨n,e,hA,hn1,hn2,he⟩:=DD w h2;have C4:=fun h=>hA.mono (bH h);have g2:0<w.size:=h1;have aDy:∀k:Int,k=4∨k=0→(∀h,aM Tryz.prog 256 [.str w] h (.int .i64 k))→aM Tryz.prog 256 [.str w] h (.int .i64 (iX jT w)):=fun k hk hp=>aY5 k1 k2 k3 k hk (hp Hp.none);have hgr:∃g,iN (byt w 0)=g∧(g=true→decide ((w.size:Int)≤32)=false):=⟨_,rfl,fun g=>dcf (by intro q;exact k3 ⟨g,or⟩)⟩;obtain⟨g,g3,g4⟩:=hgr;rw[g3] at C3;rcases he with rfl|⟨T,rfl⟩
   ·by_cases k5:n≤2147483647
    ·have g5:decide (n≤2147483647)=true:=dct;have C5:=CW n hn1 hn2;have hbe:=dV ⟨(Lib.itoa n).toArray⟩ w;cases k6:decide ((⟨(Lib.itoa n).toArray⟩:ByteArray)=w) with
     |true=>
      rw[k6] at hbe;refine aDy 4 (.inl rfl) fun h=>aJ (fun L=>trivial) fun h' nx hh=>aB L.aCO fun hd=>?_;simp only[Kd,Ki,Ke,Kf,Kb,Kc,Kg,Kh,Ka];have C5:=C5 h';cases g with
      |false=>
       refine aue (e4 hb g5 g2 hbe) ?_;exact aC h' (leo hd) ⟨rfl,rfl⟩
      |true=>
       have g4:=g4 rfl;refine aue (e5 hb g5 g2 hbe g4) ?_;exact aC h' (leo hd) ⟨rfl,rfl⟩
     |false=>
      rw[k6] at hbe;refine aDy 0 (.inr rfl) fun h=>aJ (fun L=>trivial) fun h' nx hh=>aB L.aCO fun hd=>?_;simp only[Kd,Ki,Ke,Kf,Kb,Kc,Kg,Kh,Ka];have C5:=C5 h';cases g with
      |false=>
       refine aue (e4 hb g5 g2 hbe) ?_;exact aC h' (leo hd) ⟨rfl,rfl⟩
      |true=>
       have g4:=g4 rfl;refine aue (e5 hb g5 g2 hbe g4) ?_;exact aC h' (leo hd) ⟨rfl,rfl⟩
    have g5:decide (n≤2147483647)=false:=dcf;refine aDy 0 (.inr rfl) fun h=>aJ (fun L=>trivial) fun h' nx hh=>aB L.aCO fun hd=>?_;simp only[Kd,Ki,Ke,Kf,Kb,Kc,Kg,Kh,Ka];cases g with
    |false=>
     refine aue (e3 hb g5 g2) ?_;exact aC h' (leo hd) ⟨rfl,rfl⟩
    |true=>
     have g4:=g4 rfl;refine aue (e4 hb g5 g2 g4) ?_;exact aC h' (leo hd) ⟨rfl,rfl⟩
   refine aDy 0 (.inr rfl) fun h=>aJ (fun L=>trivial) fun h' nx hh=>aB L.aCO fun hd=>?_;simp only[Kd,Ki,Ke,Kf,Kb,Kc,Kg,Kh,Ka];cases g with
   |false=>
    refine aue (e2 hb g2) ?_;exact aC h' (leo hd) ⟨rfl,rfl⟩
   |true=>
    have g4:=g4 rfl;refine aue (e3 hb g2 g4) ?_;exact aC h' (leo hd) ⟨rfl,rfl⟩
end Go.Proofs.YtlhedpgobaellaaGreatDoor
namespace Go.Proofs.YtlhedpgobaellaaGreatDoor
open Go.RowKit Go.Sort
attribute [local irreducible] Km
theorem F6(r t:ByteArray):uX r t=(decide (t.size≤r.size)&&decide (r.extract 0 t.size=t)):=by
 have e:(r.extract 0 t.size).data.toList=r.data.toList.take t.size:=by
  rw[ByteArray.data_extract,Array.toList_extract];simp[List.extract]
 have hl:t.data.toList.length=t.size:=Zm;rw[KH,uX,List.isPrefixOf_iff_prefix,Bool.and_eq_true,decide_eq_true_eq,decide_eq_true_eq,List.prefix_iff_eq_take,hl];constructor
 ·intro h;refine⟨?_,ByteArray.ext (Array.toList_inj.1 (by rw[e,←h]))⟩;have:=congrArg List.length h;rw[List.length_take,hl] at this;have h2:r.data.toList.length=r.size:=Zm;omega
 rintro⟨_,h⟩;rw[←e,h]
theorem qc(r t:ByteArray)(hr:r.size≤1000000)(ht:t.size≤1000000)(h:Hp):aM Tryz.prog 270 [.str r, .str t] h (.bool (uX r t)):=by
 refine aJ (fun L=>trivial) fun h' nx hh=>aB L.aWU fun hd=>?_;refine ZK ?_;rw[F6];by_cases hc:t.size≤r.size
 ·have g1:decide ((t.size:Int)≤(r.size:Int))=true:=dct;have g2:decide (t.size≤r.size)=true:=dct;have hbe:=dV (r.extract 0 t.size) t;refine aue (e4 g1 hbe hc (jG t.size)) ?_;exact aC h' (leo hd) ⟨by first|rfl|(rw[g2];rfl),rfl⟩
 have g1:decide ((t.size:Int)≤(r.size:Int))=false:=dcf;have g2:decide (t.size≤r.size)=false:=dcf;refine aue g1 ?_;exact aC h' (leo hd) ⟨by first|rfl|(rw[g2];rfl),rfl⟩
theorem ue(r t:ByteArray)(hr:r.size≤1000000)(ht:t.size≤1000000)(h:Hp):aM Tryz.prog 257 [.str r, .str t] h (.bool (uX r t)):=by
 refine aJ (fun L=>trivial) fun h' nx hh=>aB L.aWb fun hd=>?_;refine ZK ?_;have C1:=fun h=>qc r t hr ht h;refine au ?_;exact aC h' (leo hd) ⟨rfl,rfl⟩
def Tk.v(t:Tk):V:= .agg [.int .i64 t.k, .str t.t, .int .i64 t.a]
theorem Tk.aAC(t:Tk):t.v.fits (.agg 3)=true:=rfl
theorem Tk.aAN(L:Nat→Prop)(t:Tk):t.v.names L:=by simp[Tk.v,V.names,bM]
theorem y8{r:ByteArray}{i:Nat}(hi:i<fF.length)(hp:uX r fF[i]=true)(hno:∀t∈fF.take i,uX r t=false):vY r=(5,fF[i]):=by
 unfold vY;have:fF.find? (uX r)=some fF[i]:=by
  rw[List.find?_eq_some_iff_getElem];refine⟨hp,i,hi,rfl,fun j hj=>?_⟩;have:=hno fF[j] (Kw.2 ⟨j,or,rfl⟩);simp[this]
 rw[this]
theorem y9{r:ByteArray}(hno:∀t∈fF,uX r t=false):vY r=(0,⟨#[]⟩):=by
 unfold vY;have:fF.find? (uX r)=none:=by
  rw[List.find?_eq_none];intro t ht;simp[hno t ht]
 rw[this]
theorem Cj(r:ByteArray)(h1:1≤r.size)(h2:r.size≤4000)(h:Hp):aM Tryz.prog 241 [.str r] h (Tk.v ⟨(gK jT r).1,(gK jT r).2,0⟩):=by
 refine aJ (fun L=>Tk.aAN L _) fun h' nx hh=>aB L.aWq fun hd=>?_;refine ZK ?_;have C1:=fun h=>run_pure r h2 h;have hrl:=pq r;have hb:(r.data.toList.getD 0 0).toNat=byt r 0:=rfl;have h0:0<r.size:=h1;by_cases hc:0<pX r∧byt r 0≠95
 ·have g1:decide ((0:Int)<(pX r:Int))=true:=dct or;have g2:((byt r 0:Int) != 95)=true:=bnt or;have g3:pX r≤r.size:=hrl;have D1:=fun h=>BI (r.extract 0 (pX r)) (by rw[fP];omega) (by rw[fP];omega) h;refine aue (e6 hb g1 g2 g3 h0 (jG (pX r))) ?_;refine mW (by simp only[go_sem,reduceIte,jA,jB,jC,jD,reduceCtorEq,jE,jF]) h' (leo hd) ⟨?_,rfl⟩;refine Zn ?_;unfold gK;rw[if_pos hc];rfl
 obtain⟨SG,hSG⟩:∃SG,SG=fF.map V.str:=⟨_,rfl⟩;have aO8: [V.str ⟨#[58,45]⟩, .str ⟨#[33,61]⟩, .str ⟨#[60,61]⟩, .str ⟨#[62,61]⟩, .str ⟨#[40]⟩, .str ⟨#[41]⟩, .str ⟨#[44]⟩, .str ⟨#[46]⟩, .str ⟨#[61]⟩, .str ⟨#[60]⟩, .str ⟨#[62]⟩, .str ⟨#[43]⟩, .str ⟨#[45]⟩, .str ⟨#[42]⟩]=SG:=by rw[hSG];rfl
 have hSl:SG.length=14:=by rw[hSG];rfl
 have hSf:SG.all V.aAE=true:=by rw[hSG];rfl
 have hnx:gK jT r=vY r:=by unfold gK;rw[if_neg hc]
 rw[hnx];have key:∀(i:Nat) (hi:i<14),SG.getD i (.tup [])= .str fF[i]:=fun i hi=>by
  rw[hSG,Ku,KB,List.getElem?_eq_getElem (by exact hi)];rfl
 have hsz:∀t∈fF,t.size≤1000000:=by decide+kernel
 have aBi:decide ((0:Int)<(pX r:Int))=false∨(decide ((0:Int)<(pX r:Int))=true∧((byt r 0:Int) != 95)=false):=by
  by_cases q:0<pX r
  ·exact .inr ⟨dct or,bnf (by have:¬byt r 0≠95:=fun k=>hc ⟨q,k⟩;omega)⟩
  exact .inl (dcf or)
 rcases aBi with g1|⟨g1,g2⟩
 all_goals
  first
   |refine aue (e6 hb g1 g2 h0 aO8 hSl) ?_
   |refine aue (e5 hb g1 h0 aO8 hSl) ?_
  refine aP (fun i:Nat=>aD 34 0 [(0, .str r),(2, .ptr nx (.agg 3) 0 0),(23, .agg SG),(24, .int .i64 i)]) (fun i hp nx1=>i≤14∧hp=h'.set nx (.arr (.agg 3) [.agg [.int .i64 0, .str ⟨#[]⟩, .int .i64 0]])∧nx<nx1∧∀t∈fF.take i,uX r t=false) (fun i=>14-i) 0 ⟨or,rfl,Zw,Zm⟩ (by simp only[WkL,aD,jH,jI,jJ,go_sem,reduceIte,jA,jB,jC,jD,reduceCtorEq,jE,jF]) ?_;rintro i hp nx1 ⟨hi,rfl,aCC,hno⟩;generalize hQ:aZ _ _ _ _ _=Q0;refine Zk ?_;rcases Ky i 14 with hlt|hge
  ·have hc:decide ((i:Int)<14)=true:=dct;have hg:=key i hlt;have hw:IntKind.i64.wrap ((i:Int)+1)=((i+1:Nat):Int):=wrp;have C1:=fun h=>ue r fF[i] or (hsz _ (List.getElem_mem _)) h;have aXq:(i:Int)<14:=or;cases k:uX r fF[i] with
   |true=>
    rw[k] at C1;refine aue (e6 hc hg hSl hlt aXq (jG i)) ?_;rw[←hQ];refine au ?_;refine mW (by simp only[go_sem,reduceIte,jA,jB,jC,jD,reduceCtorEq,jE,jF]) h' (leo hd) ⟨?_,rfl⟩;refine Zn ?_;rw[y8 hlt k hno];rfl
   |false=>
    rw[k] at C1;refine aue (e7 hc hg hSl hlt aXq (jG i) hw) ?_;rw[←hQ];refine aF (i+1) or ⟨or,rfl,or,fun t ht=>?_⟩ (by simp only[WkL,aD,jH,jI,jJ,go_sem,reduceIte,jA,jB,jC,jD,reduceCtorEq,jE,jF]);rw[Ko hlt,KG,KA] at ht;rcases ht with ht|rfl
    ·exact hno t ht
    exact k
  have hc:decide ((i:Int)<14)=false:=dcf;refine aue hc ?_;rw[←hQ];refine au ?_;refine mW (by simp only[go_sem,reduceIte,jA,jB,jC,jD,reduceCtorEq,jE,jF]) h' (leo hd) ⟨?_,rfl⟩;refine Zn ?_;rw[y9 (fun t ht=>hno t (by rw[Kz (by show 14≤i;omega)];exact ht))];rfl
end Go.Proofs.YtlhedpgobaellaaGreatDoor
