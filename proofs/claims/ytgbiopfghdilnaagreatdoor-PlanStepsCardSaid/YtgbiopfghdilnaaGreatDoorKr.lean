/-
Texts of this proof,one behind the other. No conditions.
-/
import Derived.Test.YtgbiopfghdilnaaGreatDoorKq
import Derived.Test.YtgbiopfghdilnaaGreatDoorCards
import Derived.Test.YtgbiopfghdilnaaGreatDoorTie
import Derived.SevenTiedAt
import Derived.Test.YtgbiopfghdilnaaGreatDoorKw
open List renaming mem_of_getElem?→Ka,not_mem_nil→Kb,mem_cons→Kc,range→Ke
open Go.World renaming doorLaid→Kd
set_option linter.unusedSimpArgs false
set_option linter.unusedVariables false
set_option linter.unusedSectionVars false
set_option maxHeartbeats 8000000
namespace Go.Proofs.YtgbiopfghdilnaaGreatDoor
open Go.ChangeShapes Go.WideShapes Go.ChangeAt Go.RowKit
def mV:List (String×DataW Unit):=[("math/bits.deBruijn32tab",Rows.laid_math_bits_deBruijn32tab),("math/bits.deBruijn64tab",Rows.laid_math_bits_deBruijn64tab),("internal/strconv.uint64pow10",Rows.laid_internal_strconv_uint64pow10),("strconv.ErrRange",Rows.laid_strconv_ErrRange),("strconv.ErrSyntax",Rows.laid_strconv_ErrSyntax),("corollary/lex.keys",Rows.laid_corollary_lex_keys),("corollary/lex.signs",Rows.laid_corollary_lex_signs),("corollary/parse.aggs",Rows.laid_corollary_parse_aggs),("corollary/parse.signs",Rows.laid_corollary_parse_signs)]
theorem iZ:(mV.all fun x=>x.2.handleName?.isNone)=true:=Zz
def C7:List (List UInt8):=[[114,101,108],[105,110,116],[115,121,109],[110,111,116],[99,111,117,110,116],[115,117,109],[109,105,110],[109,97,120]]
def Bw:List (List UInt8):=[[58,45],[33,61],[60,61],[62,61],[40],[41],[44],[46],[61],[60],[62],[43],[45],[42]]
def CN:List (List UInt8):=[[99,111,117,110,116],[115,117,109],[109,105,110],[109,97,120]]
def BB:List (List UInt8):=[[61],[33,61],[60],[60,61],[62],[62,61]]
def u7:List Int:=(Ke 20).map fun i=>((10 ^ i:Nat):Int)
theorem ye:("corollary/lex.keys",DataW.agg (C7.map fun s=> .lit (.string s)))∈mV:=Ka (i:=5) rfl
theorem si:("corollary/lex.signs",DataW.agg (Bw.map fun s=> .lit (.string s)))∈mV:=Ka (i:=6) rfl
theorem yf:("corollary/parse.aggs",DataW.agg (CN.map fun s=> .lit (.string s)))∈mV:=Ka (i:=7) rfl
theorem od:("corollary/parse.signs",DataW.agg (BB.map fun s=> .lit (.string s)))∈mV:=Ka (i:=8) rfl
theorem yd:("internal/strconv.uint64pow10",DataW.agg (u7.map fun s=> .lit (.int .u64 s)))∈mV:=Ka (i:=2) Zz
theorem AA:("strconv.ErrSyntax",(Rows.laid_strconv_ErrSyntax:DataW Unit))∈mV:=Ka (i:=4) rfl
theorem AB:("strconv.ErrRange",(Rows.laid_strconv_ErrRange:DataW Unit))∈mV:=Ka (i:=3) rfl
theorem BC:(u7.map fun s=>Value.int .u64 s)=(Ke 20).map fun i=>Value.int .u64 ((10 ^ i:Nat):Int):=by simp[u7]
theorem CB{W:World}(h:laidMetH Tryz.prog mV W):hZ (Ker.base W):=by
 have k1:=xM h iZ ye (g:=3) (t:=288) (m:=8) (e:=9) Zz Zz Zz Zz Zz ZM Zz;have k2:=xM h iZ si (g:=2) (t:=280) (m:=14) (e:=9) Zz Zz Zz Zz Zz ZM Zz;have ka:=xM h iZ yf (g:=0) (t:=247) (m:=4) (e:=9) Zz Zz Zz Zz Zz ZM Zz;have kb:=xM h iZ od (g:=1) (t:=269) (m:=6) (e:=9) Zz Zz Zz Zz Zz ZM Zz;have k3:=AO h iZ yd (g:=7) (t:=324) (m:=20) (e:=299) Zz Zz Zz Zz Zz (by simp[u7]) Zz;rw[BC] at k3;have k4:=pc h iZ AA (g:=4) (t:=34) Zz Zz ⟨_,Tryz.underlying34⟩;have k5:=pc h iZ AB (g:=5) (t:=34) Zz Zz ⟨_,Tryz.underlying34⟩;refine⟨fun b hb=>hb,fun g cs hm=>?_,fun g hm=>?_⟩
 ·simp only[GT,Kc,Kb,or_false,Prod.mk.injEq] at hm;rcases hm with⟨rfl,rfl⟩|⟨rfl,rfl⟩|⟨rfl,rfl⟩|⟨rfl,rfl⟩|⟨rfl,rfl⟩
  ·exact k1
  ·exact k2
  ·exact ka
  ·exact kb
  exact k3
 simp only[GI,Kc,Kb,or_false] at hm;rcases hm with rfl|rfl
 ·exact k4
 exact k5
theorem A6(os:Os)(args:Array Value):laidMetH Tryz.prog mV ((Kd Tryz.prog 400 os).forCall (fun _ _=>0) ⟨#[],args,[]⟩).memory:=
 laidMetH_of_parts3 (fuel:=8) (laidMet_of_run' 8 Zz Zz) Zz Zz
theorem zy{P:Program}{t:TypeId}{a:AT}{x:V}(ek:cA P t=some .leaf)(ea:tK P 12 t=some [a])(h:qw P t x):a.ok x:=by
 obtain⟨k,ats,hk,ha,hf,_,ho⟩:=h;rw[ek] at hk;rw[ea] at ha;injection hk with hk;injection ha with ha;subst hk ha;have h0:=ho 0 Zm;rwa [jY (by rwa [lE] at hf)] at h0
theorem Be{P:Program}{t:TypeId}{x:V}(ek:cA P t=some .leaf)(ea:tK P 12 t=some [.sl .leaf [.str]])(h:qw P t x):∃(o:Own) (l:List ByteArray),x= .sl .leaf o (l.map V.str):=by
 cases zy ek ea h with
 |nil=>exact⟨.nil,[],rfl⟩
 |sl _ _ vs hl hf hc=>
  obtain⟨l,_,rfl⟩:=oY (fun _=>True) V.str vs (fun v hv=>by
   have h0:=hc v hv 0 Zm;rw[jY (by have:=hf v hv;rwa [lE] at this)] at h0;obtain⟨s,_,e⟩:=eO h0;exact⟨s,trivial,e⟩)
  exact⟨.free,l,rfl⟩
theorem yV(r:Ru)(hr:r.s47)(o:Own)(aAP:List ByteArray)(h:Hp):aI Tryz.prog 4 [r.v, .sl .leaf o (aAP.map V.str)] h (.bool true):=cm kj r hr o aAP h
set_option maxRecDepth 100000 in
theorem uT(os:Os)(started:os.Started)(H:Type)(enc:TypeId×Value→H):
 ReturnsInHanded {} Tryz.checked os 4 .any (fun w args=>(Rows.planStepsSpec.pre enc Tryz.prog Tryz.f4 [] false w args∧laidMetH Tryz.prog mV w)∧sizedMet enc Tryz.prog Tryz.f4 (OpenSpec.ofChange Rows.planStepsSpec) false w args)
  (Rows.planStepsSpec.post enc Tryz.prog Tryz.f4 false true false false):=by
 refine xA (C:=Tryz.checked) (tb:=4) (l:=mV) own started Zz Tryz.func4
  (ChangeSpec.witness_shaped (enc:=enc) (C:=Tryz.checked) (os:=os) (X:=fun w _=>laidMetH Tryz.prog mV w) false (Kd Tryz.prog 400 os) #[.agg #[.string ⟨#[]⟩, .slice none 0 0, .int .i64 0, .int .i64 0, .slice none 0 0, .int .i64 0], .slice none 0 0] 8 rfl (World.shaped_of_RefB Zz Zz) Zz Zz Zz (A6 os _))
  rfl (fun ds hds=>by match ds,hds with| [_,_],_=>rfl) rfl Tryz.underlying4 BW (fun t ht=>?_) ?_
 ·simp only[Tryz.params4,Kc,Kb,or_false] at ht;rcases ht with rfl|rfl<;>exact⟨Zz,of_decide_eq_true Zz⟩
 intro W base args ds p hval hA _ hsz hL;refine jp (P:=Tryz.prog) (congrArg Array.toList Tryz.params4) Zz (fun xs hxs=>?_) W base args ds p hval hA hsz (CB hL);match xs,hxs with
 | [x0,x1],⟨h0,h1,_⟩=>
  obtain⟨r,hr,rfl⟩:=Bf Zz Zz h0;obtain⟨o,l,rfl⟩:=Be Zz Zz h1;exact yV r hr o l _
end Go.Proofs.YtgbiopfghdilnaaGreatDoor
