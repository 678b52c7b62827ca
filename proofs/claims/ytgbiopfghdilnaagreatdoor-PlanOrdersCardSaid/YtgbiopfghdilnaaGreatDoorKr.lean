/-
Texts of this proof,one behind the other. No conditions.
-/
import Derived.Test.YtgbiopfghdilnaaGreatDoorKp
import Derived.Test.YtgbiopfghdilnaaGreatDoorKq
import Derived.Test.YtgbiopfghdilnaaGreatDoorCards
import Derived.Test.YtgbiopfghdilnaaGreatDoorTie
import Derived.SevenTiedAt
open List renaming mem_of_getElem?→Ka,not_mem_nil→Kb,mem_cons→Kc,range→Ke
open Go.World renaming doorLaid→Kd
set_option linter.unusedSimpArgs false
set_option linter.unusedVariables false
set_option linter.unusedSectionVars false
set_option maxHeartbeats 8000000
namespace Go.Proofs.YtgbiopfghdilnaaGreatDoor
open Go.ChangeShapes Go.WideShapes Go.ChangeAt Go.RowKit
def lI:List (String×DataW Unit):=[("math/bits.deBruijn32tab",Rows.laid_math_bits_deBruijn32tab),("math/bits.deBruijn64tab",Rows.laid_math_bits_deBruijn64tab),("internal/strconv.uint64pow10",Rows.laid_internal_strconv_uint64pow10),("strconv.ErrRange",Rows.laid_strconv_ErrRange),("strconv.ErrSyntax",Rows.laid_strconv_ErrSyntax),("corollary/lex.keys",Rows.laid_corollary_lex_keys),("corollary/lex.signs",Rows.laid_corollary_lex_signs),("corollary/parse.aggs",Rows.laid_corollary_parse_aggs),("corollary/parse.signs",Rows.laid_corollary_parse_signs)]
theorem gK:(lI.all fun x=>x.2.handleName?.isNone)=true:=Zz
def zh:List (List UInt8):=[[114,101,108],[105,110,116],[115,121,109],[110,111,116],[99,111,117,110,116],[115,117,109],[109,105,110],[109,97,120]]
def vq:List (List UInt8):=[[58,45],[33,61],[60,61],[62,61],[40],[41],[44],[46],[61],[60],[62],[43],[45],[42]]
def y5:List (List UInt8):=[[99,111,117,110,116],[115,117,109],[109,105,110],[109,97,120]]
def vt:List (List UInt8):=[[61],[33,61],[60],[60,61],[62],[62,61]]
def ox:List Int:=(Ke 20).map fun i=>((10 ^ i:Nat):Int)
theorem qt:("corollary/lex.keys",DataW.agg (zh.map fun s=> .lit (.string s)))∈lI:=Ka (i:=5) rfl
theorem ma:("corollary/lex.signs",DataW.agg (vq.map fun s=> .lit (.string s)))∈lI:=Ka (i:=6) rfl
theorem qu:("corollary/parse.aggs",DataW.agg (y5.map fun s=> .lit (.string s)))∈lI:=Ka (i:=7) rfl
theorem gz:("corollary/parse.signs",DataW.agg (vt.map fun s=> .lit (.string s)))∈lI:=Ka (i:=8) rfl
theorem qs:("internal/strconv.uint64pow10",DataW.agg (ox.map fun s=> .lit (.int .u64 s)))∈lI:=Ka (i:=2) Zz
theorem ta:("strconv.ErrSyntax",(Rows.laid_strconv_ErrSyntax:DataW Unit))∈lI:=Ka (i:=4) rfl
theorem tc:("strconv.ErrRange",(Rows.laid_strconv_ErrRange:DataW Unit))∈lI:=Ka (i:=3) rfl
theorem v6:(ox.map fun s=>Value.int .u64 s)=(Ke 20).map fun i=>Value.int .u64 ((10 ^ i:Nat):Int):=by simp[ox]
theorem yp{W:World}(h:laidMetH Tryz.prog lI W):fR (Ker.base W):=by
 have k1:=uX h gK qt (g:=3) (t:=288) (m:=8) (e:=9) Zz Zz Zz Zz Zz ZM Zz;have k2:=uX h gK ma (g:=2) (t:=280) (m:=14) (e:=9) Zz Zz Zz Zz Zz ZM Zz;have ka:=uX h gK qu (g:=0) (t:=247) (m:=4) (e:=9) Zz Zz Zz Zz Zz ZM Zz;have kb:=uX h gK gz (g:=1) (t:=269) (m:=6) (e:=9) Zz Zz Zz Zz Zz ZM Zz;have k3:=tx h gK qs (g:=7) (t:=324) (m:=20) (e:=299) Zz Zz Zz Zz Zz (by simp[ox]) Zz;rw[v6] at k3;have k4:=io h gK ta (g:=4) (t:=34) Zz Zz ⟨_,Tryz.underlying34⟩;have k5:=io h gK tc (g:=5) (t:=34) Zz Zz ⟨_,Tryz.underlying34⟩;refine⟨fun b hb=>hb,fun g cs hm=>?_,fun g hm=>?_⟩
 ·simp only[GT,Kc,Kb,or_false,Prod.mk.injEq] at hm;rcases hm with⟨rfl,rfl⟩|⟨rfl,rfl⟩|⟨rfl,rfl⟩|⟨rfl,rfl⟩|⟨rfl,rfl⟩
  ·exact k1
  ·exact k2
  ·exact ka
  ·exact kb
  exact k3
 simp only[GI,Kc,Kb,or_false] at hm;rcases hm with rfl|rfl
 ·exact k4
 exact k5
theorem uo(os:Os)(args:Array Value):laidMetH Tryz.prog lI ((Kd Tryz.prog 400 os).forCall (fun _ _=>0) ⟨#[],args,[]⟩).memory:=
 laidMetH_of_parts3 (fuel:=8) (laidMet_of_run' 8 Zz Zz) Zz Zz
set_option maxRecDepth 100000 in
theorem qE(os:Os)(started:os.Started)(H:Type)(enc:TypeId×Value→H):
 ReturnsInHanded {} Tryz.checked os 3 .any (fun w args=>(Rows.planOrdersSpec.pre enc Tryz.prog Tryz.f3 [] false w args∧laidMetH Tryz.prog lI w)∧sizedMet enc Tryz.prog Tryz.f3 (OpenSpec.ofChange Rows.planOrdersSpec) false w args)
  (Rows.planOrdersSpec.post enc Tryz.prog Tryz.f3 false true false false):=by
 refine tU (C:=Tryz.checked) (tb:=4) (l:=lI) own started Zz Tryz.func3
  (ChangeSpec.witness_shaped (enc:=enc) (C:=Tryz.checked) (os:=os) (X:=fun w _=>laidMetH Tryz.prog lI w) false (Kd Tryz.prog 400 os) #[.agg #[.string ⟨#[]⟩, .slice none 0 0, .int .i64 0, .int .i64 0, .slice none 0 0, .int .i64 0]] 8 rfl (World.shaped_of_RefB Zz Zz) Zz Zz Zz (uo os _))
  rfl (fun ds hds=>by match ds,hds with| [_],_=>rfl) rfl Tryz.underlying4 wu (fun t ht=>?_) ?_
 ·simp only[Tryz.params3,Kc,Kb,or_false] at ht;rcases ht with rfl;exact⟨Zz,of_decide_eq_true Zz⟩
 intro W base args ds p hval hA _ hsz hL;refine cw (P:=Tryz.prog) (congrArg Array.toList Tryz.params3) Zz (fun xs hxs=>?_) W base args ds p hval hA hsz (yp hL);match xs,hxs with
 | [x0],⟨h0,_⟩=>
  obtain⟨r,hr,rfl⟩:=ux Zz Zz h0;exact tQ r hr _
end Go.Proofs.YtgbiopfghdilnaaGreatDoor
