/-
Texts of this proof,one behind the other. No conditions.
-/
import Derived.Test.YtgbiopfghdilnaaGreatDoorKq
import Derived.Test.YtgbiopfghdilnaaGreatDoorCards
import Derived.Test.YtgbiopfghdilnaaGreatDoorTie
import Derived.SevenTiedAt
import Derived.Test.YtgbiopfghdilnaaGreatDoorKw
import Derived.Test.YtgbiopfghdilnaaGreatDoorKp
open List renaming mem_of_getElem?→Ka,not_mem_nil→Kb,mem_cons→Kc,range→Ke
open Go.World renaming doorLaid→Kd
set_option linter.unusedSimpArgs false
set_option linter.unusedVariables false
set_option linter.unusedSectionVars false
set_option maxHeartbeats 8000000
namespace Go.Proofs.YtgbiopfghdilnaaGreatDoor
open Go.ChangeShapes Go.WideShapes Go.ChangeAt Go.RowKit
def mM:List (String×DataW Unit):=[("math/bits.deBruijn32tab",Rows.laid_math_bits_deBruijn32tab),("math/bits.deBruijn64tab",Rows.laid_math_bits_deBruijn64tab),("internal/strconv.uint64pow10",Rows.laid_internal_strconv_uint64pow10),("strconv.ErrRange",Rows.laid_strconv_ErrRange),("strconv.ErrSyntax",Rows.laid_strconv_ErrSyntax),("corollary/lex.keys",Rows.laid_corollary_lex_keys),("corollary/lex.signs",Rows.laid_corollary_lex_signs),("corollary/parse.aggs",Rows.laid_corollary_parse_aggs),("corollary/parse.signs",Rows.laid_corollary_parse_signs)]
theorem gX:(mM.all fun x=>x.2.handleName?.isNone)=true:=Zz
def Cj:List (List UInt8):=[[114,101,108],[105,110,116],[115,121,109],[110,111,116],[99,111,117,110,116],[115,117,109],[109,105,110],[109,97,120]]
def AM:List (List UInt8):=[[58,45],[33,61],[60,61],[62,61],[40],[41],[44],[46],[61],[60],[62],[43],[45],[42]]
def B7:List (List UInt8):=[[99,111,117,110,116],[115,117,109],[109,105,110],[109,97,120]]
def AN:List (List UInt8):=[[61],[33,61],[60],[60,61],[62],[62,61]]
def s4:List Int:=(Ke 20).map fun i=>((10 ^ i:Nat):Int)
theorem v6:("corollary/lex.keys",DataW.agg (Cj.map fun s=> .lit (.string s)))∈mM:=Ka (i:=5) rfl
theorem qj:("corollary/lex.signs",DataW.agg (AM.map fun s=> .lit (.string s)))∈mM:=Ka (i:=6) rfl
theorem v7:("corollary/parse.aggs",DataW.agg (B7.map fun s=> .lit (.string s)))∈mM:=Ka (i:=7) rfl
theorem ld:("corollary/parse.signs",DataW.agg (AN.map fun s=> .lit (.string s)))∈mM:=Ka (i:=8) rfl
theorem vw:("internal/strconv.uint64pow10",DataW.agg (s4.map fun s=> .lit (.int .u64 s)))∈mM:=Ka (i:=2) Zz
theorem y8:("strconv.ErrSyntax",(Rows.laid_strconv_ErrSyntax:DataW Unit))∈mM:=Ka (i:=4) rfl
theorem y9:("strconv.ErrRange",(Rows.laid_strconv_ErrRange:DataW Unit))∈mM:=Ka (i:=3) rfl
theorem AP:(s4.map fun s=>Value.int .u64 s)=(Ke 20).map fun i=>Value.int .u64 ((10 ^ i:Nat):Int):=by simp[s4]
theorem BY{W:World}(h:laidMetH Tryz.prog mM W):gG (Ker.base W):=by
 have k1:=wP h gX v6 (g:=3) (t:=288) (m:=8) (e:=9) Zz Zz Zz Zz Zz ZM Zz;have k2:=wP h gX qj (g:=2) (t:=280) (m:=14) (e:=9) Zz Zz Zz Zz Zz ZM Zz;have ka:=wP h gX v7 (g:=0) (t:=247) (m:=4) (e:=9) Zz Zz Zz Zz Zz ZM Zz;have kb:=wP h gX ld (g:=1) (t:=269) (m:=6) (e:=9) Zz Zz Zz Zz Zz ZM Zz;have k3:=zr h gX vw (g:=7) (t:=324) (m:=20) (e:=299) Zz Zz Zz Zz Zz (by simp[s4]) Zz;rw[AP] at k3;have k4:=mh h gX y8 (g:=4) (t:=34) Zz Zz ⟨_,Tryz.underlying34⟩;have k5:=mh h gX y9 (g:=5) (t:=34) Zz Zz ⟨_,Tryz.underlying34⟩;refine⟨fun b hb=>hb,fun g cs hm=>?_,fun g hm=>?_⟩
 ·simp only[GT,Kc,Kb,or_false,Prod.mk.injEq] at hm;rcases hm with⟨rfl,rfl⟩|⟨rfl,rfl⟩|⟨rfl,rfl⟩|⟨rfl,rfl⟩|⟨rfl,rfl⟩
  ·exact k1
  ·exact k2
  ·exact ka
  ·exact kb
  exact k3
 simp only[GI,Kc,Kb,or_false] at hm;rcases hm with rfl|rfl
 ·exact k4
 exact k5
theorem Ao(os:Os)(args:Array Value):laidMetH Tryz.prog mM ((Kd Tryz.prog 400 os).forCall (fun _ _=>0) ⟨#[],args,[]⟩).memory:=
 laidMetH_of_parts3 (fuel:=8) (laidMet_of_run' 8 Zz Zz) Zz Zz
set_option maxRecDepth 100000 in
theorem vZ(os:Os)(started:os.Started)(H:Type)(enc:TypeId×Value→H):
 ReturnsInHanded {} Tryz.checked os 5 .any (fun w args=>(Rows.planKeysSpec.pre enc Tryz.prog Tryz.f5 [] false w args∧laidMetH Tryz.prog mM w)∧sizedMet enc Tryz.prog Tryz.f5 (OpenSpec.ofChange Rows.planKeysSpec) false w args)
  (Rows.planKeysSpec.post enc Tryz.prog Tryz.f5 false true false false):=by
 refine wE (C:=Tryz.checked) (tb:=4) (l:=mM) own started Zz Tryz.func5
  (ChangeSpec.witness_shaped (enc:=enc) (C:=Tryz.checked) (os:=os) (X:=fun w _=>laidMetH Tryz.prog mM w) false (Kd Tryz.prog 400 os) #[.agg #[.string ⟨#[]⟩, .slice none 0 0, .int .i64 0, .int .i64 0, .slice none 0 0, .int .i64 0], .int .i64 0, .agg #[.slice none 0 0, .slice none 0 0]] 8 rfl (World.shaped_of_RefB Zz Zz) Zz Zz Zz (Ao os _))
  rfl (fun ds hds=>by match ds,hds with| [_,_,_],_=>rfl) rfl Tryz.underlying4 Bc (fun t ht=>?_) ?_
 ·simp only[Tryz.params5,Kc,Kb,or_false] at ht;rcases ht with rfl|rfl|rfl<;>exact⟨Zz,of_decide_eq_true Zz⟩
 intro W base args ds p hval hA _ hsz hL;refine ig (P:=Tryz.prog) (congrArg Array.toList Tryz.params5) Zz (fun xs hxs=>?_) W base args ds p hval hA hsz (BY hL);match xs,hxs with
 | [x0,x1,x2],⟨h0,h1,h2,_⟩=>
  obtain⟨r,hr,rfl⟩:=Aw Zz Zz h0;obtain⟨i,rfl⟩:=Ay (k:= .i64) Zz Zz h1;obtain⟨oa,ob,a,b,_,_,rfl⟩:=Ax Zz Zz h2;exact ib i8 r hr i oa ob a b _
end Go.Proofs.YtgbiopfghdilnaaGreatDoor
