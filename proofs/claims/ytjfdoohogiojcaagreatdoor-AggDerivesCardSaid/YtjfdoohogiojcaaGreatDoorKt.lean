/-
Texts of this proof,one behind the other. No conditions.
-/
import Derived.Test.YtjfdoohogiojcaaGreatDoorKs
import Derived.Test.YtjfdoohogiojcaaGreatDoorCards
import Derived.Test.YtjfdoohogiojcaaGreatDoorTie
import Derived.SevenTiedAt
open List renaming mem_of_getElem?→Ka,not_mem_nil→Kb,mem_cons→Kc,range→Ke
open Go.World renaming doorLaid→Kd
set_option linter.unusedSimpArgs false
set_option linter.unusedVariables false
set_option linter.unusedSectionVars false
set_option maxHeartbeats 8000000
namespace Go.Proofs.YtjfdoohogiojcaaGreatDoor
open Go.ChangeShapes Go.WideShapes Go.ChangeAt Go.RowKit
def oS:List (String×DataW Unit):=[("math/bits.deBruijn32tab",Rows.laid_math_bits_deBruijn32tab),("math/bits.deBruijn64tab",Rows.laid_math_bits_deBruijn64tab),("internal/strconv.uint64pow10",Rows.laid_internal_strconv_uint64pow10),("strconv.ErrRange",Rows.laid_strconv_ErrRange),("strconv.ErrSyntax",Rows.laid_strconv_ErrSyntax),("corollary/lex.keys",Rows.laid_corollary_lex_keys),("corollary/lex.signs",Rows.laid_corollary_lex_signs)]
theorem mL:(oS.all fun x=>x.2.handleName?.isNone)=true:=Zz
def Bg:List (List UInt8):=[[114,101,108],[105,110,116],[115,121,109],[110,111,116],[99,111,117,110,116],[115,117,109],[109,105,110],[109,97,120]]
def zz:List (List UInt8):=[[58,45],[33,61],[60,61],[62,61],[40],[41],[44],[46],[61],[60],[62],[43],[45],[42]]
def qw:List Int:=(Ke 20).map fun i=>((10 ^ i:Nat):Int)
theorem tt:("corollary/lex.keys",DataW.agg (Bg.map fun s=> .lit (.string s)))∈oS:=Ka (i:=5) rfl
theorem ol:("corollary/lex.signs",DataW.agg (zz.map fun s=> .lit (.string s)))∈oS:=Ka (i:=6) rfl
theorem tr:("internal/strconv.uint64pow10",DataW.agg (qw.map fun s=> .lit (.int .u64 s)))∈oS:=Ka (i:=2) Zz
theorem xc:("strconv.ErrSyntax",(Rows.laid_strconv_ErrSyntax:DataW Unit))∈oS:=Ka (i:=4) rfl
theorem xd:("strconv.ErrRange",(Rows.laid_strconv_ErrRange:DataW Unit))∈oS:=Ka (i:=3) rfl
theorem Aa:(qw.map fun s=>Value.int .u64 s)=(Ke 20).map fun i=>Value.int .u64 ((10 ^ i:Nat):Int):=by simp[qw]
theorem AX{W:World}(h:laidMetH Tryz.prog oS W):gX (Ker.base W):=by
 have k1:=rk h mL tt (g:=1) (t:=227) (m:=8) (e:=9) Zz Zz Zz Zz Zz ZM Zz;have k2:=rk h mL ol (g:=0) (t:=218) (m:=14) (e:=9) Zz Zz Zz Zz Zz ZM Zz;have k3:=ym h mL tr (g:=5) (t:=262) (m:=20) (e:=187) Zz Zz Zz Zz Zz (by simp[qw]) Zz;rw[Aa] at k3;have k4:=jz h mL xc (g:=3) (t:=46) Zz Zz ⟨_,Tryz.underlying46⟩;have k5:=jz h mL xd (g:=4) (t:=46) Zz Zz ⟨_,Tryz.underlying46⟩;refine⟨fun b hb=>hb,fun g cs hm=>?_,fun g hm=>?_⟩
 ·simp only[GT,Kc,Kb,or_false,Prod.mk.injEq] at hm;rcases hm with⟨rfl,rfl⟩|⟨rfl,rfl⟩|⟨rfl,rfl⟩
  ·exact k1
  ·exact k2
  exact k3
 simp only[GI,Kc,Kb,or_false] at hm;rcases hm with rfl|rfl
 ·exact k4
 exact k5
theorem za(os:Os)(args:Array Value):laidMetH Tryz.prog oS ((Kd Tryz.prog 400 os).forCall (fun _ _=>0) ⟨#[],args,[]⟩).memory:=
 laidMetH_of_parts3 (fuel:=8) (laidMet_of_run' 8 Zz Zz) Zz Zz
set_option maxRecDepth 100000 in
theorem tA(os:Os)(started:os.Started)(H:Type)(enc:TypeId×Value→H):
 ReturnsInHanded {} Tryz.checked os 3 .any (fun w args=>(Rows.aggDerivesSpec.pre enc Tryz.prog Tryz.f3 [] false w args∧laidMetH Tryz.prog oS w)∧sizedMet enc Tryz.prog Tryz.f3 (OpenSpec.ofChange Rows.aggDerivesSpec) false w args)
  (Rows.aggDerivesSpec.post enc Tryz.prog Tryz.f3 false true false false):=by
 refine vY (C:=Tryz.checked) (tb:=4) (l:=oS) own started Zz Tryz.func3
  (ChangeSpec.witness_shaped (enc:=enc) (C:=Tryz.checked) (os:=os) (X:=fun w _=>laidMetH Tryz.prog oS w) false (Kd Tryz.prog 400 os) #[.agg #[.string ⟨#[]⟩, .slice none 0 0, .int .i64 0, .int .i64 0, .slice none 0 0, .int .i64 0], .slice none 0 0] 8 rfl (World.shaped_of_RefB Zz Zz) Zz Zz Zz (za os _))
  rfl (fun ds hds=>by match ds,hds with| [_,_],_=>rfl) rfl Tryz.underlying4 Ag (fun t ht=>?_) ?_
 ·simp only[Tryz.params3,Kc,Kb,or_false] at ht;rcases ht with rfl|rfl<;>exact⟨Zz,of_decide_eq_true Zz⟩
 intro W base args ds p hval hA _ hsz hL;refine fm (P:=Tryz.prog) (congrArg Array.toList Tryz.params3) Zz (fun xs hxs=>?_) W base args ds p hval hA hsz (AX hL);match xs,hxs with
 | [x0,x1],⟨h0,h1,_⟩=>
  obtain⟨r,hr,rfl⟩:=zk Zz Zz h0;obtain⟨o,l,hl,rfl⟩:=At Zz Zz h1;exact zP r hr o l hl
end Go.Proofs.YtjfdoohogiojcaaGreatDoor
