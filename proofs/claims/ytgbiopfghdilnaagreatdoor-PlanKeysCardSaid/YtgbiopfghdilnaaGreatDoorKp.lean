/-
Texts of this proof,one behind the other. No conditions.
-/
import Derived.Test.YtgbiopfghdilnaaGreatDoorKd
import Derived.Test.YtgbiopfghdilnaaGreatDoorKo
import Derived.Test.YtgbiopfghdilnaaGreatDoorKj
import Derived.Test.YtgbiopfghdilnaaGreatDoorKev
import Derived.Test.YtgbiopfghdilnaaGreatDoorKh
open List renaming forall_mem_cons→Ka,not_mem_nil→Kb
open Nat renaming reduceAdd→jA,reduceSub→jB
open List renaming length_map→jK,length_cons→jL,length_nil→jM,replicate_succ→jN,replicate_zero→jO,cons_append→jP,nil_append→jQ
set_option linter.unusedSimpArgs false
set_option linter.unusedVariables false
set_option linter.unusedSectionVars false
set_option maxHeartbeats 8000000
namespace Go.Proofs.YtgbiopfghdilnaaGreatDoor
open Go.RowKit Go.Sort
attribute [local irreducible] IntKind.wrap
set_option maxHeartbeats 4000000
def pW(ps:List PS):List ByteArray:=(ps.getD (ps.length-1) default).wt
theorem az(r:Ru)(ps:List PS)(hp:ps.length≤1000)(hw:(pW ps).length≤1000000000)(h:Hp):aM Tryz.prog 13 [dJ r ps] h (lst .leaf ((pW ps).map V.str)):=by
 refine aJ (fun L=>cZ (fun L=>bB (f:=V.str) (fun _=>trivial) _) L) fun h' nx hh=>aB L.g7z fun hd=>?_;obtain⟨oS,hoS⟩:=cL (.agg 5) (ps.map PS.v);unfold dJ;rw[hoS];simp only[jL,jM,jA,jB,jN,jO,jP,jQ,V.undef];by_cases hlp:ps.length=0
 ·have hz:((ps.length:Int)==0)=true:=by rw[hlp];rfl
  have aAf:ps=[]:=List.length_eq_zero_iff.1 hlp;refine aue (e3 trs.eq_1 hz (@jK PS V)) ?_;refine aC h' (leo hd) ⟨?_,rfl⟩;rw[aAf];rfl
 have hlp:0<ps.length:=or;have hz:((ps.length:Int)==0)=false:=bqf;have hg:(ps.map PS.v).getD (ps.length-1) (.tup [])=(ps.getD (ps.length-1) default).v:=by
  rw[aN PS.v ps (ps.length-1) or,List.getD_eq_getElem?_getD,List.getElem?_eq_getElem or];rfl
 have hw1:IntKind.i64.wrap ((ps.length:Int)-1)=((ps.length-1:Nat):Int):=by
  rw[(wrp:IntKind.i64.wrap ((ps.length:Int)-1)=(ps.length:Int)-1)];omega
 obtain⟨ow,how⟩:=cL .leaf ((pW ps).map V.str);have C1:∀h:Hp,aM Tryz.prog 39 [.sl .leaf ow ((pW ps).map V.str)] h (V.sl .leaf ow ((pW ps).map V.str)).loose:=fun h=>r8 tj or ow _ (by rw[jK];omega) (fun e=>by rw[e] at how;cases hm:(pW ps).map V.str with|nil=>rfl|cons a b=>rw[hm] at how;cases how) (fun L=>bB (f:=V.str) (fun _=>trivial) _) h;have hll:(V.sl .leaf ow ((pW ps).map V.str)).loose=lst .leaf ((pW ps).map V.str):=by rw[←how];unfold lst;split<;>rfl
 rw[hll] at C1;have hwt:(ps.getD (ps.length-1) default).v.cell 3= .sl .leaf ow ((pW ps).map V.str):=how;generalize (ps.getD (ps.length-1) default).v=s at hg hwt;have n0:ps.length-1<ps.length:=or;refine aue (e7 trs.eq_1 hz hg hw1 hwt n0 (@jK PS V)) ?_;exact aC h' (leo hd) ⟨rfl,rfl⟩
end Go.Proofs.YtgbiopfghdilnaaGreatDoor
namespace Go.Proofs.YtgbiopfghdilnaaGreatDoor
open Go.RowKit
set_option maxRecDepth 100000
def evT:List (Nat×LFn):=[(7,L.g1),(33,L.g17),(18,L.g8),(11,L.g5),(74,L.g41),(75,L.g42),(117,L.g64),(116,L.g63),(118,L.g65),(119,L.g66),(120,L.g67),(121,L.g68),(160,L.g91),(161,L.g92),(163,L.g94),(162,L.g93),(165,L.g96),(166,L.g97),(167,L.g98),(82,L.g49),(164,L.g95),(189,L.aSs),(190,L.aSr),(128,L.g74),(188,L.aSt),(205,L.aSp),(172,L.aSv),(204,L.aSq),(219,L.aSl),(124,L.g71),(217,L.aSn),(218,L.aSm),(54,L.g30),(170,L.aSw),(212,L.aSo),(226,L.aSk),(97,L.g54),(98,L.g55),(147,L.g83),(148,L.g84),(149,L.g85),(182,L.aSu)]
theorem BZ:∀p∈evT,aD Tryz.prog p.1=some p.2:=by
 refine Ka.2 ⟨L.g1z,?_⟩;refine Ka.2 ⟨L.aVP,?_⟩;refine Ka.2 ⟨L.g8z,?_⟩;refine Ka.2 ⟨L.g5z,?_⟩;refine Ka.2 ⟨L.aUu,?_⟩;refine Ka.2 ⟨L.aUt,?_⟩;refine Ka.2 ⟨L.aUN,?_⟩;refine Ka.2 ⟨L.aUO,?_⟩;refine Ka.2 ⟨L.aUM,?_⟩;refine Ka.2 ⟨L.aUL,?_⟩;refine Ka.2 ⟨L.aUK,?_⟩;refine Ka.2 ⟨L.aUJ,?_⟩;refine Ka.2 ⟨L.aTk,?_⟩;refine Ka.2 ⟨L.aTj,?_⟩;refine Ka.2 ⟨L.aTh,?_⟩;refine Ka.2 ⟨L.aTi,?_⟩;refine Ka.2 ⟨L.aTf,?_⟩;refine Ka.2 ⟨L.aTe,?_⟩;refine Ka.2 ⟨L.aTd,?_⟩;refine Ka.2 ⟨L.aPz,?_⟩;refine Ka.2 ⟨L.aTg,?_⟩;refine Ka.2 ⟨L.aRt,?_⟩;refine Ka.2 ⟨L.aRs,?_⟩;refine Ka.2 ⟨L.aSc,?_⟩;refine Ka.2 ⟨L.aDl,?_⟩;refine Ka.2 ⟨L.aRl,?_⟩;refine Ka.2 ⟨L.aFW,?_⟩;refine Ka.2 ⟨L.aRm,?_⟩;refine Ka.2 ⟨L.aRd,?_⟩;refine Ka.2 ⟨L.aSd,?_⟩;refine Ka.2 ⟨L.aRf,?_⟩;refine Ka.2 ⟨L.aRe,?_⟩;refine Ka.2 ⟨L.aSh,?_⟩;refine Ka.2 ⟨L.aL3,?_⟩;refine Ka.2 ⟨L.aRh,?_⟩;refine Ka.2 ⟨L.aRc,?_⟩;refine Ka.2 ⟨L.aSg,?_⟩;refine Ka.2 ⟨L.aSf,?_⟩;refine Ka.2 ⟨L.aSa,?_⟩;refine Ka.2 ⟨L.aSZ,?_⟩;refine Ka.2 ⟨L.aTq,?_⟩;refine Ka.2 ⟨L.aR3,?_⟩;exact fun _ h=>absurd h Kb
def AC:ByteArray:=⟨#[112,40,88,44,32,90,41,32,58,45,32,101,40,88,44,32,89,41,44,32,101,40,89,44,32,90,41,46]⟩
def B4:List Tk:=[⟨2,⟨#[112]⟩,0⟩,⟨5,⟨#[40]⟩,1⟩,⟨3,⟨#[88]⟩,2⟩,⟨5,⟨#[44]⟩,3⟩,⟨3,⟨#[90]⟩,5⟩,⟨5,⟨#[41]⟩,6⟩,⟨5,⟨#[58,45]⟩,8⟩,⟨2,⟨#[101]⟩,11⟩,⟨5,⟨#[40]⟩,12⟩,⟨3,⟨#[88]⟩,13⟩,⟨5,⟨#[44]⟩,14⟩,⟨3,⟨#[89]⟩,16⟩,⟨5,⟨#[41]⟩,17⟩,⟨5,⟨#[44]⟩,18⟩,⟨2,⟨#[101]⟩,20⟩,⟨5,⟨#[40]⟩,21⟩,⟨3,⟨#[89]⟩,22⟩,⟨5,⟨#[44]⟩,23⟩,⟨3,⟨#[90]⟩,25⟩,⟨5,⟨#[41]⟩,26⟩,⟨5,⟨#[46]⟩,27⟩]
theorem B6:hP gK AC (bY AC 0)=(B4,none):=Zz
def Ct:Tr:=⟨⟨#[88]⟩,gR⟩
def Cs:Tr:=⟨⟨#[89]⟩,gR⟩
def Cr:Tr:=⟨⟨#[90]⟩,gR⟩
def Bq:Ex:= .mk 0 sk .nil []
def sc:Ru:=⟨⟨⟨#[112]⟩, .tok 73,[Ct,Cr]⟩,0,0, .tok 270,[⟨1,⟨⟨#[101]⟩, .tok 161,[Ct,Cs]⟩,0,Bq,Bq,11⟩,⟨1,⟨⟨#[101]⟩, .tok 255,[Cs,Cr]⟩,0,Bq,Bq,20⟩],0⟩
def AD:List PS:=[⟨1,0,[],[⟨#[88]⟩,⟨#[89]⟩],[]⟩,⟨1,1,[⟨#[88]⟩,⟨#[89]⟩],[⟨#[88]⟩,⟨#[89]⟩,⟨#[90]⟩],[0]⟩]
theorem Bp:xX sc= .tup [dJ sc.lo AD,dP 0]:=Zz
def Cu:ox:=[(115,[.str AC], .tup [.sl (.agg 3) .free (B4.map Tk.v), .int .i64 0, .nilIface]),(9,[sc.v], .tup [dJ sc.lo AD,dP 0]),(13,[dJ sc.lo AD],lst .leaf ((pW AD).map V.str))]
theorem Br:∀p∈Cu,aM Tryz.prog p.1 p.2.1 Hp.none p.2.2:=by
 refine Ka.2 ⟨?_,Ka.2 ⟨?_,Ka.2 ⟨az sc.lo AD ZM ZM _,fun _ h=>absurd h Kb⟩⟩⟩
 ·have h:=tQ AC Hp.none;have e:qC AC= .tup [.sl (.agg 3) .free (B4.map Tk.v), .int .i64 0, .nilIface]:=by
   unfold qC;rw[if_neg ZM,B6];rfl
  rw[e] at h;exact h
 have h:=vH sc Hp.none;rw[Bp] at h;exact h
def Cv:Bool:=match evF evT Cu 1000 60 7 [] [] 0 with
 |some (.bool b,_,_)=>b
 |_=>false
theorem B5:Cv=true:=Zz
theorem i8(h:Hp):aM Tryz.prog 7 [] h (.bool true):=by
 have e:=B5;unfold Cv at e;split at e
 ·rename_i b l a he;subst e;have c:=Ah BZ Br 60 _ _ _ _ _ _ _ he;have p:=u5 (c.mono fun v h' nx' _ hv=>hv.1);exact p.mono (aZ h)
 cases e
end Go.Proofs.YtgbiopfghdilnaaGreatDoor
