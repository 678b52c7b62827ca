/-
Texts of this proof,one behind the other. No conditions.
-/
import Derived.Test.YtgbiopfghdilnaaGreatDoorKd
import Derived.Test.YtgbiopfghdilnaaGreatDoorKo
import Derived.Test.YtgbiopfghdilnaaGreatDoorKj
import Derived.Test.YtgbiopfghdilnaaGreatDoorKev
import Derived.Test.YtgbiopfghdilnaaGreatDoorKh
open List renaming forall_mem_cons→Ka,not_mem_nil→Kb
open Nat renaming reduceAdd→jA,reduceSub→jB
open List renaming length_map→jK,length_cons→jL,length_nil→jM,replicate_succ→jN,replicate_zero→jO,cons_append→jP,nil_append→jQ
set_option linter.unusedSimpArgs false
set_option linter.unusedVariables false
set_option linter.unusedSectionVars false
set_option maxHeartbeats 8000000
namespace Go.Proofs.YtgbiopfghdilnaaGreatDoor
open Go.RowKit Go.Sort
attribute [local irreducible] IntKind.wrap
set_option maxHeartbeats 4000000
def gV(ps:List PS):List ByteArray:=(ps.getD (ps.length-1) default).wt
theorem qQ(r:Ru)(ps:List PS)(hp:ps.length≤1000)(hw:(gV ps).length≤1000000000)(h:Hp):aI Tryz.prog 13 [gW r ps] h (lst .leaf ((gV ps).map V.str)):=by
 refine aH (fun L=>bO (fun L=>aS (f:=V.str) (fun _=>trivial) _) L) fun h' nx hh=>aC L.g7z fun hd=>?_;obtain⟨oS,hoS⟩:=bR (.agg 5) (ps.map PS.v);unfold gW;rw[hoS];simp only[jL,jM,jA,jB,jN,jO,jP,jQ,V.undef];by_cases hlp:ps.length=0
 ·have hz:((ps.length:Int)==0)=true:=by rw[hlp];rfl
  have aAl:ps=[]:=List.length_eq_zero_iff.1 hlp;refine aue (e3 trs.eq_1 hz (@jK PS V)) ?_;refine aB h' (leo hd) ⟨?_,rfl⟩;rw[aAl];rfl
 have hlp:0<ps.length:=or;have hz:((ps.length:Int)==0)=false:=bqf;have hg:(ps.map PS.v).getD (ps.length-1) (.tup [])=(ps.getD (ps.length-1) default).v:=by
  rw[aM PS.v ps (ps.length-1) or,List.getD_eq_getElem?_getD,List.getElem?_eq_getElem or];rfl
 have hw1:IntKind.i64.wrap ((ps.length:Int)-1)=((ps.length-1:Nat):Int):=by
  rw[(wrp:IntKind.i64.wrap ((ps.length:Int)-1)=(ps.length:Int)-1)];omega
 obtain⟨ow,how⟩:=bR .leaf ((gV ps).map V.str);have C1:∀h:Hp,aI Tryz.prog 39 [.sl .leaf ow ((gV ps).map V.str)] h (V.sl .leaf ow ((gV ps).map V.str)).loose:=fun h=>uf vw or ow _ (by rw[jK];omega) (fun e=>by rw[e] at how;cases hm:(gV ps).map V.str with|nil=>rfl|cons a b=>rw[hm] at how;cases how) (fun L=>aS (f:=V.str) (fun _=>trivial) _) h;have hll:(V.sl .leaf ow ((gV ps).map V.str)).loose=lst .leaf ((gV ps).map V.str):=by rw[←how];unfold lst;split<;>rfl
 rw[hll] at C1;have hwt:(ps.getD (ps.length-1) default).v.cell 3= .sl .leaf ow ((gV ps).map V.str):=how;generalize (ps.getD (ps.length-1) default).v=s at hg hwt;have n0:ps.length-1<ps.length:=or;refine aue (e7 trs.eq_1 hz hg hw1 hwt n0 (@jK PS V)) ?_;exact aB h' (leo hd) ⟨rfl,rfl⟩
end Go.Proofs.YtgbiopfghdilnaaGreatDoor
namespace Go.Proofs.YtgbiopfghdilnaaGreatDoor
open Go.RowKit
set_option maxRecDepth 100000
def evT:List (Nat×LFn):=[(7,L.g1),(33,L.g14),(18,L.g12),(11,L.g5),(74,L.g35),(75,L.g36),(117,L.g61),(116,L.g60),(118,L.g62),(119,L.g63),(120,L.g64),(121,L.g65),(160,L.g93),(161,L.g94),(163,L.g96),(162,L.g95),(165,L.g98),(166,L.g99),(167,L.aT6),(82,L.g43),(164,L.g97),(189,L.aT1),(190,L.aT0),(128,L.g71),(188,L.aT2),(205,L.aTy),(172,L.aT4),(204,L.aTz),(219,L.aTt),(124,L.g68),(217,L.aTv),(218,L.aTu),(54,L.g33),(170,L.aT5),(212,L.aTw),(226,L.aTs),(97,L.g55),(98,L.g56),(147,L.g87),(148,L.g88),(149,L.g89),(182,L.aT3)]
theorem CC:∀p∈evT,aF Tryz.prog p.1=some p.2:=by
 refine Ka.2 ⟨L.g1z,?_⟩;refine Ka.2 ⟨L.aWo,?_⟩;refine Ka.2 ⟨L.aTx,?_⟩;refine Ka.2 ⟨L.g5z,?_⟩;refine Ka.2 ⟨L.aWN,?_⟩;refine Ka.2 ⟨L.aWM,?_⟩;refine Ka.2 ⟨L.aVo,?_⟩;refine Ka.2 ⟨L.aVp,?_⟩;refine Ka.2 ⟨L.aVn,?_⟩;refine Ka.2 ⟨L.aVm,?_⟩;refine Ka.2 ⟨L.aVl,?_⟩;refine Ka.2 ⟨L.aVk,?_⟩;refine Ka.2 ⟨L.aU5,?_⟩;refine Ka.2 ⟨L.aU4,?_⟩;refine Ka.2 ⟨L.aU2,?_⟩;refine Ka.2 ⟨L.aU3,?_⟩;refine Ka.2 ⟨L.aU0,?_⟩;refine Ka.2 ⟨L.aUz,?_⟩;refine Ka.2 ⟨L.aS9,?_⟩;refine Ka.2 ⟨L.aQu,?_⟩;refine Ka.2 ⟨L.aU1,?_⟩;refine Ka.2 ⟨L.aSs,?_⟩;refine Ka.2 ⟨L.aSr,?_⟩;refine Ka.2 ⟨L.aTl,?_⟩;refine Ka.2 ⟨L.aEF,?_⟩;refine Ka.2 ⟨L.aSW,?_⟩;refine Ka.2 ⟨L.aGP,?_⟩;refine Ka.2 ⟨L.aSX,?_⟩;refine Ka.2 ⟨L.aSE,?_⟩;refine Ka.2 ⟨L.aTm,?_⟩;refine Ka.2 ⟨L.aSG,?_⟩;refine Ka.2 ⟨L.aSF,?_⟩;refine Ka.2 ⟨L.aTq,?_⟩;refine Ka.2 ⟨L.aNY,?_⟩;refine Ka.2 ⟨L.aSI,?_⟩;refine Ka.2 ⟨L.aR7,?_⟩;refine Ka.2 ⟨L.aTp,?_⟩;refine Ka.2 ⟨L.aTo,?_⟩;refine Ka.2 ⟨L.aTj,?_⟩;refine Ka.2 ⟨L.aTi,?_⟩;refine Ka.2 ⟨L.aVA,?_⟩;refine Ka.2 ⟨L.aSw,?_⟩;exact fun _ h=>absurd h Kb
def Bj:ByteArray:=⟨#[112,40,88,44,32,90,41,32,58,45,32,101,40,88,44,32,89,41,44,32,101,40,89,44,32,90,41,46]⟩
def CK:List Tk:=[⟨2,⟨#[112]⟩,0⟩,⟨5,⟨#[40]⟩,1⟩,⟨3,⟨#[88]⟩,2⟩,⟨5,⟨#[44]⟩,3⟩,⟨3,⟨#[90]⟩,5⟩,⟨5,⟨#[41]⟩,6⟩,⟨5,⟨#[58,45]⟩,8⟩,⟨2,⟨#[101]⟩,11⟩,⟨5,⟨#[40]⟩,12⟩,⟨3,⟨#[88]⟩,13⟩,⟨5,⟨#[44]⟩,14⟩,⟨3,⟨#[89]⟩,16⟩,⟨5,⟨#[41]⟩,17⟩,⟨5,⟨#[44]⟩,18⟩,⟨2,⟨#[101]⟩,20⟩,⟨5,⟨#[40]⟩,21⟩,⟨3,⟨#[89]⟩,22⟩,⟨5,⟨#[44]⟩,23⟩,⟨3,⟨#[90]⟩,25⟩,⟨5,⟨#[41]⟩,26⟩,⟨5,⟨#[46]⟩,27⟩]
theorem CM:eT iD Bj (bL Bj 0)=(CK,none):=Zz
def Dh:Tr:=⟨⟨#[88]⟩,uv⟩
def Dg:Tr:=⟨⟨#[89]⟩,uv⟩
def Df:Tr:=⟨⟨#[90]⟩,uv⟩
def B9:Ex:= .mk 0 kw .nil []
def ul:Ru:=⟨⟨⟨#[112]⟩, .tok 73,[Dh,Df]⟩,0,0, .tok 270,[⟨1,⟨⟨#[101]⟩, .tok 161,[Dh,Dg]⟩,0,B9,B9,11⟩,⟨1,⟨⟨#[101]⟩, .tok 255,[Dg,Df]⟩,0,B9,B9,20⟩],0⟩
def Bk:List PS:=[⟨1,0,[],[⟨#[88]⟩,⟨#[89]⟩],[]⟩,⟨1,1,[⟨#[88]⟩,⟨#[89]⟩],[⟨#[88]⟩,⟨#[89]⟩,⟨#[90]⟩],[0]⟩]
theorem B8:yW ul= .tup [gW ul.lo Bk,cq 0]:=Zz
def Di:qt:=[(115,[.str Bj], .tup [.sl (.agg 3) .free (CK.map Tk.v), .int .i64 0, .nilIface]),(9,[ul.v], .tup [gW ul.lo Bk,cq 0]),(13,[gW ul.lo Bk],lst .leaf ((gV Bk).map V.str))]
theorem Ca:∀p∈Di,aI Tryz.prog p.1 p.2.1 Hp.none p.2.2:=by
 refine Ka.2 ⟨?_,Ka.2 ⟨?_,Ka.2 ⟨qQ ul.lo Bk ZM ZM _,fun _ h=>absurd h Kb⟩⟩⟩
 ·have h:=uZ Bj Hp.none;have e:qT Bj= .tup [.sl (.agg 3) .free (CK.map Tk.v), .int .i64 0, .nilIface]:=by
   unfold qT;rw[if_neg ZM,CM];rfl
  rw[e] at h;exact h
 have h:=wB ul Hp.none;rw[B8] at h;exact h
def Dk:Bool:=match evF evT Di 1000 60 7 [] [] 0 with
 |some (.bool b,_,_)=>b
 |_=>false
theorem CL:Dk=true:=Zz
theorem kj(h:Hp):aI Tryz.prog 7 [] h (.bool true):=by
 have e:=CL;unfold Dk at e;split at e
 ·rename_i b l a he;subst e;have c:=A3 CC Ca 60 _ _ _ _ _ _ _ he;have p:=xi (c.mono fun v h' nx' _ hv=>hv.1);exact p.mono (aZ h)
 cases e
end Go.Proofs.YtgbiopfghdilnaaGreatDoor
