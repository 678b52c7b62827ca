/-
Texts of this proof,one behind the other. No conditions.
-/
import Derived.Test.YtgbiopfghdilnaaGreatDoorKk
import Derived.Test.YtgbiopfghdilnaaGreatDoorKev
open List renaming forall_mem_cons→Ka,not_mem_nil→Kb
open List renaming length_map→jK
set_option linter.all false
set_option maxHeartbeats 8000000
namespace Go.Proofs.YtgbiopfghdilnaaGreatDoor
open Go.RowKit Go.Sort
attribute [local irreducible] IntKind.wrap
def eB(ps:List PS):List ByteArray:=(ps.getD (ps.length-1) default).wt
theorem tA(r:Ru)(ps:List PS)(hp:ps.length≤1000)(hw:(eB ps).length≤1000000000)(h:Hp):aK Tryz.prog 13 [eA r ps] h (lst .leaf ((eB ps).map V.str)):=by
 refine aH (fun L=>bV (fun L=>aT (f:=V.str) (fun _=>trivial) _) L) fun h' nx hh=>aB L.g7z fun hd=>?_;obtain⟨oS,hoS⟩:=bQ (.agg 5) (ps.map PS.v);unfold eA;rw[hoS];refine ZK ?_;by_cases hlp:ps.length=0
 ·have hz:((ps.length:Int)==0)=true:=by rw[hlp];rfl
  have aAr:ps=[]:=List.length_eq_zero_iff.1 hlp;refine aue (e3 trs.eq_1 hz (@jK PS V)) ?_;refine aC h' (leo hd) ⟨?_,rfl⟩;rw[aAr];rfl
 have hlp:0<ps.length:=or;have hz:((ps.length:Int)==0)=false:=bqf;have hg:(ps.map PS.v).getD (ps.length-1) (.tup [])=(ps.getD (ps.length-1) default).v:=by
  rw[aJ PS.v ps (ps.length-1) or,List.getD_eq_getElem?_getD,List.getElem?_eq_getElem or];rfl
 have hw1:IntKind.i64.wrap ((ps.length:Int)-1)=((ps.length-1:Nat):Int):=by
  rw[(wrp:IntKind.i64.wrap ((ps.length:Int)-1)=(ps.length:Int)-1)];omega
 obtain⟨ow,how⟩:=bQ .leaf ((eB ps).map V.str);have C1:∀h:Hp,aK Tryz.prog 39 [.sl .leaf ow ((eB ps).map V.str)] h (V.sl .leaf ow ((eB ps).map V.str)).loose:=fun h=>AS Bt or ow _ (by rw[jK];omega) (fun e=>by rw[e] at how;cases hm:(eB ps).map V.str with|nil=>rfl|cons a b=>rw[hm] at how;cases how) (fun L=>aT (f:=V.str) (fun _=>trivial) _) h;have hll:(V.sl .leaf ow ((eB ps).map V.str)).loose=lst .leaf ((eB ps).map V.str):=by rw[←how];unfold lst;split<;>rfl
 rw[hll] at C1;have hwt:(ps.getD (ps.length-1) default).v.cell 3= .sl .leaf ow ((eB ps).map V.str):=how;generalize (ps.getD (ps.length-1) default).v=s at hg hwt;have n0:ps.length-1<ps.length:=or;refine aue (e7 trs.eq_1 hz hg hw1 hwt n0 (@jK PS V)) ?_;exact aC h' (leo hd) ⟨rfl,rfl⟩
end Go.Proofs.YtgbiopfghdilnaaGreatDoor
namespace Go.Proofs.YtgbiopfghdilnaaGreatDoor
open Go.RowKit
set_option maxRecDepth 100000
def evT:List (Nat×LFn):=[(7,L.g1),(33,L.g25),(18,L.g12),(11,L.g5),(74,L.g63),(75,L.g64),(117,L.g99),(116,L.g98),(118,L.bBf),(119,L.bBe),(120,L.bBd),(121,L.bBc),(160,L.bBW),(161,L.bBV),(163,L.bBT),(162,L.bBU),(165,L.bBR),(166,L.bBQ),(167,L.bBP),(82,L.g71),(164,L.bBS),(189,L.bBK),(190,L.bBJ),(128,L.bBa),(188,L.bBL),(205,L.bBH),(172,L.bBN),(204,L.bBI),(219,L.bBD),(124,L.bBb),(217,L.bBF),(218,L.bBE),(54,L.g44),(170,L.bBO),(212,L.bBG),(226,L.bBC),(97,L.g83),(98,L.g84),(147,L.bBZ),(148,L.bBY),(149,L.bBX),(182,L.bBM)]
theorem GW:∀p∈evT,aE Tryz.prog p.1=some p.2:=by
 refine Ka.2 ⟨L.g1z,?_⟩;refine Ka.2 ⟨L.bEJ,?_⟩;refine Ka.2 ⟨L.bFA,?_⟩;refine Ka.2 ⟨L.g5z,?_⟩;refine Ka.2 ⟨L.bDO,?_⟩;refine Ka.2 ⟨L.bDN,?_⟩;refine Ka.2 ⟨L.bCa,?_⟩;refine Ka.2 ⟨L.bCb,?_⟩;refine Ka.2 ⟨L.bAZ,?_⟩;refine Ka.2 ⟨L.bAY,?_⟩;refine Ka.2 ⟨L.bAX,?_⟩;refine Ka.2 ⟨L.bAW,?_⟩;refine Ka.2 ⟨L.aZk,?_⟩;refine Ka.2 ⟨L.aZj,?_⟩;refine Ka.2 ⟨L.aZh,?_⟩;refine Ka.2 ⟨L.aZi,?_⟩;refine Ka.2 ⟨L.aZa,?_⟩;refine Ka.2 ⟨L.aZZ,?_⟩;refine Ka.2 ⟨L.aZY,?_⟩;refine Ka.2 ⟨L.aTl,?_⟩;refine Ka.2 ⟨L.aZb,?_⟩;refine Ka.2 ⟨L.aZF,?_⟩;refine Ka.2 ⟨L.aZE,?_⟩;refine Ka.2 ⟨L.aQe,?_⟩;refine Ka.2 ⟨L.aEP,?_⟩;refine Ka.2 ⟨L.aY5,?_⟩;refine Ka.2 ⟨L.aGk,?_⟩;refine Ka.2 ⟨L.aY6,?_⟩;refine Ka.2 ⟨L.aYo,?_⟩;refine Ka.2 ⟨L.aQq,?_⟩;refine Ka.2 ⟨L.aYq,?_⟩;refine Ka.2 ⟨L.aYp,?_⟩;refine Ka.2 ⟨L.bA9,?_⟩;refine Ka.2 ⟨L.aOK,?_⟩;refine Ka.2 ⟨L.aYs,?_⟩;refine Ka.2 ⟨L.aYm,?_⟩;refine Ka.2 ⟨L.bA7,?_⟩;refine Ka.2 ⟨L.bA6,?_⟩;refine Ka.2 ⟨L.aPQ,?_⟩;refine Ka.2 ⟨L.aPF,?_⟩;refine Ka.2 ⟨L.aZz,?_⟩;refine Ka.2 ⟨L.aZM,?_⟩;exact fun _ h=>absurd h Kb
def Fm:ByteArray:=⟨#[112,40,88,44,32,90,41,32,58,45,32,101,40,88,44,32,89,41,44,32,101,40,89,44,32,90,41,46]⟩
def G2:List Tk:=[⟨2,⟨#[112]⟩,0⟩,⟨5,⟨#[40]⟩,1⟩,⟨3,⟨#[88]⟩,2⟩,⟨5,⟨#[44]⟩,3⟩,⟨3,⟨#[90]⟩,5⟩,⟨5,⟨#[41]⟩,6⟩,⟨5,⟨#[58,45]⟩,8⟩,⟨2,⟨#[101]⟩,11⟩,⟨5,⟨#[40]⟩,12⟩,⟨3,⟨#[88]⟩,13⟩,⟨5,⟨#[44]⟩,14⟩,⟨3,⟨#[89]⟩,16⟩,⟨5,⟨#[41]⟩,17⟩,⟨5,⟨#[44]⟩,18⟩,⟨2,⟨#[101]⟩,20⟩,⟨5,⟨#[40]⟩,21⟩,⟨3,⟨#[89]⟩,22⟩,⟨5,⟨#[44]⟩,23⟩,⟨3,⟨#[90]⟩,25⟩,⟨5,⟨#[41]⟩,26⟩,⟨5,⟨#[46]⟩,27⟩]
theorem G4:fI jT Fm (bW Fm 0)=(G2,none):=Zz
def Hr:Tr:=⟨⟨#[88]⟩,eX⟩
def Hq:Tr:=⟨⟨#[89]⟩,eX⟩
def Ho:Tr:=⟨⟨#[90]⟩,eX⟩
def Gi:Ex:= .mk 0 ry .nil []
def A0:Ru:=⟨⟨⟨#[112]⟩, .tok 73,[Hr,Ho]⟩,0,0, .tok 270,[⟨1,⟨⟨#[101]⟩, .tok 161,[Hr,Hq]⟩,0,Gi,Gi,11⟩,⟨1,⟨⟨#[101]⟩, .tok 255,[Hq,Ho]⟩,0,Gi,Gi,20⟩],0⟩
def Fo:List PS:=[⟨1,0,[],[⟨#[88]⟩,⟨#[89]⟩],[]⟩,⟨1,1,[⟨#[88]⟩,⟨#[89]⟩],[⟨#[88]⟩,⟨#[89]⟩,⟨#[90]⟩],[0]⟩]
theorem Gh:ez A0= .tup [eA A0.lo Fo,eF 0]:=Zz
def Hs:yb:=[(115,[.str Fm], .tup [.sl (.agg 3) .free (G2.map Tk.v), .int .i64 0, .nilIface]),(9,[A0.v], .tup [eA A0.lo Fo,eF 0]),(13,[eA A0.lo Fo],lst .leaf ((eB Fo).map V.str))]
theorem Gj:∀p∈Hs,aK Tryz.prog p.1 p.2.1 Hp.none p.2.2:=by
 refine Ka.2 ⟨?_,Ka.2 ⟨?_,Ka.2 ⟨tA A0.lo Fo ZM ZM _,fun _ h=>absurd h Kb⟩⟩⟩
 ·have h:=yE Fm Hp.none;have e:tF Fm= .tup [.sl (.agg 3) .free (G2.map Tk.v), .int .i64 0, .nilIface]:=by
   unfold tF;rw[if_neg ZM,G4];rfl
  rw[e] at h;exact h
 have h:=zM A0 Hp.none;rw[Gh] at h;exact h
def Ht:Bool:=match evF evT Hs 1000 60 7 [] [] 0 with
 |some (.bool b,_,_)=>b
 |_=>false
theorem G3:Ht=true:=Zz
theorem rr(h:Hp):aK Tryz.prog 7 [] h (.bool true):=by
 have e:=G3;unfold Ht at e;split at e
 ·rename_i b l a he;subst e;have c:=EY GW Gj 60 _ _ _ _ _ _ _ he;have p:=Cb (c.mono fun v h' nx' _ hv=>hv.1);exact p.mono (bD h)
 cases e
end Go.Proofs.YtgbiopfghdilnaaGreatDoor
