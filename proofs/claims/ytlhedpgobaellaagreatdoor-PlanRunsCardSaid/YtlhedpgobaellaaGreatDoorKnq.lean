/-
Texts of this proof,one behind the other. No conditions.
-/
import Derived.Test.YtlhedpgobaellaaGreatDoorKev
import Derived.Test.YtlhedpgobaellaaGreatDoorKk2
open List renaming forall_mem_cons→Ka,not_mem_nil→Kb
namespace Go.Proofs.YtlhedpgobaellaaGreatDoor
open Go.RowKit
set_option maxRecDepth 100000
def evT:List (Nat×LFn):=[(28,L.g11),(38,L.g20),(67,L.g36),(68,L.g37),(84,L.g52),(85,L.g53),(132,L.g82),(131,L.g81),(133,L.g83),(134,L.g84),(135,L.g85),(136,L.g86),(195,L.aYf),(196,L.aYe),(198,L.aYc),(197,L.aYd),(200,L.aYa),(201,L.aYZ),(202,L.aYY),(125,L.g75),(199,L.aYb),(243,L.aYR),(244,L.aYQ),(142,L.g92),(242,L.aYS),(260,L.aYN),(204,L.aYX),(259,L.aYO),(276,L.aYJ),(179,L.g99),(274,L.aYL),(275,L.aYK),(94,L.g62),(225,L.aYT),(269,L.aYM),(285,L.aYI),(143,L.g93),(144,L.g94),(205,L.aYW),(206,L.aYV),(207,L.aYU),(247,L.aYP)]
theorem HA:∀p∈evT,aE Tryz.prog p.1=some p.2:=by
 refine Ka.2 ⟨L.bB9,?_⟩;refine Ka.2 ⟨L.bBY,?_⟩;refine Ka.2 ⟨L.bBJ,?_⟩;refine Ka.2 ⟨L.bBI,?_⟩;refine Ka.2 ⟨L.bAv,?_⟩;refine Ka.2 ⟨L.bAu,?_⟩;refine Ka.2 ⟨L.bAA,?_⟩;refine Ka.2 ⟨L.bAB,?_⟩;refine Ka.2 ⟨L.aZ9,?_⟩;refine Ka.2 ⟨L.aZ8,?_⟩;refine Ka.2 ⟨L.aZ7,?_⟩;refine Ka.2 ⟨L.aZ6,?_⟩;refine Ka.2 ⟨L.aXK,?_⟩;refine Ka.2 ⟨L.aXJ,?_⟩;refine Ka.2 ⟨L.aXH,?_⟩;refine Ka.2 ⟨L.aXI,?_⟩;refine Ka.2 ⟨L.aXF,?_⟩;refine Ka.2 ⟨L.aXE,?_⟩;refine Ka.2 ⟨L.aXD,?_⟩;refine Ka.2 ⟨L.aR9,?_⟩;refine Ka.2 ⟨L.aXG,?_⟩;refine Ka.2 ⟨L.aWp,?_⟩;refine Ka.2 ⟨L.aWo,?_⟩;refine Ka.2 ⟨L.aYB,?_⟩;refine Ka.2 ⟨L.aEG,?_⟩;refine Ka.2 ⟨L.aWZ,?_⟩;refine Ka.2 ⟨L.aGI,?_⟩;refine Ka.2 ⟨L.aWa,?_⟩;refine Ka.2 ⟨L.aWR,?_⟩;refine Ka.2 ⟨L.aX8,?_⟩;refine Ka.2 ⟨L.aWT,?_⟩;refine Ka.2 ⟨L.aWS,?_⟩;refine Ka.2 ⟨L.aYD,?_⟩;refine Ka.2 ⟨L.aNd,?_⟩;refine Ka.2 ⟨L.aWV,?_⟩;refine Ka.2 ⟨L.aWQ,?_⟩;refine Ka.2 ⟨L.aYA,?_⟩;refine Ka.2 ⟨L.aX9,?_⟩;refine Ka.2 ⟨L.aOA,?_⟩;refine Ka.2 ⟨L.aN5,?_⟩;refine Ka.2 ⟨L.aXB,?_⟩;refine Ka.2 ⟨L.aWl,?_⟩;exact fun _ h=>absurd h Kb
def FK:ByteArray:=⟨#[112,40,88,44,32,90,41,32,58,45,32,101,40,88,44,32,89,41,44,32,101,40,89,44,32,90,41,46]⟩
def HH:List Tk:=[⟨2,⟨#[112]⟩,0⟩,⟨5,⟨#[40]⟩,1⟩,⟨3,⟨#[88]⟩,2⟩,⟨5,⟨#[44]⟩,3⟩,⟨3,⟨#[90]⟩,5⟩,⟨5,⟨#[41]⟩,6⟩,⟨5,⟨#[58,45]⟩,8⟩,⟨2,⟨#[101]⟩,11⟩,⟨5,⟨#[40]⟩,12⟩,⟨3,⟨#[88]⟩,13⟩,⟨5,⟨#[44]⟩,14⟩,⟨3,⟨#[89]⟩,16⟩,⟨5,⟨#[41]⟩,17⟩,⟨5,⟨#[44]⟩,18⟩,⟨2,⟨#[101]⟩,20⟩,⟨5,⟨#[40]⟩,21⟩,⟨3,⟨#[89]⟩,22⟩,⟨5,⟨#[44]⟩,23⟩,⟨3,⟨#[90]⟩,25⟩,⟨5,⟨#[41]⟩,26⟩,⟨5,⟨#[46]⟩,27⟩]
theorem HJ:kN jT FK (cO FK 0)=(HH,none):=Zz
def Ig:Tr:=⟨⟨#[88]⟩,oQ⟩
def If:Tr:=⟨⟨#[89]⟩,oQ⟩
def Ie:Tr:=⟨⟨#[90]⟩,oQ⟩
def GQ:Ex:= .mk 0 AS .nil []
def AI:Ru:=⟨⟨⟨#[112]⟩, .tok 73,[Ig,Ie]⟩,0,0, .tok 270,[⟨1,⟨⟨#[101]⟩, .tok 161,[Ig,If]⟩,0,GQ,GQ,11⟩,⟨1,⟨⟨#[101]⟩, .tok 255,[If,Ie]⟩,0,GQ,GQ,20⟩],0⟩
def FL:List PS:=[⟨1,0,[],[⟨#[88]⟩,⟨#[89]⟩],[]⟩,⟨1,1,[⟨#[88]⟩,⟨#[89]⟩],[⟨#[88]⟩,⟨#[89]⟩,⟨#[90]⟩],[0]⟩]
theorem GP:d8 AI= .tup [dH AI.lo FL,dC 0]:=Zz
def Ih:yb:=[(130,[.str FK], .tup [.sl (.agg 3) .free (HH.map Tk.v), .int .i64 0, .nilIface]),(29,[AI.v], .tup [dH AI.lo FL,dC 0]),(69,[dH AI.lo FL],lst .leaf ((gD FL).map V.str))]
theorem GR:∀p∈Ih,aM Tryz.prog p.1 p.2.1 Hp.none p.2.2:=by
 refine Ka.2 ⟨?_,Ka.2 ⟨?_,Ka.2 ⟨tK AI.lo FL ZM ZM _,fun _ h=>absurd h Kb⟩⟩⟩
 ·have h:=yP FK Hp.none;have e:tO FK= .tup [.sl (.agg 3) .free (HH.map Tk.v), .int .i64 0, .nilIface]:=by
   unfold tO;rw[if_neg ZM,HJ];rfl
  rw[e] at h;exact h
 have h:=zO AI Hp.none;rw[GP] at h;exact h
def Ii:Bool:=match evF evT Ih 1000 60 28 [] [] 0 with
 |some (.bool b,_,_)=>b
 |_=>false
theorem HI:Ii=true:=Zz
theorem rm(h:Hp):aM Tryz.prog 28 [] h (.bool true):=by
 have e:=HI;unfold Ii at e;split at e
 ·rename_i b l a he;subst e;have c:=Fk HA GR 60 _ _ _ _ _ _ _ he;have p:=Cb (c.mono fun v h' nx' _ hv=>hv.1);exact p.mono (bH h)
 cases e
end Go.Proofs.YtlhedpgobaellaaGreatDoor
