/-
The functions of the code,lowered:printed by a program,checked by the kernel. No conditions.
-/
import Derived.Test.YtjfdoohogiojcaaGreatDoorKcb
import Derived.Test.YtjfdoohogiojcaaGreatDoorProg
namespace Go.Proofs.YtjfdoohogiojcaaGreatDoor
open Go.RowKit
open aK renaming slot→s,const→c
open aY renaming move→m,load→l,fldA→f,bin→b,eq→e,idxA→i,pick→p,ext→q,nilCheck→n,len→w
open LOp renaming val→v,call→k,box→x,bslice→y,append→a,store→t
open aJ renaming seq→Q,ops→O,cond→C,block→K,loop→R,skip→Z,exit→X,draw→D
open Sh renaming leaf→F
open V renaming int→I
open Go.IntKind renaming i64→j
open Option renaming some→S,none→N
namespace L
abbrev A(n:Nat)(x:aY):aA:=⟨S n,N,v x⟩
abbrev M(n i:Nat):=A n (m (s i))
abbrev E(n i:Nat):=A n (l F (s i))
abbrev G(n k i:Nat):=A n (l (.agg k) (s i))
abbrev H(n k i:Nat):=A n (f k (s i))
abbrev W(k i o:Nat):aA:=⟨N,N,t (.agg k) (s i) (s o)⟩
abbrev Y(n k i:Nat):aA:=⟨S n,N,x (.agg k) (s i)⟩
abbrev P(n i:Nat)(x:List aK):aA:=⟨S n,N,k i x⟩
abbrev T(n i:Nat)(x:aY):aA:=⟨S n,S (i,true),v x⟩
abbrev U(n i:Nat)(x:aY):aA:=⟨S n,S (i,false),v x⟩
abbrev B(n:Int):=c (I j n)
abbrev Ba:=c (.bool false)
abbrev Bb:=c (.bool true)
abbrev Z3:List Nat:=[0,1,2]
abbrev Z4:List Nat:=[0,1,2,3]
abbrev Z5:List Nat:=[0,1,2,3,4]
abbrev Z6:List Nat:=[0,1,2,3,4,5]
abbrev Z8:List Nat:=[0,1,2,3,4,5,6,7]
abbrev Z9:List Nat:=[0,1,2,3,4,5,6,7,8]
abbrev Z11:List Nat:=[0,1,2,3,4,5,6,7,8,9,10]
abbrev Z14:List Nat:=[0,1,2,3,4,5,6,7,8,9,10,11,12,13]
abbrev Z15:List Nat:=[0,1,2,3,4,5,6,7,8,9,10,11,12,13,14]
abbrev LA:=List aA
abbrev LD:=List (aA×List Nat)
abbrev lA(n i o:Nat):=A n (b .lss (s i) (s o))
abbrev lB(n i:Nat):=A n (b .add (s i) (B 1))
abbrev lC(n k o z:Nat):=A n (i (.agg k) (s o) (s z))
abbrev lE(n o z:Nat):=A n (i F (s o) (s z))
abbrev lF(n:Nat)(z:Int):=A n (m (B z))
abbrev lG(n:Nat):=A n (m Ba)
abbrev lH(n i o:Nat):=A n (p (s i) Bb (s o))
abbrev lI(n i o:Nat):=A n (p (s i) (s o) Ba)
abbrev lJ(n i o:Nat):=T n i (m (s o))
abbrev lK(n i o:Nat):=T n i (l F (s o))
abbrev lL(n i k o:Nat):=T n i (f k (s o))
abbrev lM(n i o:Nat):=U n i (m (s o))
abbrev lN(n i o:Nat):=U n i (l F (s o))
abbrev lO(n i k o:Nat):=U n i (f k (s o))
abbrev lP(n i:Nat):=A n (w (s i))
abbrev lQ(n i o:Nat):=A n (q (s i) o)
abbrev lS(n k z i o:Nat):aA:=⟨S n,N,a (.agg k) z (s i) (s o)⟩
attribute[go_sem] A M E G H W Y P T U B Ba Bb Z3 Z4 Z5 Z6 Z8 Z9 Z11 Z14 Z15 lA lB lC lE lF lG lH lI lJ lK lL lM lN lO lP lQ lS
abbrev aQw:LA:=[Y 2 6 0,lG 4]
abbrev aT4:LA:=[P 17 4 [],A 18 (.not (s 17))]
abbrev aCc:LA:=[lG 4]
abbrev aT3:LA:=[G 19 6 2,P 20 5 [s 19,(B 300)],A 21 (b .lss (s 20) (B 0)),M 22 21,lM 23 22 1,U 24 22 (w (s 23)),U 25 22 (b .gtr (s 24) (B 40)),lH 26 22 25]
abbrev aGy:LA:=[A 4 (m Bb)]
abbrev aT2:LA:=[⟨S 27,N,y F []⟩,M 5 27]
abbrev aT1:LA:=[M 28 1,lP 29 28,lF 30 0]
abbrev aT0:LA:=[lA 31 30 29]
abbrev aTz:LA:=[lE 32 28 30,E 33 32,M 7 33]
abbrev aTy:LA:=[M 34 7,P 35 6 [s 34]]
abbrev aQF:LA:=[M 36 5,M 37 7,P 38 7 [s 37],⟨S 39,N,y F [s 38]⟩,⟨S 40,N,a F 8 (s 36) (s 39)⟩,M 5 40]
abbrev aQE:LA:=[lB 41 30,M 30 41]
abbrev aT5:aJ:=(Q (O aT0) (Q (C (s 31) Z (X 0)) (Q (K 1 (Q (O aTz) (Q (Q (O aTy) (C (s 35) (Q (O aGy) .ret) Z)) (O aQF)))) (O aQE))))
abbrev aQD:LA:=[G 42 6 2,P 43 8 [s 42],⟨S 8,N,x (.agg 6) (c (.agg [(.str ⟨#[]⟩),(.sl (.agg 4) .nil []),(I j 0),(I j 0),(.sl (.agg 17) .nil []),(I j 0)]))⟩,W 6 8 43]
abbrev aQC:LA:=[G 45 6 2,M 46 5,P 47 9 [s 45,s 46],M 44 47,lQ 48 44 0,lQ 49 44 1,M 9 48,M 10 49]
abbrev aQB:LA:=[G 51 6 2,M 52 5,P 53 10 [s 51,s 52],M 50 53,lQ 54 50 0,lQ 55 50 1,M 11 54,M 12 55]
abbrev aQA:LA:=[G 57 6 8,M 58 1,P 59 11 [s 57,s 58],M 56 59,lQ 60 56 0,lQ 61 56 1,M 13 60,M 14 61]
abbrev aP9:LA:=[G 63 6 8,M 64 1,P 65 12 [s 63,s 64],M 62 65,lQ 66 62 0,lQ 67 62 1,M 15 66,M 16 67]
abbrev aP8:LA:=[M 68 10,P 69 13 [s 68],M 70 14,A 71 (b .eql (s 69) (s 70)),M 72 71,lJ 73 72 12,⟨S 74,S (72,true),k 13 [s 73]⟩,lJ 75 72 16,T 76 72 (b .eql (s 74) (s 75)),lI 77 72 76,M 78 77,lJ 79 78 9,lJ 80 78 13,⟨S 81,S (78,true),k 14 [s 79,s 80]⟩,lI 82 78 81,M 83 82,lJ 84 83 11,lJ 85 83 15,⟨S 86,S (83,true),k 14 [s 84,s 85]⟩,lI 87 83 86,M 4 87]
def g0:LFn:=⟨(Q (O aQw) (Q (Q (O aT4) (C (s 18) (Q (O aCc) .ret) Z)) (Q (Q (O aT3) (C (s 26) (Q (O aGy) .ret) Z)) (Q (O aT2) (Q (Q (O aT1) (K 0 (R aT5))) (Q (O aQD) (Q (O aQC) (Q (O aQB) (Q (O aQA) (Q (O aP9) (Q (O aP8) .ret))))))))))),88,[.slot 4]⟩
theorem g0z:aF Tryz.prog 3=some g0:=Zz
abbrev aTl:LA:=[lG 0]
abbrev aTk:LA:=[A 1 (m (c (.fn (.func 15) [] [])))]
abbrev aTj:LA:=[M 5 1,⟨S 6,N,.callv (s 5) [(B 1),(B 5)]⟩,M 7 1,⟨S 8,N,.callv (s 7) [(B 1),(B 6)]⟩,M 9 1,⟨S 10,N,.callv (s 9) [(B 2),(B 5)]⟩,⟨S 11,N,y F [s 6,s 8,s 10]⟩,P 12 16 [(B 1),(B 1),s 11],M 4 12,lQ 13 4 0,lQ 14 4 1,M 2 13,M 3 14]
abbrev aTi:LA:=[M 15 3,A 16 (e false (.iface true) (s 15) (c .nilIface)),M 17 16,lJ 18 17 2,lJ 19 17 1,⟨S 20,S (17,true),.callv (s 19) [(B 1),(B 2)]⟩,lJ 21 17 1,⟨S 22,S (17,true),.callv (s 21) [(B 2),(B 1)]⟩,⟨S 23,S (17,true),y F [s 20,s 22]⟩,⟨S 24,S (17,true),k 14 [s 18,s 23]⟩,lI 25 17 24,M 0 25]
def g1:LFn:=⟨(Q (O aTl) (Q (O aTk) (Q (O aTj) (Q (O aTi) .ret)))),26,[.slot 0]⟩
theorem g1z:aF Tryz.prog 4=some g1:=Zz
abbrev aON:LA:=[Y 2 6 0,lF 4 0]
abbrev aTX:LA:=[H 7 0 2,G 8 2 7,M 9 1,P 10 17 [s 8,s 9],M 1 10]
abbrev aTW:LA:=[H 11 4 2,E 12 11,lP 13 12,lF 14 0]
abbrev aQu:LA:=[lA 15 14 13]
abbrev aTV:LA:=[lC 16 17 12 14,G 17 17 16,⟨S 6,N,x (.agg 17) (c (.agg [(I j 0),(.str ⟨#[]⟩),(.sl (.agg 4) .nil []),(I j 0),(I j 0),(.str ⟨#[]⟩),(I j 0),(I j 0),(.str ⟨#[]⟩),(.sl (.agg 6) .nil []),(I j 0),(.str ⟨#[]⟩),(I j 0),(I j 0),(.str ⟨#[]⟩),(.sl (.agg 6) .nil []),(I j 0)]))⟩,W 17 6 17]
abbrev aTU:LA:=[M 18 1,A 19 (b .lss (s 18) (B 0))]
abbrev aFa:LA:=[A 4 (m (B (-1)))]
abbrev aTT:LD:=[(H 20 10 6,[]),(G 21 6 20,[0]),(H 22 4 6,[]),(G 23 6 22,[2]),(H 24 1 6,[]),(G 25 2 24,[4]),(M 26 1,[]),(P 27 17 [s 25,s 26],[4,5,6]),(P 28 18 [s 23,s 27],[2,3,4,5,6,7]),(P 29 18 [s 21,s 28],Z9)]
abbrev aOM:LA:=[M 1 29]
abbrev aTS:LA:=[lB 30 14,M 14 30]
abbrev aTY:aJ:=(Q (O aQu) (Q (C (s 15) Z (X 0)) (Q (K 1 (Q (O aTV) (Q (Q (O aTU) (C (s 19) (Q (O aFa) .ret) Z)) (D 10 aTT aOM)))) (O aTS))))
abbrev aTR:LA:=[M 31 1,M 4 31]
def g2:LFn:=⟨(Q (O aON) (Q (O aTX) (Q (Q (O aTW) (K 0 (R aTY))) (Q (O aTR) .ret)))),32,[.slot 4]⟩
theorem g2z:aF Tryz.prog 5=some g2:=Zz
abbrev aBD:LA:=[lG 2]
abbrev aHm:LA:=[lF 3 0]
abbrev aQt:LA:=[M 6 0,lP 7 6,lF 8 0]
abbrev aQs:LA:=[lA 9 8 7]
abbrev aTF:LA:=[M 10 8,lC 11 4 6 8,G 12 4 11,⟨S 5,N,x (.agg 4) (c (.agg [(.str ⟨#[]⟩),(I j 0),(I j 0),(.str ⟨#[]⟩)]))⟩,M 4 10,W 4 5 12]
abbrev aTE:LA:=[M 13 3,H 14 0 5,E 15 14,A 16 (.slen (s 15)),H 17 1 5,H 18 2 17,E 19 18,A 20 (.slen (s 19)),A 21 (b .add (s 16) (s 20)),A 22 (b .add (s 13) (s 21)),M 3 22]
abbrev aTD:LA:=[M 23 4,A 24 (b .gtr (s 23) (B 30)),M 25 24,lM 26 25 3,U 27 25 (b .gtr (s 26) (B 1500)),lH 28 25 27]
abbrev aTC:LA:=[A 2 (m Bb)]
abbrev aTB:LA:=[lB 29 8,M 8 29]
abbrev aTG:aJ:=(Q (O aQs) (Q (C (s 9) Z (X 0)) (Q (K 1 (Q (O aTF) (Q (O aTE) (Q (O aTD) (C (s 28) (Q (O aTC) .ret) Z))))) (O aTB))))
def g3:LFn:=⟨(Q (O aBD) (Q (O aHm) (Q (Q (O aQt) (K 0 (R aTG))) (Q (O aBD) .ret)))),30,[.slot 2]⟩
theorem g3z:aF Tryz.prog 6=some g3:=Zz
abbrev aSz:LA:=[A 2 (m (c .aAM))]
abbrev aSy:LA:=[⟨S 8,N,.mp (.mk)⟩,M 3 8]
abbrev aSx:LA:=[M 9 0,lP 10 9,lF 11 0]
abbrev aSw:LA:=[lA 12 11 10]
abbrev aSv:LA:=[lC 13 4 9 11,G 14 4 13,⟨S 5,N,x (.agg 4) (c (.agg [(.str ⟨#[]⟩),(I j 0),(I j 0),(.str ⟨#[]⟩)]))⟩,W 4 5 14]
abbrev aSu:LA:=[M 16 3,H 17 0 5,E 18 17,⟨S 19,N,v (.mget F [.str] (.agg [(I j 0),(I j 0),(.str ⟨#[]⟩)]) true (s 16) (s 18))⟩,M 15 19,lQ 20 15 0,lQ 21 15 1,⟨S 6,N,x (.agg 3) (c (.agg [(I j 0),(I j 0),(.str ⟨#[]⟩)]))⟩,W 3 6 20,M 7 21]
abbrev aSt:LA:=[M 22 7,A 23 (.not (s 22))]
abbrev aSs:LA:=[M 24 3,H 25 0 5,E 26 25,H 27 1 5,G 28 3 27,⟨N,N,.mp (.put F [.str] (s 24) (s 26) (s 28))⟩]
abbrev aSr:LA:=[lB 29 11,M 11 29]
abbrev aS0:aJ:=(Q (O aSw) (Q (C (s 12) Z (X 0)) (Q (K 1 (Q (O aSv) (Q (O aSu) (Q (O aSt) (C (s 23) (O aSs) Z))))) (O aSr))))
abbrev aSq:LA:=[M 30 3,M 2 30]
def g4:LFn:=⟨(Q (O aSz) (Q (O aSy) (Q (Q (O aSx) (K 0 (R aS0))) (Q (O aSq) .ret)))),31,[.slot 2]⟩
theorem g4z:aF Tryz.prog 7=some g4:=Zz
abbrev aSe:LA:=[Y 1 6 0,⟨S 2,N,x (.agg 6) (c (.agg [(.str ⟨#[]⟩),(.sl (.agg 4) .nil []),(I j 0),(I j 0),(.sl (.agg 17) .nil []),(I j 0)]))⟩]
abbrev aSd:LD:=[(H 6 0 1,[]),(G 7 2 6,[0]),(P 8 19 [s 7],[0,1]),(H 9 2 1,[]),(E 10 9,[3]),(H 11 3 1,[]),(E 12 11,[5]),(H 13 5 1,[]),(E 14 13,[7]),(⟨S 15,N,v (.build [(.str ⟨#[]⟩),(.sl (.agg 4) .nil []),(I j 0),(I j 0),(.sl (.agg 17) .nil []),(I j 0)] [(0,(.agg 2),(s 8)),(2,F,(s 10)),(3,F,(s 12)),(5,F,(s 14))])⟩,Z9),(⟨S 3,N,x (.agg 6) (c (.agg [(.str ⟨#[]⟩),(.sl (.agg 4) .nil []),(I j 0),(I j 0),(.sl (.agg 17) .nil []),(I j 0)]))⟩,[])]
abbrev aMf:LA:=[W 6 3 15]
abbrev aSc:LA:=[H 16 4 1,E 17 16,lP 18 17,lF 19 0]
abbrev aSb:LA:=[lA 20 19 18]
abbrev aSa:LA:=[lC 21 17 17 19,G 22 17 21,⟨S 5,N,x (.agg 17) (c (.agg [(I j 0),(.str ⟨#[]⟩),(.sl (.agg 4) .nil []),(I j 0),(I j 0),(.str ⟨#[]⟩),(I j 0),(I j 0),(.str ⟨#[]⟩),(.sl (.agg 6) .nil []),(I j 0),(.str ⟨#[]⟩),(I j 0),(I j 0),(.str ⟨#[]⟩),(.sl (.agg 6) .nil []),(I j 0)]))⟩,W 17 5 22]
abbrev aSZ:LD:=[(H 23 4 3,[]),(E 24 23,[0]),(G 25 17 5,[]),(P 26 20 [s 25],[2]),(⟨S 27,N,y (.agg 17) [s 26]⟩,[2,3]),(lS 28 17 224 24 27,Z5),(H 29 4 3,Z6)]
abbrev aMe:LA:=[⟨N,N,t F (s 29) (s 28)⟩]
abbrev aSY:LA:=[lB 30 19,M 19 30]
abbrev aSf:aJ:=(Q (O aSb) (Q (C (s 20) Z (X 0)) (Q (K 1 (Q (O aSa) (D 7 aSZ aMe))) (O aSY))))
abbrev aSX:LA:=[G 31 6 3,W 6 2 31]
def g5:LFn:=⟨(Q (O aSe) (Q (D 11 aSd aMf) (Q (Q (O aSc) (K 0 (R aSf))) (Q (O aSX) .ret)))),32,[.cell 2 (.agg 6)]⟩
theorem g5z:aF Tryz.prog 8=some g5:=Zz
abbrev aQr:LA:=[Y 2 6 0,A 4 (m (c (.sl F .nil []))),A 5 (m (c .nilIface))]
abbrev aSL:LA:=[G 11 6 2,P 12 21 [s 11],A 13 (.not (s 12))]
abbrev aSK:LA:=[A 14 (.mkif 83 (B 2)),A 4 (m (c (.sl F .nil []))),M 5 14]
abbrev aSJ:LA:=[A 6 (m (c (.sl F .nil [])))]
abbrev aSI:LA:=[M 15 1,lP 16 15,lF 17 0]
abbrev aQq:LA:=[lA 18 17 16]
abbrev aSH:LA:=[lE 19 15 17,E 20 19,M 8 20]
abbrev aSG:LA:=[H 22 0 2,G 23 2 22,M 24 8,P 25 22 [s 23,s 24],M 21 25,lQ 26 21 0,lQ 27 21 1,M 9 26,M 10 27]
abbrev aSF:LA:=[M 28 10,A 29 (e true (.iface true) (s 28) (c .nilIface))]
abbrev aSE:LA:=[M 30 10,A 4 (m (c (.sl F .nil []))),M 5 30]
abbrev aMV:LA:=[M 31 6,M 32 9,⟨S 33,N,y F [s 32]⟩,⟨S 34,N,a F 24 (s 31) (s 33)⟩,M 6 34]
abbrev aHY:LA:=[lB 35 17,M 17 35]
abbrev aSM:aJ:=(Q (O aQq) (Q (C (s 18) Z (X 0)) (Q (K 1 (Q (O aSH) (Q (O aSG) (Q (Q (O aSF) (C (s 29) (Q (O aSE) .ret) Z)) (O aMV))))) (O aHY))))
abbrev aMU:LA:=[M 36 6,P 37 23 [s 36,(c (.fn (.func 24) [] []))],M 4 37,A 5 (m (c .nilIface))]
def g6:LFn:=⟨(Q (O aQr) (Q (Q (O aSL) (C (s 13) (Q (O aSK) .ret) Z)) (Q (O aSJ) (Q (Q (O aSI) (K 0 (R aSM))) (Q (O aMU) .ret))))),38,[.slot 4,.slot 5]⟩
theorem g6z:aF Tryz.prog 9=some g6:=Zz
abbrev aR5:LA:=[G 9 6 2,M 10 1,P 11 9 [s 9,s 10],M 8 11,lQ 12 8 0,lQ 13 8 1,M 6 12,M 7 13]
abbrev aR4:LA:=[M 14 7,A 15 (e true (.iface true) (s 14) (c .nilIface))]
abbrev aQn:LA:=[M 16 7,A 4 (m (c (.sl F .nil []))),M 5 16]
abbrev aR3:LA:=[H 17 2 2,E 18 17,H 19 3 2,E 20 19,M 21 6,P 22 16 [s 18,s 20,s 21],lQ 23 22 0,lQ 24 22 1,M 4 23,M 5 24]
def g7:LFn:=⟨(Q (O aQr) (Q (O aR5) (Q (Q (O aR4) (C (s 15) (Q (O aQn) .ret) Z)) (Q (O aR3) .ret)))),25,[.slot 4,.slot 5]⟩
theorem g7z:aF Tryz.prog 10=some g7:=Zz
abbrev aQm:LA:=[Y 2 6 0,A 4 (m (c (.sl F .nil []))),lF 5 0]
abbrev aRs:LA:=[G 10 6 2,P 11 25 [s 10],A 12 (.not (s 11))]
abbrev aRr:LA:=[A 4 (m (c (.sl F .nil []))),lF 5 2]
abbrev aRq:LA:=[A 13 (.build [(I j 0),(.sl F .nil [])] []),⟨S 6,N,x (.agg 2) (c (.agg [(I j 0),(.sl F .nil [])]))⟩,W 2 6 13]
abbrev aKl:LA:=[lF 7 0]
abbrev aRp:LA:=[M 14 7,M 15 1,lP 16 15,lA 17 14 16]
abbrev aRo:LD:=[(H 21 0 2,[]),(G 22 2 21,[0]),(M 23 1,[]),(M 24 7,[]),(lE 25 23 24,[2,3]),(E 26 25,[2,3,4]),(P 27 26 [s 22,s 26],Z6),(M 20 27,[0,1,2,3,4,5,6]),(lQ 28 20 0,Z8),(lQ 29 20 1,Z8),(M 8 28,Z9),(M 9 29,Z11)]
abbrev aBI:LA:=[]
abbrev aRn:LA:=[M 30 9,A 31 (b .neq (s 30) (B 0))]
abbrev aRm:LA:=[M 32 9,A 4 (m (c (.sl F .nil []))),M 5 32]
abbrev aRl:LA:=[G 33 2 6,M 34 8,P 35 27 [s 33,s 34],W 2 6 35]
abbrev aLl:LA:=[M 18 7,lB 19 18,M 7 19]
abbrev aRt:aJ:=(Q (Q (O aRp) (C (s 17) Z (X 0))) (Q (K 1 (Q (D 12 aRo aBI) (Q (Q (O aRn) (C (s 31) (Q (O aRm) .ret) Z)) (O aRl)))) (O aLl)))
abbrev aLk:LA:=[H 36 1 6,E 37 36,M 4 37,lF 5 0]
def g8:LFn:=⟨(Q (O aQm) (Q (Q (O aRs) (C (s 12) (Q (O aRr) .ret) Z)) (Q (O aRq) (Q (Q (O aKl) (K 0 (R aRt))) (Q (O aLk) .ret))))),38,[.slot 4,.slot 5]⟩
theorem g8z:aF Tryz.prog 11=some g8:=Zz
abbrev aRd:LA:=[G 9 6 2,M 10 1,P 11 11 [s 9,s 10],M 8 11,lQ 12 8 0,lQ 13 8 1,M 6 12,M 7 13]
abbrev aRc:LA:=[M 14 7,A 15 (b .neq (s 14) (B 0))]
abbrev aRb:LA:=[H 17 2 2,E 18 17,H 19 3 2,E 20 19,M 21 6,P 22 28 [s 18,s 20,s 21],lQ 23 22 0,lQ 24 22 1,M 4 23,M 5 24]
def g9:LFn:=⟨(Q (O aQm) (Q (O aRd) (Q (Q (O aRc) (C (s 15) (Q (O aQn) .ret) Z)) (Q (O aRb) .ret)))),25,[.slot 4,.slot 5]⟩
theorem g9z:aF Tryz.prog 12=some g9:=Zz
abbrev aCk:LA:=[lF 2 0]
abbrev aP6:LA:=[M 5 0,A 6 (e false (.iface true) (s 5) (c .nilIface))]
abbrev aP5:LA:=[M 8 0,A 9 (.asrt 83 (I j 0) (s 8)),M 7 9,lQ 10 7 0,lQ 11 7 1,M 3 10,M 4 11]
abbrev aP4:LA:=[M 12 4,M 13 12,lJ 14 13 3,T 15 13 (b .neq (s 14) (B 0)),lI 16 13 15]
abbrev aP3:LA:=[M 17 3,M 2 17]
abbrev aP2:LA:=[A 2 (m (B (-1)))]
def g10:LFn:=⟨(Q (O aCk) (Q (Q (O aP6) (C (s 6) (Q (O aCk) .ret) Z)) (Q (Q (O aP5) (Q (O aP4) (C (s 16) (Q (O aP3) .ret) Z))) (Q (O aP2) .ret)))),18,[.slot 2]⟩
theorem aTv:aF Tryz.prog 13=some g10:=Zz
abbrev aJ8:LA:=[M 6 0,lP 7 6,M 8 1,lP 9 8,A 10 (b .neq (s 7) (s 9))]
abbrev aGi:LA:=[M 11 0,lP 12 11,lF 13 0]
abbrev aGh:LA:=[lA 14 13 12]
abbrev aJ7:LA:=[M 15 13,M 5 15]
abbrev aP0:LD:=[(M 16 0,[]),(M 17 5,[]),(lE 18 16 17,[0,1]),(E 19 18,Z3),(M 20 1,[]),(M 21 5,[]),(lE 22 20 21,[4,5]),(E 23 22,[4,5,6]),(P 24 29 [s 19,s 23],Z8),(A 25 (.not (s 24)),Z9)]
abbrev aPz:LA:=[lB 26 13,M 13 26]
abbrev aP1:aJ:=(Q (O aGh) (Q (C (s 14) Z (X 0)) (Q (K 1 (Q (O aJ7) (Q (D 10 aP0 aBI) (C (s 25) (Q (O aCc) .ret) Z)))) (O aPz))))
def g11:LFn:=⟨(Q (O aCc) (Q (Q (O aJ8) (C (s 10) (Q (O aCc) .ret) Z)) (Q (Q (O aGi) (K 0 (R aP1))) (Q (O aGy) .ret)))),27,[.slot 4]⟩
theorem aTu:aF Tryz.prog 14=some g11:=Zz
abbrev aGe:LA:=[A 4 (m (c (.sl (.agg 3) .nil [])))]
abbrev aPy:LA:=[M 5 0,⟨S 6,N,v (.build [(I j 0),(I j 0),(.str ⟨#[]⟩)] [(0,F,(B 1)),(1,F,(s 5))])⟩,M 7 1,⟨S 8,N,v (.build [(I j 0),(I j 0),(.str ⟨#[]⟩)] [(0,F,(B 1)),(1,F,(s 7))])⟩,⟨S 9,N,y (.agg 3) [s 6,s 8]⟩,M 4 9]
def g12:LFn:=⟨(Q (O aGe) (Q (O aPy) .ret)),10,[.slot 4]⟩
theorem aTt:aF Tryz.prog 15=some g12:=Zz
abbrev aPv:LA:=[A 6 (m (c (.sl F .nil []))),A 7 (m (c .nilIface))]
abbrev aPu:LA:=[M 17 0,A 18 (b .lss (s 17) (B 0)),M 19 18,lM 20 19 0,U 21 19 (b .gtr (s 20) (B 4)),lH 22 19 21]
abbrev aPt:LA:=[A 23 (.mkif 83 (B 1)),A 6 (m (c (.sl F .nil []))),M 7 23]
abbrev aPs:LA:=[M 24 2,P 25 23 [s 24,(c (.fn (.func 24) [] []))],M 8 25]
abbrev aPr:LA:=[M 26 8,lP 27 26,lF 28 0]
abbrev aPq:LA:=[lA 29 28 27]
abbrev aPp:LA:=[M 30 28,lE 31 26 28,E 32 31,M 9 30,M 10 32]
abbrev aPo:LA:=[M 33 0,A 34 (b .gtr (s 33) (B 0)),M 35 34,lJ 36 35 1,T 37 35 (b .lss (s 36) (B 0)),lJ 38 35 37,lM 39 38 1,lM 40 38 10,U 41 38 (w (s 40)),U 42 38 (b .geq (s 39) (s 41)),T 43 35 (p (s 38) Bb (s 42)),lI 44 35 43]
abbrev aPn:LA:=[A 45 (.mkif 83 (B 1)),A 6 (m (c (.sl F .nil []))),M 7 45]
abbrev aPm:LA:=[M 46 8,M 47 9,M 48 10,P 49 30 [s 48],lE 50 46 47,⟨N,N,t F (s 50) (s 49)⟩]
abbrev aJN:LA:=[lB 51 28,M 28 51]
abbrev aPx:aJ:=(Q (O aPq) (Q (C (s 29) Z (X 0)) (Q (K 1 (Q (O aPp) (Q (Q (O aPo) (C (s 44) (Q (O aPn) .ret) Z)) (O aPm)))) (O aJN))))
abbrev aJM:LA:=[M 52 0,A 53 (b .eql (s 52) (B 0))]
abbrev aJL:LA:=[M 54 8,M 6 54,A 7 (m (c .nilIface))]
abbrev aJK:LA:=[A 11 (m (c (.sl F .nil [])))]
abbrev aJJ:LA:=[M 55 8,lP 56 55,A 57 (b .gtr (s 56) (B 0))]
abbrev aJI:LA:=[M 58 8,A 59 (i F (s 58) (B 0)),E 60 59,M 61 1,P 62 31 [s 60,s 61],M 12 62]
abbrev aJH:LA:=[M 64 8,M 65 1,M 66 12,P 67 32 [s 64,s 65,s 66],M 63 67,lQ 68 63 0,lQ 69 63 1,M 13 68,M 14 69]
abbrev aJG:LA:=[M 71 0,M 72 13,P 73 33 [s 71,s 72],M 70 73,lQ 74 70 0,lQ 75 70 1,⟨S 15,N,x (.agg 3) (c (.agg [(I j 0),(I j 0),(.str ⟨#[]⟩)]))⟩,W 3 15 74,M 16 75]
abbrev aJF:LA:=[M 76 16,A 77 (e true (.iface true) (s 76) (c .nilIface))]
abbrev aJE:LA:=[M 78 16,A 6 (m (c (.sl F .nil []))),M 7 78]
abbrev aJD:LA:=[M 79 11,M 80 12,M 81 1,G 82 3 15,⟨S 83,N,y (.agg 3) [s 82]⟩,P 84 34 [s 80,s 81,s 83],⟨S 85,N,y F [s 84]⟩,⟨S 86,N,a F 24 (s 79) (s 85)⟩,M 11 86]
abbrev aJC:LA:=[M 87 14,M 8 87]
abbrev aPw:aJ:=(Q (Q (O aJJ) (C (s 57) Z (X 2))) (K 3 (Q (O aJI) (Q (O aJH) (Q (O aJG) (Q (Q (O aJF) (C (s 77) (Q (O aJE) .ret) Z)) (Q (O aJD) (O aJC))))))))
abbrev aJB:LA:=[M 88 11,P 89 23 [s 88,(c (.fn (.func 24) [] []))],M 6 89,A 7 (m (c .nilIface))]
def g13:LFn:=⟨(Q (O aPv) (Q (Q (O aPu) (C (s 22) (Q (O aPt) .ret) Z)) (Q (O aPs) (Q (Q (O aPr) (K 0 (R aPx))) (Q (Q (O aJM) (C (s 53) (Q (O aJL) .ret) Z)) (Q (O aJK) (Q (K 2 (R aPw)) (Q (O aJB) .ret)))))))),90,[.slot 6,.slot 7]⟩
theorem aTs:aF Tryz.prog 16=some g13:=Zz
abbrev aPk:LA:=[Y 2 2 0,lF 4 0]
abbrev aPj:LA:=[M 7 1,H 8 0 2,E 9 8,A 10 (.slen (s 9)),A 11 (b .quo (s 10) (B 50)),A 12 (b .add (B 1) (s 11)),A 13 (b .sub (s 7) (s 12)),M 1 13]
abbrev aPi:LA:=[H 14 1 2,E 15 14,lP 16 15,lF 17 0]
abbrev aPh:LA:=[lC 19 4 15 17,G 20 4 19,⟨S 6,N,x (.agg 4) (c (.agg [(.str ⟨#[]⟩),(I j 0),(I j 0),(.str ⟨#[]⟩)]))⟩,W 4 6 20]
abbrev aPg:LA:=[M 21 1,H 22 0 6,E 23 22,A 24 (.slen (s 23)),H 25 1 6,H 26 2 25,E 27 26,A 28 (.slen (s 27)),A 29 (b .add (s 24) (s 28)),A 30 (b .quo (s 29) (B 50)),A 31 (b .add (B 1) (s 30)),A 32 (b .sub (s 21) (s 31)),M 1 32]
abbrev aPf:LA:=[M 33 1,A 34 (b .lss (s 33) (B 0))]
abbrev aPl:aJ:=(Q (O aQq) (Q (C (s 18) Z (X 0)) (Q (K 1 (Q (O aPh) (Q (O aPg) (Q (O aPf) (C (s 34) (Q (O aFa) .ret) Z))))) (O aHY))))
abbrev aPe:LA:=[M 36 1,M 4 36]
def g14:LFn:=⟨(Q (O aPk) (Q (O aPj) (Q (Q (O aPi) (K 0 (R aPl))) (Q (O aPe) .ret)))),37,[.slot 4]⟩
theorem aTr:aF Tryz.prog 17=some g14:=Zz
abbrev aPc:LA:=[M 7 1,H 8 1 2,H 9 0 8,E 10 9,A 11 (.slen (s 10)),H 12 1 2,H 13 1 12,H 14 2 13,E 15 14,A 16 (.slen (s 15)),A 17 (b .add (s 11) (s 16)),A 18 (b .quo (s 17) (B 50)),A 19 (b .add (B 1) (s 18)),A 20 (b .sub (s 7) (s 19)),M 1 20]
abbrev aPb:LA:=[H 21 5 2,E 22 21,lP 23 22,lF 24 0]
abbrev aPa:LA:=[lA 25 24 23]
abbrev aPZ:LA:=[lC 26 6 22 24,G 27 6 26,⟨S 6,N,x (.agg 6) (c (.agg [(I j 0),(.str ⟨#[]⟩),(I j 0),(I j 0),(.str ⟨#[]⟩),(.sl (.agg 6) .nil [])]))⟩,W 6 6 27]
abbrev aPY:LA:=[M 28 1,A 29 (b .lss (s 28) (B 0))]
abbrev aPX:LA:=[G 30 6 6,M 31 1,P 32 18 [s 30,s 31],M 1 32]
abbrev aPW:LA:=[lB 33 24,M 24 33]
abbrev aPd:aJ:=(Q (O aPa) (Q (C (s 25) Z (X 0)) (Q (K 1 (Q (O aPZ) (Q (Q (O aPY) (C (s 29) (Q (O aFa) .ret) Z)) (O aPX)))) (O aPW))))
abbrev aPV:LA:=[M 34 1,M 4 34]
def g15:LFn:=⟨(Q (O aON) (Q (O aPc) (Q (Q (O aPb) (K 0 (R aPd))) (Q (O aPV) .ret)))),35,[.slot 4]⟩
theorem aTq:aF Tryz.prog 18=some g15:=Zz
abbrev aPT:LA:=[Y 1 2 0,⟨S 2,N,x (.agg 2) (c (.agg [(.str ⟨#[]⟩),(.sl (.agg 4) .nil [])]))⟩]
abbrev aPS:LA:=[H 6 0 1,E 7 6,⟨S 8,N,v (.build [(.str ⟨#[]⟩),(.sl (.agg 4) .nil [])] [(0,F,(s 7))])⟩,⟨S 3,N,x (.agg 2) (c (.agg [(.str ⟨#[]⟩),(.sl (.agg 4) .nil [])]))⟩,W 2 3 8]
abbrev aPR:LA:=[H 9 1 1,E 10 9,lP 11 10,lF 12 0]
abbrev aIQ:LA:=[lA 13 12 11]
abbrev aPQ:LA:=[lC 14 4 10 12,G 15 4 14,⟨S 5,N,x (.agg 4) (c (.agg [(.str ⟨#[]⟩),(I j 0),(I j 0),(.str ⟨#[]⟩)]))⟩,W 4 5 15]
abbrev aPP:LA:=[H 16 1 3,E 17 16,G 18 4 5,⟨S 19,N,y (.agg 4) [s 18]⟩,lS 20 4 48 17 19,H 21 1 3,⟨N,N,t F (s 21) (s 20)⟩]
abbrev aPO:LA:=[lB 22 12,M 12 22]
abbrev aPU:aJ:=(Q (O aIQ) (Q (C (s 13) Z (X 0)) (Q (K 1 (Q (O aPQ) (O aPP))) (O aPO))))
abbrev aPN:LA:=[G 23 2 3,W 2 2 23]
def g16:LFn:=⟨(Q (O aPT) (Q (O aPS) (Q (Q (O aPR) (K 0 (R aPU))) (Q (O aPN) .ret)))),24,[.cell 2 (.agg 2)]⟩
theorem aTp:aF Tryz.prog 19=some g16:=Zz
abbrev aPM:LA:=[Y 1 17 0,⟨S 2,N,x (.agg 17) (c (.agg [(I j 0),(.str ⟨#[]⟩),(.sl (.agg 4) .nil []),(I j 0),(I j 0),(.str ⟨#[]⟩),(I j 0),(I j 0),(.str ⟨#[]⟩),(.sl (.agg 6) .nil []),(I j 0),(.str ⟨#[]⟩),(I j 0),(I j 0),(.str ⟨#[]⟩),(.sl (.agg 6) .nil []),(I j 0)]))⟩]
abbrev aPL:LD:=[(H 3 0 1,[]),(E 4 3,[0]),(H 5 1 1,[]),(G 6 2 5,[2]),(P 7 19 [s 6],[2,3]),(H 8 3 1,[]),(E 9 8,[5]),(H 10 4 1,[]),(G 11 6 10,[7]),(P 12 35 [s 11],[2,3,4,7,8]),(H 13 10 1,[]),(G 14 6 13,[10]),(P 15 35 [s 14],[2,3,4,7,8,9,10,11]),(H 16 16 1,[]),(E 17 16,[13]),(⟨S 18,N,v (.build [(I j 0),(.str ⟨#[]⟩),(.sl (.agg 4) .nil []),(I j 0),(I j 0),(.str ⟨#[]⟩),(I j 0),(I j 0),(.str ⟨#[]⟩),(.sl (.agg 6) .nil []),(I j 0),(.str ⟨#[]⟩),(I j 0),(I j 0),(.str ⟨#[]⟩),(.sl (.agg 6) .nil []),(I j 0)] [(0,F,(s 4)),(1,(.agg 2),(s 7)),(3,F,(s 9)),(4,(.agg 6),(s 12)),(10,(.agg 6),(s 15)),(16,F,(s 17))])⟩,Z15)]
abbrev aIP:LA:=[W 17 2 18]
def g17:LFn:=⟨(Q (O aPM) (Q (D 16 aPL aIP) .ret)),19,[.cell 2 (.agg 17)]⟩
theorem aTo:aF Tryz.prog 20=some g17:=Zz
abbrev aCj:LA:=[Y 1 6 0,lG 2]
abbrev aPK:LA:=[H 3 0 1,G 4 2 3,P 5 36 [s 4],M 6 5,T 7 6 (l (.agg 6) (s 1)),⟨S 8,S (6,true),k 37 [s 7]⟩,lI 9 6 8,M 10 9,lL 11 10 4 1,lK 12 10 11,T 13 10 (w (s 12)),T 14 10 (b .leq (s 13) (B 8)),lI 15 10 14,M 16 15,lL 17 16 4 1,lK 18 16 17,⟨S 19,S (16,true),k 38 [s 18,(c (.fn (.func 39) [] []))]⟩,lI 20 16 19,M 2 20]
def g18:LFn:=⟨(Q (O aCj) (Q (O aPK) .ret)),21,[.slot 2]⟩
theorem aTn:aF Tryz.prog 21=some g18:=Zz
abbrev aPI:LA:=[Y 2 2 0,A 4 (m (c (.sl (.agg 3) .nil []))),A 5 (m (c .nilIface))]
abbrev aPH:LA:=[H 11 1 2,E 12 11,lP 13 12,A 14 (b .gtr (s 13) (B 6))]
abbrev aPG:LA:=[A 15 (.mkif 83 (B 6)),A 4 (m (c (.sl (.agg 3) .nil []))),M 5 15]
abbrev aPF:LA:=[H 16 1 2,E 17 16,lP 18 17,⟨S 19,N,.mkz (.agg 3) 32 (s 18) .top⟩,M 6 19]
abbrev aPE:LA:=[H 20 1 2,E 21 20,lP 22 21,lF 23 0]
abbrev aPD:LA:=[lA 24 23 22]
abbrev aPC:LA:=[lC 25 4 21 23,G 26 4 25,⟨S 8,N,x (.agg 4) (c (.agg [(.str ⟨#[]⟩),(I j 0),(I j 0),(.str ⟨#[]⟩)]))⟩,W 4 8 26]
abbrev aPB:LA:=[G 28 4 8,M 29 1,P 30 40 [s 28,s 29],M 27 30,lQ 31 27 0,lQ 32 27 1,⟨S 9,N,x (.agg 3) (c (.agg [(I j 0),(I j 0),(.str ⟨#[]⟩)]))⟩,W 3 9 31,M 10 32]
abbrev aPA:LA:=[M 33 10,A 34 (e true (.iface true) (s 33) (c .nilIface))]
abbrev aO9:LA:=[M 35 10,A 4 (m (c (.sl (.agg 3) .nil []))),M 5 35]
abbrev aIO:LA:=[M 36 6,G 37 3 9,⟨S 38,N,y (.agg 3) [s 37]⟩,lS 39 3 32 36 38,M 6 39]
abbrev aIN:LA:=[lB 40 23,M 23 40]
abbrev aPJ:aJ:=(Q (O aPD) (Q (C (s 24) Z (X 0)) (Q (K 1 (Q (O aPC) (Q (O aPB) (Q (Q (O aPA) (C (s 34) (Q (O aO9) .ret) Z)) (O aIO))))) (O aIN))))
abbrev aEE:LA:=[M 41 6,M 4 41,A 5 (m (c .nilIface))]
def g19:LFn:=⟨(Q (O aPI) (Q (Q (O aPH) (C (s 14) (Q (O aPG) .ret) Z)) (Q (O aPF) (Q (Q (O aPE) (K 0 (R aPJ))) (Q (O aEE) .ret))))),42,[.slot 4,.slot 5]⟩
theorem aTm:aF Tryz.prog 22=some g19:=Zz
abbrev aCD:LA:=[lF 4 0]
abbrev aO8:LA:=[M 5 0,M 6 1,P 7 45 [s 5,s 6,(c (.fn (.func 46) [] []))],M 4 7]
def g20:LFn:=⟨(Q (O aCD) (Q (O aO8) .ret)),8,[.slot 4]⟩
theorem aTh:aF Tryz.prog 24=some g20:=Zz
abbrev aO7:LA:=[H 4 0 1,G 5 2 4,P 6 47 [s 5],A 7 (.not (s 6)),M 8 7,lO 9 8 4 1,lN 10 8 9,U 11 8 (w (s 10)),U 12 8 (b .gtr (s 11) (B 8)),lH 13 8 12,M 14 13,lO 15 14 2 1,lN 16 14 15,U 17 14 (b .lss (s 16) (B 0)),lH 18 14 17,M 19 18,lO 20 19 2 1,lN 21 19 20,U 22 19 (b .gtr (s 21) (B 4)),lH 23 19 22]
abbrev aO6:LA:=[H 24 2 1,E 25 24,A 26 (b .eql (s 25) (B 0)),M 27 26,lL 28 27 3 1,lK 29 27 28,T 30 27 (b .neq (s 29) (B 0)),lI 31 27 30,M 32 31,lO 33 32 2 1,lN 34 32 33,U 35 32 (b .gtr (s 34) (B 0)),lM 36 32 35,lL 37 36 3 1,lK 38 36 37,T 39 36 (b .lss (s 38) (B 0)),lJ 40 36 39,lO 41 40 3 1,lN 42 40 41,lO 43 40 0 1,lO 44 40 1 43,lN 45 40 44,U 46 40 (w (s 45)),U 47 40 (b .geq (s 42) (s 46)),T 48 36 (p (s 40) Bb (s 47)),lJ 49 36 48,lO 50 49 0 1,lO 51 49 1 50,lN 52 49 51,lO 53 49 3 1,lN 54 49 53,U 55 49 (i (.agg 4) (s 52) (s 54)),lO 56 49 0 55,lN 57 49 56,U 58 49 (.slen (s 57)),U 59 49 (b .eql (s 58) (B 0)),T 60 36 (p (s 49) Bb (s 59)),U 61 32 (p (s 36) (s 60) Ba),lH 62 32 61]
abbrev aO5:LA:=[M 63 3,H 64 4 1,E 65 64,lP 66 65,lA 67 63 66]
abbrev aO4:LA:=[H 70 4 1,E 71 70,M 72 3,lC 73 17 71 72,G 74 17 73,P 75 48 [s 74],A 76 (.not (s 75))]
abbrev aO3:LA:=[M 68 3,lB 69 68,M 3 69]
abbrev aFf:aJ:=(Q (Q (O aO5) (C (s 67) Z (X 0))) (Q (K 1 (Q (O aO4) (C (s 76) (Q (O aBD) .ret) Z))) (O aO3)))
abbrev aED:LA:=[A 2 (m Bb)]
def g21:LFn:=⟨(Q (O aCj) (Q (Q (O aO7) (C (s 23) (Q (O aBD) .ret) Z)) (Q (Q (O aO6) (C (s 62) (Q (O aBD) .ret) Z)) (Q (Q (O aHm) (K 0 (R aFf))) (Q (O aED) .ret))))),77,[.slot 2]⟩
theorem aTg:aF Tryz.prog 25=some g21:=Zz
abbrev aO1:LA:=[Y 2 2 0,A 4 (m (c (.sl (.agg 3) .nil []))),lF 5 0]
abbrev aO0:LA:=[H 10 1 2,E 11 10,lP 12 11,A 13 (b .gtr (s 12) (B 6))]
abbrev aOz:LA:=[A 4 (m (c (.sl (.agg 3) .nil []))),lF 5 6]
abbrev aOy:LA:=[A 6 (m (c (.sl (.agg 3) .nil [])))]
abbrev aOx:LA:=[M 14 7,H 15 1 2,E 16 15,lP 17 16,lA 18 14 17]
abbrev aOw:LA:=[H 22 1 2,E 23 22,M 24 7,lC 25 4 23 24,G 26 4 25,M 27 1,P 28 49 [s 26,s 27],M 21 28,lQ 29 21 0,lQ 30 21 1,⟨S 8,N,x (.agg 3) (c (.agg [(I j 0),(I j 0),(.str ⟨#[]⟩)]))⟩,W 3 8 29,M 9 30]
abbrev aOv:LA:=[M 31 9,A 32 (b .neq (s 31) (B 0))]
abbrev aOu:LA:=[M 33 9,A 4 (m (c (.sl (.agg 3) .nil []))),M 5 33]
abbrev aOt:LA:=[M 34 6,G 35 3 8,⟨S 36,N,y (.agg 3) [s 35]⟩,lS 37 3 32 34 36,M 6 37]
abbrev aIM:LA:=[M 19 7,lB 20 19,M 7 20]
abbrev aO2:aJ:=(Q (Q (O aOx) (C (s 18) Z (X 0))) (Q (K 1 (Q (O aOw) (Q (Q (O aOv) (C (s 32) (Q (O aOu) .ret) Z)) (O aOt)))) (O aIM)))
abbrev aIL:LA:=[M 38 6,M 4 38,lF 5 0]
def g22:LFn:=⟨(Q (O aO1) (Q (Q (O aO0) (C (s 13) (Q (O aOz) .ret) Z)) (Q (O aOy) (Q (Q (O aKl) (K 0 (R aO2))) (Q (O aIL) .ret))))),39,[.slot 4,.slot 5]⟩
theorem aTf:aF Tryz.prog 26=some g22:=Zz
abbrev aOr:LA:=[Y 2 2 0,⟨S 4,N,x (.agg 2) (c (.agg [(I j 0),(.sl F .nil [])]))⟩]
abbrev aOq:LA:=[G 7 2 2,M 8 1,P 9 50 [s 7,s 8]]
abbrev aOp:LA:=[G 10 2 2,W 2 4 10]
abbrev aEC:LA:=[lF 5 0]
abbrev aOo:LA:=[M 11 5,H 12 1 2,E 13 12,lP 14 13,lA 15 11 14,M 16 15,lL 17 16 1 2,lK 18 16 17,lJ 19 16 5,T 20 16 (i F (s 18) (s 19)),lK 21 16 20,lJ 22 16 1,⟨S 23,S (16,true),k 51 [s 21,s 22]⟩,lI 24 16 23]
abbrev aOn:LA:=[M 25 5,lB 26 25,M 5 26]
abbrev aOs:aJ:=(Q (Q (O aOo) (C (s 24) Z (X 0))) (K 1 (O aOn)))
abbrev aOm:LA:=[⟨S 27,N,y F []⟩,H 28 1 2,E 29 28,M 30 5,A 31 (.slc F (s 29) .none (.some (s 30)) .none),⟨S 32,N,a F 24 (s 27) (s 31)⟩,M 6 32]
abbrev aFe:LA:=[M 33 6,⟨S 34,N,y (.agg 3) []⟩,M 35 1,lS 36 3 32 34 35,⟨S 37,N,y F [s 36]⟩,⟨S 38,N,a F 24 (s 33) (s 37)⟩,M 6 38]
abbrev aOl:LD:=[(H 39 0 2,[]),(E 40 39,[0]),(M 41 6,[]),(H 42 1 2,[]),(E 43 42,[3]),(M 44 5,[]),(A 45 (.slc F (s 43) (.some (s 44)) .none .none),[3,4,5]),(⟨S 46,N,a F 24 (s 41) (s 45)⟩,[2,3,4,5,6]),(A 47 (.build [(I j 0),(.sl F .nil [])] [(0,F,(s 40)),(1,F,(s 46))]),Z8)]
abbrev aIK:LA:=[W 2 4 47]
def g23:LFn:=⟨(Q (O aOr) (Q (Q (O aOq) (C (s 9) (Q (O aOp) .ret) Z)) (Q (O aEC) (Q (K 0 (R aOs)) (Q (O aOm) (Q (O aFe) (Q (D 9 aOl aIK) .ret))))))),48,[.cell 4 (.agg 2)]⟩
theorem aTe:aF Tryz.prog 27=some g23:=Zz
abbrev aOj:LA:=[A 6 (m (c (.sl F .nil []))),lF 7 0]
abbrev aOi:LA:=[M 18 0,A 19 (b .lss (s 18) (B 0)),M 20 19,lM 21 20 0,U 22 20 (b .gtr (s 21) (B 4)),lH 23 20 22]
abbrev aIE:LA:=[A 6 (m (c (.sl F .nil []))),lF 7 1]
abbrev aOh:LA:=[A 24 (.build [(I j 0),(.sl F .nil [])] []),⟨S 8,N,x (.agg 2) (c (.agg [(I j 0),(.sl F .nil [])]))⟩,W 2 8 24]
abbrev aH9:LA:=[lF 9 0]
abbrev aOg:LA:=[M 25 9,M 26 2,lP 27 26,lA 28 25 27]
abbrev aOf:LA:=[M 31 0,A 32 (b .gtr (s 31) (B 0)),M 33 32,lJ 34 33 1,T 35 33 (b .lss (s 34) (B 0)),lJ 36 33 35,lM 37 36 1,lM 38 36 2,lM 39 36 9,U 40 36 (i F (s 38) (s 39)),lN 41 36 40,U 42 36 (w (s 41)),U 43 36 (b .geq (s 37) (s 42)),T 44 33 (p (s 36) Bb (s 43)),lI 45 33 44]
abbrev aOe:LD:=[(G 46 2 8,[]),(M 47 2,[]),(M 48 9,[]),(lE 49 47 48,[1,2]),(E 50 49,[1,2,3]),(P 51 27 [s 46,s 50],Z5)]
abbrev aH8:LA:=[W 2 8 51]
abbrev aOd:LA:=[M 29 9,lB 30 29,M 9 30]
abbrev aOk:aJ:=(Q (Q (O aOg) (C (s 28) Z (X 0))) (Q (K 1 (Q (Q (O aOf) (C (s 45) (Q (O aIE) .ret) Z)) (D 6 aOe aH8))) (O aOd)))
abbrev aEB:LA:=[M 52 0,A 53 (b .eql (s 52) (B 0))]
abbrev aEA:LA:=[H 54 1 8,E 55 54,M 6 55,lF 7 0]
abbrev aD9:LA:=[A 56 (.build [(I j 0),(.sl F .nil [])] []),⟨S 10,N,x (.agg 2) (c (.agg [(I j 0),(.sl F .nil [])]))⟩,W 2 10 56]
abbrev aD8:LA:=[lF 11 0]
abbrev aIJ:LA:=[M 57 11,H 58 1 8,E 59 58,lP 60 59,lA 61 57 60]
abbrev aFb:LA:=[A 12 (m Bb)]
abbrev aII:LA:=[A 13 (m (c (.sl (.agg 3) .nil [])))]
abbrev aIH:LA:=[lF 14 0]
abbrev aIG:LA:=[M 64 14,H 65 1 8,E 66 65,lP 67 66,lA 68 64 67]
abbrev aIF:LD:=[(H 71 1 8,[]),(E 72 71,[0]),(M 73 11,[]),(lE 74 72 73,Z3),(E 75 74,Z4),(H 76 1 8,[]),(E 77 76,[5]),(M 78 14,[]),(lE 79 77 78,[5,6,7]),(E 80 79,[5,6,7,8]),(M 81 1,[]),(P 82 52 [s 75,s 80,s 81],Z11)]
abbrev aID:LA:=[M 83 12,M 84 83,lJ 85 84 14,lJ 86 84 11,T 87 84 (b .geq (s 85) (s 86)),lI 88 84 87,M 12 88]
abbrev aIC:LA:=[M 89 13,H 90 1 8,E 91 90,M 92 14,lE 93 91 92,E 94 93,M 95 1,lC 96 3 94 95,G 97 3 96,⟨S 98,N,y (.agg 3) [s 97]⟩,lS 99 3 32 89 98,M 13 99]
abbrev aIB:LA:=[M 69 14,lB 70 69,M 14 70]
abbrev aFd:aJ:=(Q (Q (O aIG) (C (s 68) Z (X 4))) (Q (K 5 (Q (D 12 aIF aBI) (C (s 82) (Q (O aID) (O aIC)) Z))) (O aIB)))
abbrev aD7:LA:=[M 100 12,A 101 (.not (s 100))]
abbrev aD6:LA:=[M 103 0,M 104 13,P 105 53 [s 103,s 104],M 102 105,lQ 106 102 0,lQ 107 102 1,⟨S 15,N,x (.agg 3) (c (.agg [(I j 0),(I j 0),(.str ⟨#[]⟩)]))⟩,W 3 15 106,M 16 107]
abbrev aD5:LA:=[M 108 16,A 109 (b .neq (s 108) (B 0))]
abbrev aD4:LA:=[M 110 16,A 6 (m (c (.sl F .nil []))),M 7 110]
abbrev aCi:LA:=[⟨S 111,N,y (.agg 3) []⟩,H 112 1 8,E 113 112,M 114 11,lE 115 113 114,E 116 115,lS 117 3 32 111 116,M 17 117]
abbrev aCh:LA:=[M 118 17,M 119 1,G 120 3 15,lC 121 3 118 119,W 3 121 120]
abbrev aBw:LA:=[G 122 2 10,M 123 17,P 124 27 [s 122,s 123],W 2 10 124]
abbrev aIA:LA:=[M 62 11,lB 63 62,M 11 63]
abbrev aFc:aJ:=(Q (Q (O aIJ) (C (s 61) Z (X 2))) (Q (K 3 (Q (O aFb) (Q (O aII) (Q (Q (O aIH) (K 4 (R aFd))) (Q (Q (O aD7) (C (s 101) (X 3) Z)) (Q (O aD6) (Q (Q (O aD5) (C (s 109) (Q (O aD4) .ret) Z)) (Q (O aCi) (Q (O aCh) (O aBw)))))))))) (O aIA)))
abbrev aD3:LA:=[H 125 1 10,E 126 125,M 6 126,lF 7 0]
def g24:LFn:=⟨(Q (O aOj) (Q (Q (O aOi) (C (s 23) (Q (O aIE) .ret) Z)) (Q (O aOh) (Q (Q (O aH9) (K 0 (R aOk))) (Q (Q (O aEB) (C (s 53) (Q (O aEA) .ret) Z)) (Q (O aD9) (Q (Q (O aD8) (K 2 (R aFc))) (Q (O aD3) .ret)))))))),127,[.slot 6,.slot 7]⟩
theorem aTd:aF Tryz.prog 28=some g24:=Zz
abbrev aOb:LD:=[(M 16 0,[]),(M 17 5,[]),(lC 18 3 16 17,[0,1]),(G 19 3 18,Z3),(M 20 1,[]),(M 21 5,[]),(lC 22 3 20 21,[4,5]),(G 23 3 22,[4,5,6]),(A 24 (e true (.plain (.agg 3) [.int,.int,.str]) (s 19) (s 23)),Z8)]
abbrev aOa:LA:=[lB 25 13,M 13 25]
abbrev aOc:aJ:=(Q (O aGh) (Q (C (s 14) Z (X 0)) (Q (K 1 (Q (O aJ7) (Q (D 9 aOb aBI) (C (s 24) (Q (O aCc) .ret) Z)))) (O aOa))))
def g25:LFn:=⟨(Q (O aCc) (Q (Q (O aJ8) (C (s 10) (Q (O aCc) .ret) Z)) (Q (Q (O aGi) (K 0 (R aOc))) (Q (O aGy) .ret)))),26,[.slot 4]⟩
theorem aTc:aF Tryz.prog 29=some g25:=Zz
abbrev aOZ:LA:=[A 2 (m (c (.sl (.agg 3) .nil [])))]
abbrev aOY:LA:=[M 3 0,P 4 54 [s 3],M 2 4]
def g26:LFn:=⟨(Q (O aOZ) (Q (O aOY) .ret)),5,[.slot 2]⟩
theorem aQv:aF Tryz.prog 30=some g26:=Zz
abbrev aOX:LA:=[M 5 0,P 6 30 [s 5],M 7 1,M 8 1,lB 9 8,P 10 55 [s 6,s 7,s 9],M 4 10]
def g27:LFn:=⟨(Q (O aGe) (Q (O aOX) .ret)),11,[.slot 4]⟩
theorem aTb:aF Tryz.prog 31=some g27:=Zz
abbrev aOV:LA:=[A 6 (m (c (.sl (.agg 3) .nil []))),A 7 (m (c (.sl F .nil [])))]
abbrev aOU:LA:=[M 10 0,lP 11 10,lF 12 0]
abbrev aOT:LA:=[lE 14 10 12,E 15 14,M 9 15]
abbrev aOS:LA:=[M 16 9,M 17 1,P 18 31 [s 16,s 17],M 19 2,P 20 24 [s 18,s 19],A 21 (b .eql (s 20) (B 0))]
abbrev aOR:LA:=[M 22 6,M 23 9,M 24 1,lC 25 3 23 24,G 26 3 25,⟨S 27,N,y (.agg 3) [s 26]⟩,lS 28 3 32 22 27,M 6 28]
abbrev aOQ:LA:=[M 29 7,M 30 9,⟨S 31,N,y F [s 30]⟩,⟨S 32,N,a F 24 (s 29) (s 31)⟩,M 7 32]
abbrev aOP:LA:=[lB 33 12,M 12 33]
abbrev aOW:aJ:=(Q (O aIQ) (Q (C (s 13) Z (X 0)) (Q (K 1 (Q (O aOT) (Q (O aOS) (C (s 21) (O aOR) (O aOQ))))) (O aOP))))
abbrev aOO:LA:=[M 34 6,M 35 7,M 6 34,M 7 35]
def g28:LFn:=⟨(Q (O aOV) (Q (Q (O aOU) (K 0 (R aOW))) (Q (O aOO) .ret))),36,[.slot 6,.slot 7]⟩
theorem aTa:aF Tryz.prog 32=some g28:=Zz
abbrev aOK:LA:=[⟨S 4,N,x (.agg 3) (c (.agg [(I j 0),(I j 0),(.str ⟨#[]⟩)]))⟩,A 5 (m (c .nilIface))]
abbrev aOJ:LA:=[A 6 (m (c (.fn (.func 56) [] [])))]
abbrev aOI:LA:=[A 7 (m (c (.fn (.func 58) [] [])))]
abbrev aOH:LA:=[M 13 0,A 14 (b .lss (s 13) (B 1)),M 15 14,lM 16 15 0,U 17 15 (b .gtr (s 16) (B 4)),lH 18 15 17,M 12 18]
abbrev aOG:LA:=[⟨S 19,N,v (.build [(I j 0),(I j 0),(.str ⟨#[]⟩)] [])⟩,A 20 (.mkif 83 (B 1)),W 3 4 19,M 5 20]
abbrev aOF:LA:=[M 22 1,lP 23 22,A 24 (b .eql (s 23) (B 0)),M 21 24]
abbrev aOE:LA:=[⟨S 25,N,v (.build [(I j 0),(I j 0),(.str ⟨#[]⟩)] [])⟩,A 26 (.mkif 83 (B 13)),W 3 4 25,M 5 26]
abbrev aOD:LA:=[M 28 1,M 29 6,P 30 59 [s 28,s 29],M 27 30]
abbrev aOC:LA:=[⟨S 31,N,v (.build [(I j 0),(I j 0),(.str ⟨#[]⟩)] [])⟩,A 32 (.mkif 83 (B 2)),W 3 4 31,M 5 32]
abbrev aOB:LA:=[M 34 0,A 35 (b .eql (s 34) (B 2)),M 36 35,lJ 37 36 1,lJ 38 36 7,⟨S 39,S (36,true),k 59 [s 37,s 38]⟩,lI 40 36 39,M 33 40]
abbrev aH7:LA:=[⟨S 41,N,v (.build [(I j 0),(I j 0),(.str ⟨#[]⟩)] [])⟩,A 42 (.mkif 83 (B 7)),W 3 4 41,M 5 42]
abbrev aH6:LA:=[M 43 1,P 44 60 [s 43,(c (.fn (.func 46) [] []))],M 8 44]
abbrev aH5:LA:=[M 45 0]
abbrev aH4:LA:=[A 47 (b .eql (s 45) (B 1)),M 46 47]
abbrev aH3:LA:=[M 48 8,lP 49 48,P 50 61 [s 49],lQ 51 50 0,lQ 52 50 1,W 3 4 51,M 5 52]
abbrev aH2:LA:=[A 54 (b .eql (s 45) (B 3)),M 53 54]
abbrev aH1:LA:=[M 55 8,A 56 (i (.agg 3) (s 55) (B 0)),G 57 3 56,W 3 4 57,A 5 (m (c .nilIface))]
abbrev aH0:LA:=[A 59 (b .eql (s 45) (B 4)),M 58 59]
abbrev aHz:LA:=[M 60 8,M 61 8,lP 62 61,A 63 (b .sub (s 62) (B 1)),lC 64 3 60 63,G 65 3 64,W 3 4 65,A 5 (m (c .nilIface))]
abbrev aHy:LA:=[M 66 8,lP 67 66,lF 68 0]
abbrev aHx:LA:=[lA 69 68 67]
abbrev aHw:LA:=[lC 70 3 66 68,G 71 3 70,⟨S 11,N,x (.agg 3) (c (.agg [(I j 0),(I j 0),(.str ⟨#[]⟩)]))⟩,W 3 11 71]
abbrev aHv:LA:=[M 72 9,H 73 1 11,E 74 73,A 75 (b .add (s 72) (s 74)),M 9 75]
abbrev aHu:LA:=[lB 76 68,M 68 76]
abbrev aOL:aJ:=(Q (O aHx) (Q (C (s 69) Z (X 2)) (Q (K 3 (Q (O aHw) (O aHv))) (O aHu))))
abbrev aHt:LA:=[M 77 9,P 78 61 [s 77],lQ 79 78 0,lQ 80 78 1,W 3 4 79,M 5 80]
def g29:LFn:=⟨(Q (O aOK) (Q (O aOJ) (Q (O aOI) (Q (K 0 (Q (O aOH) (C (s 12) (Q (O aOG) .ret) (Q (O aOF) (C (s 21) (Q (O aOE) .ret) (Q (O aOD) (C (s 27) (Q (O aOC) .ret) (Q (O aOB) (C (s 33) (Q (O aH7) .ret) Z))))))))) (Q (O aH6) (Q (Q (O aH5) (K 1 (Q (O aH4) (C (s 46) (Q (O aH3) .ret) (Q (O aH2) (C (s 53) (Q (O aH1) .ret) (Q (O aH0) (C (s 58) (Q (O aHz) .ret) Z)))))))) (Q (O aH9) (Q (Q (O aHy) (K 2 (R aOL))) (Q (O aHt) .ret))))))))),81,[.cell 4 (.agg 3),.slot 5]⟩
theorem aTZ:aF Tryz.prog 33=some g29:=Zz
abbrev aN9:LA:=[Y 1 6 0,⟨S 2,N,x (.agg 6) (c (.agg [(I j 0),(.str ⟨#[]⟩),(I j 0),(I j 0),(.str ⟨#[]⟩),(.sl (.agg 6) .nil [])]))⟩]
abbrev aN8:LA:=[H 6 0 1,E 7 6,H 8 1 1,G 9 4 8,⟨S 10,N,v (.build [(I j 0),(.str ⟨#[]⟩),(I j 0),(I j 0),(.str ⟨#[]⟩),(.sl (.agg 6) .nil [])] [(0,F,(s 7)),(1,(.agg 4),(s 9))])⟩,⟨S 3,N,x (.agg 6) (c (.agg [(I j 0),(.str ⟨#[]⟩),(I j 0),(I j 0),(.str ⟨#[]⟩),(.sl (.agg 6) .nil [])]))⟩,W 6 3 10]
abbrev aN7:LA:=[H 11 5 1,E 12 11,lP 13 12,lF 14 0]
abbrev aN6:LA:=[lC 16 6 12 14,G 17 6 16,⟨S 5,N,x (.agg 6) (c (.agg [(I j 0),(.str ⟨#[]⟩),(I j 0),(I j 0),(.str ⟨#[]⟩),(.sl (.agg 6) .nil [])]))⟩,W 6 5 17]
abbrev aN5:LD:=[(H 18 5 3,[]),(E 19 18,[0]),(G 20 6 5,[]),(P 21 35 [s 20],[2]),(⟨S 22,N,y (.agg 6) [s 21]⟩,[2,3]),(lS 23 6 80 19 22,Z5),(H 24 5 3,Z6)]
abbrev aHs:LA:=[⟨N,N,t F (s 24) (s 23)⟩]
abbrev aN4:LA:=[lB 25 14,M 14 25]
abbrev aOA:aJ:=(Q (O aQu) (Q (C (s 15) Z (X 0)) (Q (K 1 (Q (O aN6) (D 7 aN5 aHs))) (O aN4))))
abbrev aN3:LA:=[G 26 6 3,W 6 2 26]
def g30:LFn:=⟨(Q (O aN9) (Q (O aN8) (Q (Q (O aN7) (K 0 (R aOA))) (Q (O aN3) .ret)))),27,[.cell 2 (.agg 6)]⟩
theorem aTQ:aF Tryz.prog 35=some g30:=Zz
abbrev aHr:LA:=[Y 1 2 0,lG 2]
abbrev aN2:LA:=[H 3 0 1,E 4 3,P 5 64 [s 4],M 6 5,lL 7 6 1 1,lK 8 6 7,T 9 6 (w (s 8)),T 10 6 (b .leq (s 9) (B 6)),lI 11 6 10,M 12 11,lL 13 12 1 1,lK 14 12 13,⟨S 15,S (12,true),k 65 [s 14,(c (.fn (.func 66) [] []))]⟩,lI 16 12 15,M 2 16]
def g31:LFn:=⟨(Q (O aHr) (Q (O aN2) .ret)),17,[.slot 2]⟩
theorem aTP:aF Tryz.prog 36=some g31:=Zz
abbrev aN1:LA:=[H 3 2 1,E 4 3,A 5 (b .eql (s 4) (B 0))]
abbrev aN0:LA:=[H 6 3 1,E 7 6,A 8 (b .eql (s 7) (B 0)),M 2 8]
abbrev aNz:LA:=[H 9 2 1,E 10 9,A 11 (b .lss (s 10) (B 0)),M 12 11,lO 13 12 2 1,lN 14 12 13,U 15 12 (b .gtr (s 14) (B 4)),lH 16 12 15,M 17 16,lO 18 17 3 1,lN 19 17 18,U 20 17 (b .lss (s 19) (B 0)),lH 21 17 20,M 22 21,lO 23 22 3 1,lN 24 22 23,lO 25 22 0 1,lO 26 22 1 25,lN 27 22 26,U 28 22 (w (s 27)),U 29 22 (b .geq (s 24) (s 28)),lH 30 22 29]
abbrev aNy:LA:=[H 31 0 1,H 32 1 31,E 33 32,H 34 3 1,E 35 34,lC 36 4 33 35,H 37 0 36,E 38 37,⟨S 39,N,v (b .neq (s 38) (c (.str ⟨#[]⟩)))⟩,M 2 39]
def g32:LFn:=⟨(Q (O aCj) (Q (Q (O aN1) (C (s 5) (Q (O aN0) .ret) Z)) (Q (Q (O aNz) (C (s 30) (Q (O aBD) .ret) Z)) (Q (O aNy) .ret)))),40,[.slot 2]⟩
theorem aTO:aF Tryz.prog 37=some g32:=Zz
abbrev aHq:LA:=[⟨S 3,N,x F (s 1)⟩,lG 4]
abbrev aNx:LA:=[M 5 0,A 6 (.mkfn (.func 68) [] [s 3]),P 7 67 [s 5,s 6],A 8 (.not (s 7)),M 4 8]
def g33:LFn:=⟨(Q (O aHq) (Q (O aNx) .ret)),9,[.slot 4]⟩
theorem aTN:aF Tryz.prog 38=some g33:=Zz
abbrev aHp:LA:=[Y 1 17 0,lG 2]
abbrev aHo:LA:=[H 3 0 1,E 4 3]
abbrev aHn:LA:=[A 6 (b .eql (s 4) (B 1)),M 5 6]
abbrev aNw:LA:=[A 7 (b .eql (s 4) (B 2)),M 5 7]
abbrev aNv:LA:=[H 8 1 1,G 9 2 8,P 10 36 [s 9],M 11 10,lL 12 11 3 1,lK 13 11 12,T 14 11 (b .eql (s 13) (B 0)),lI 15 11 14,M 16 15,lL 17 16 4 1,T 18 16 (l (.agg 6) (s 17)),⟨S 19,S (16,true),k 69 [s 18]⟩,lI 20 16 19,M 21 20,lL 22 21 10 1,T 23 21 (l (.agg 6) (s 22)),⟨S 24,S (21,true),k 69 [s 23]⟩,lI 25 21 24,M 2 25]
abbrev aNu:LA:=[A 27 (b .eql (s 4) (B 3)),M 26 27]
abbrev aNt:LA:=[H 28 1 1,H 29 0 28,E 30 29,⟨S 31,N,v (b .eql (s 30) (c (.str ⟨#[]⟩)))⟩,M 32 31,lL 33 32 1 1,lL 34 32 1 33,lK 35 32 34,T 36 32 (w (s 35)),T 37 32 (b .eql (s 36) (B 0)),lI 38 32 37,M 39 38,lL 40 39 3 1,lK 41 39 40,T 42 39 (b .geq (s 41) (B 1)),lI 43 39 42,M 44 43,lL 45 44 3 1,lK 46 44 45,T 47 44 (b .leq (s 46) (B 6)),lI 48 44 47,M 49 48,lL 50 49 4 1,T 51 49 (l (.agg 6) (s 50)),⟨S 52,S (49,true),k 70 [s 51]⟩,lI 53 49 52,M 54 53,lL 55 54 10 1,T 56 54 (l (.agg 6) (s 55)),⟨S 57,S (54,true),k 70 [s 56]⟩,lI 58 54 57,M 2 58]
def g34:LFn:=⟨(Q (O aHp) (Q (Q (O aHo) (K 0 (Q (Q (O aHn) (C (s 5) Z (O aNw))) (C (s 5) (Q (O aNv) .ret) (Q (O aNu) (C (s 26) (Q (O aNt) .ret) Z)))))) (Q (O aBD) .ret))),59,[.slot 2]⟩
theorem aTM:aF Tryz.prog 39=some g34:=Zz
abbrev aNs:LA:=[Y 2 4 0,⟨S 4,N,x (.agg 3) (c (.agg [(I j 0),(I j 0),(.str ⟨#[]⟩)]))⟩,A 5 (m (c .nilIface))]
abbrev aNr:LA:=[H 8 0 2,E 9 8,⟨S 10,N,v (b .eql (s 9) (c (.str ⟨#[]⟩)))⟩]
abbrev aNq:LA:=[H 11 1 2,G 12 3 11,P 13 57 [s 12],A 14 (.not (s 13))]
abbrev aNp:LA:=[⟨S 15,N,v (.build [(I j 0),(I j 0),(.str ⟨#[]⟩)] [])⟩,A 16 (.mkif 83 (B 2)),W 3 4 15,M 5 16]
abbrev aNo:LA:=[H 17 1 2,G 18 3 17,W 3 4 18,A 5 (m (c .nilIface))]
abbrev aNn:LA:=[M 20 1,H 21 0 2,E 22 21,⟨S 23,N,v (.mget F [.str] (.agg [(I j 0),(I j 0),(.str ⟨#[]⟩)]) true (s 20) (s 22))⟩,M 19 23,lQ 24 19 0,lQ 25 19 1,⟨S 6,N,x (.agg 3) (c (.agg [(I j 0),(I j 0),(.str ⟨#[]⟩)]))⟩,W 3 6 24,M 7 25]
abbrev aNm:LA:=[M 26 7,A 27 (.not (s 26)),M 28 27,U 29 28 (l (.agg 3) (s 6)),⟨S 30,S (28,false),k 57 [s 29]⟩,U 31 28 (.not (s 30)),lH 32 28 31]
abbrev aNl:LA:=[⟨S 33,N,v (.build [(I j 0),(I j 0),(.str ⟨#[]⟩)] [])⟩,A 34 (.mkif 83 (B 13)),W 3 4 33,M 5 34]
abbrev aNk:LA:=[G 35 3 6,W 3 4 35,A 5 (m (c .nilIface))]
def g35:LFn:=⟨(Q (O aNs) (Q (Q (O aNr) (C (s 10) (Q (Q (O aNq) (C (s 14) (Q (O aNp) .ret) Z)) (Q (O aNo) .ret)) Z)) (Q (O aNn) (Q (Q (O aNm) (C (s 32) (Q (O aNl) .ret) Z)) (Q (O aNk) .ret))))),36,[.cell 4 (.agg 3),.slot 5]⟩
theorem aTL:aF Tryz.prog 40=some g35:=Zz
abbrev aNj:LA:=[lG 5]
abbrev aNi:LA:=[E 6 2,M 7 0,M 8 1,⟨S 9,N,.callv (s 6) [s 7,s 8]⟩,A 10 (b .eql (s 9) (B 0)),M 5 10]
def g36:LFn:=⟨(Q (O aNj) (Q (O aNi) .ret)),11,[.slot 5]⟩
theorem aTK:aF Tryz.prog 44=some g36:=Zz
abbrev aD2:LA:=[lF 6 0]
abbrev aNg:LA:=[M 15 13,lC 16 3 11 13,G 17 3 16,⟨S 8,N,x (.agg 3) (c (.agg [(I j 0),(I j 0),(.str ⟨#[]⟩)]))⟩,M 7 15,W 3 8 17]
abbrev aNf:LA:=[M 18 7,M 19 1,lP 20 19,A 21 (b .geq (s 18) (s 20))]
abbrev aNe:LA:=[lF 6 1]
abbrev aNd:LA:=[M 22 1,M 23 7,lC 24 3 22 23,G 25 3 24,⟨S 9,N,x (.agg 3) (c (.agg [(I j 0),(I j 0),(.str ⟨#[]⟩)]))⟩,W 3 9 25]
abbrev aNc:LA:=[M 26 2,G 27 3 8,G 28 3 9,⟨S 29,N,.callv (s 26) [s 27,s 28]⟩,M 10 29]
abbrev aNb:LA:=[M 30 10,A 31 (b .neq (s 30) (B 0))]
abbrev aNa:LA:=[M 32 10,M 6 32]
abbrev aHl:LA:=[lB 33 13,M 13 33]
abbrev aNh:aJ:=(Q (O aGh) (Q (C (s 14) Z (X 0)) (Q (K 1 (Q (O aNg) (Q (Q (O aNf) (C (s 21) (Q (O aNe) .ret) Z)) (Q (O aNd) (Q (O aNc) (Q (O aNb) (C (s 31) (Q (O aNa) .ret) Z))))))) (O aHl))))
abbrev aHk:LA:=[M 34 0,lP 35 34,M 36 1,lP 37 36,lA 38 35 37]
abbrev aHj:LA:=[A 6 (m (B (-1)))]
def g37:LFn:=⟨(Q (O aD2) (Q (Q (O aGi) (K 0 (R aNh))) (Q (Q (O aHk) (C (s 38) (Q (O aHj) .ret) Z)) (Q (O aD2) .ret)))),39,[.slot 6]⟩
theorem aTJ:aF Tryz.prog 45=some g37:=Zz
abbrev aNZ:LA:=[Y 2 3 0,Y 3 3 1,lF 4 0]
abbrev aNY:LD:=[(H 5 0 2,[]),(E 6 5,[0]),(H 7 0 3,[]),(E 8 7,[2]),(P 9 75 [s 6,s 8],Z4),(H 10 1 2,[]),(E 11 10,[5]),(H 12 1 3,[]),(E 13 12,[7]),(P 14 76 [s 11,s 13],Z9),(H 15 2 2,[]),(E 16 15,[10]),(H 17 2 3,[]),(E 18 17,[12]),(P 19 77 [s 16,s 18],Z14),(⟨S 20,N,y F [s 9,s 14,s 19]⟩,Z15),(P 21 74 [s 20],[0,1,2,3,4,5,6,7,8,9,10,11,12,13,14,15]),(M 4 21,[0,1,2,3,4,5,6,7,8,9,10,11,12,13,14,15,16])]
def g38:LFn:=⟨(Q (O aNZ) (Q (D 18 aNY aBI) .ret)),22,[.slot 4]⟩
theorem aTI:aF Tryz.prog 46=some g38:=Zz
abbrev aNW:LA:=[M 4 3,H 5 1 1,E 6 5,lP 7 6,lA 8 4 7]
abbrev aNV:LA:=[M 11 3,A 12 (b .gtr (s 11) (B 5)),M 13 12,lO 14 13 1 1,lN 15 13 14,lM 16 13 3,U 17 13 (i (.agg 4) (s 15) (s 16)),U 18 13 (l (.agg 4) (s 17)),⟨S 19,S (13,false),k 78 [s 18]⟩,U 20 13 (.not (s 19)),lH 21 13 20]
abbrev aNU:LA:=[M 9 3,lB 10 9,M 3 10]
abbrev aNX:aJ:=(Q (Q (O aNW) (C (s 8) Z (X 0))) (Q (K 1 (Q (O aNV) (C (s 21) (Q (O aBD) .ret) Z))) (O aNU)))
abbrev aNT:LA:=[H 22 0 1,E 23 22,P 24 79 [s 23],M 2 24]
def g39:LFn:=⟨(Q (O aHr) (Q (Q (O aHm) (K 0 (R aNX))) (Q (O aNT) .ret))),25,[.slot 2]⟩
theorem aTH:aF Tryz.prog 47=some g39:=Zz
abbrev aNS:LA:=[H 3 0 1,E 4 3,A 5 (b .eql (s 4) (B 1)),M 6 5,lO 7 6 0 1,lN 8 6 7,U 9 6 (b .eql (s 8) (B 2)),lH 10 6 9]
abbrev aNR:LA:=[H 11 1 1,G 12 2 11,P 13 47 [s 12],M 14 13,lL 15 14 3 1,lK 16 14 15,T 17 14 (b .eql (s 16) (B 0)),lI 18 14 17,M 19 18,lL 20 19 4 1,T 21 19 (l (.agg 6) (s 20)),⟨S 22,S (19,true),k 80 [s 21]⟩,lI 23 19 22,M 24 23,lL 25 24 10 1,T 26 24 (l (.agg 6) (s 25)),⟨S 27,S (24,true),k 80 [s 26]⟩,lI 28 24 27,M 2 28]
abbrev aNQ:LA:=[H 29 0 1,E 30 29,A 31 (b .eql (s 30) (B 3)),M 32 31,lL 33 32 1 1,lL 34 32 0 33,lK 35 32 34,T 36 32 (.slen (s 35)),T 37 32 (b .eql (s 36) (B 0)),lI 38 32 37,M 39 38,lL 40 39 1 1,lL 41 39 1 40,lK 42 39 41,T 43 39 (w (s 42)),T 44 39 (b .eql (s 43) (B 0)),lI 45 39 44,M 46 45,lL 47 46 3 1,lK 48 46 47,T 49 46 (b .geq (s 48) (B 1)),lI 50 46 49,M 51 50,lL 52 51 3 1,lK 53 51 52,T 54 51 (b .leq (s 53) (B 6)),lI 55 51 54,M 56 55,lL 57 56 4 1,T 58 56 (l (.agg 6) (s 57)),⟨S 59,S (56,true),k 81 [s 58]⟩,lI 60 56 59,M 61 60,lL 62 61 10 1,T 63 61 (l (.agg 6) (s 62)),⟨S 64,S (61,true),k 81 [s 63]⟩,lI 65 61 64,M 2 65]
def g40:LFn:=⟨(Q (O aHp) (Q (Q (O aNS) (C (s 10) (Q (O aNR) .ret) Z)) (Q (O aNQ) .ret))),66,[.slot 2]⟩
theorem aTA:aF Tryz.prog 48=some g40:=Zz
abbrev aNP:LA:=[Y 2 4 0,⟨S 4,N,x (.agg 3) (c (.agg [(I j 0),(I j 0),(.str ⟨#[]⟩)]))⟩,lF 5 0]
abbrev aNO:LA:=[H 8 0 2,E 9 8,A 10 (.slen (s 9)),A 11 (b .gtr (s 10) (B 0))]
abbrev aNN:LA:=[M 13 1,H 14 0 2,E 15 14,P 16 82 [s 13,s 15],M 12 16,lQ 17 12 0,lQ 18 12 1,⟨S 6,N,x (.agg 3) (c (.agg [(I j 0),(I j 0),(.str ⟨#[]⟩)]))⟩,W 3 6 17,M 7 18]
abbrev aNM:LA:=[M 19 7,A 20 (.not (s 19)),M 21 20,U 22 21 (l (.agg 3) (s 6)),⟨S 23,S (21,false),k 83 [s 22]⟩,U 24 21 (.not (s 23)),lH 25 21 24]
abbrev aNL:LA:=[⟨S 26,N,v (.build [(I j 0),(I j 0),(.str ⟨#[]⟩)] [])⟩,W 3 4 26,lF 5 13]
abbrev aNK:LA:=[G 27 3 6,W 3 4 27,lF 5 0]
abbrev aNJ:LA:=[H 28 1 2,G 29 3 28,P 30 83 [s 29],A 31 (.not (s 30))]
abbrev aNI:LA:=[⟨S 32,N,v (.build [(I j 0),(I j 0),(.str ⟨#[]⟩)] [])⟩,W 3 4 32,lF 5 2]
abbrev aNH:LA:=[H 33 1 2,G 34 3 33,W 3 4 34,lF 5 0]
def g41:LFn:=⟨(Q (O aNP) (Q (Q (O aNO) (C (s 11) (Q (O aNN) (Q (Q (O aNM) (C (s 25) (Q (O aNL) .ret) Z)) (Q (O aNK) .ret))) Z)) (Q (Q (O aNJ) (C (s 31) (Q (O aNI) .ret) Z)) (Q (O aNH) .ret)))),35,[.cell 4 (.agg 3),.slot 5]⟩
theorem aS9:aF Tryz.prog 49=some g41:=Zz
abbrev aNF:LA:=[Y 2 2 0,lG 4]
abbrev aNE:LA:=[M 6 5,H 7 1 2,E 8 7,lP 9 8,lA 10 6 9]
abbrev aND:LA:=[H 13 1 2,E 14 13,M 15 5,lE 16 14 15,E 17 16,M 18 1,P 19 84 [s 17,s 18]]
abbrev aNC:LA:=[M 11 5,lB 12 11,M 5 12]
abbrev aNG:aJ:=(Q (Q (O aNE) (C (s 10) Z (X 0))) (Q (K 1 (Q (O aND) (C (s 19) (Q (O aGy) .ret) Z))) (O aNC)))
def g42:LFn:=⟨(Q (O aNF) (Q (Q (O aEC) (K 0 (R aNG))) (Q (O aCc) .ret))),20,[.slot 4]⟩
theorem aS8:aF Tryz.prog 50=some g42:=Zz
abbrev aNA:LA:=[M 6 5,M 7 0,lP 8 7,lA 9 6 8,M 10 9,lJ 11 10 5,lJ 12 10 1,T 13 10 (w (s 12)),T 14 10 (b .lss (s 11) (s 13)),lI 15 10 14]
abbrev aM9:LD:=[(M 18 0,[]),(M 19 5,[]),(lC 20 3 18 19,[0,1]),(G 21 3 20,Z3),(M 22 1,[]),(M 23 5,[]),(lC 24 3 22 23,[4,5]),(G 25 3 24,[4,5,6]),(A 26 (e true (.plain (.agg 3) [.int,.int,.str]) (s 21) (s 25)),Z8)]
abbrev aM8:LD:=[(M 27 0,[]),(M 28 5,[]),(lC 29 3 27 28,[0,1]),(G 30 3 29,Z3),(M 31 1,[]),(M 32 5,[]),(lC 33 3 31 32,[4,5]),(G 34 3 33,[4,5,6]),(P 35 85 [s 30,s 34],Z8),(M 4 35,Z9)]
abbrev aM7:LA:=[M 16 5,lB 17 16,M 5 17]
abbrev aNB:aJ:=(Q (Q (O aNA) (C (s 15) Z (X 0))) (Q (K 1 (Q (D 9 aM9 aBI) (C (s 26) (Q (D 10 aM8 aBI) .ret) Z))) (O aM7)))
abbrev aM6:LA:=[M 36 0,lP 37 36,M 38 1,lP 39 38,lA 40 37 39,M 4 40]
def g43:LFn:=⟨(Q (O aCc) (Q (Q (O aEC) (K 0 (R aNB))) (Q (O aM6) .ret))),41,[.slot 4]⟩
theorem aS7:aF Tryz.prog 51=some g43:=Zz
abbrev aGH:LA:=[lG 6]
abbrev aM4:LA:=[M 8 0,lP 9 8,M 10 1,lP 11 10,A 12 (b .neq (s 9) (s 11))]
abbrev aM3:LA:=[M 13 7,M 14 0,lP 15 14,lA 16 13 15]
abbrev aM2:LD:=[(M 19 7,[]),(M 20 2,[]),(A 21 (b .neq (s 19) (s 20)),[0,1]),(M 22 21,Z3),(lJ 23 22 0,Z4),(lJ 24 22 7,Z4),(T 25 22 (i (.agg 3) (s 23) (s 24)),Z6),(T 26 22 (l (.agg 3) (s 25)),[0,1,2,3,4,5,6]),(lJ 27 22 1,Z4),(lJ 28 22 7,Z4),(T 29 22 (i (.agg 3) (s 27) (s 28)),[0,1,2,3,8,9]),(T 30 22 (l (.agg 3) (s 29)),[0,1,2,3,8,9,10]),(T 31 22 (e true (.plain (.agg 3) [.int,.int,.str]) (s 26) (s 30)),[0,1,2,3,4,5,6,7,8,9,10,11]),(lI 32 22 31,[0,1,2,3,4,5,6,7,8,9,10,11,12])]
abbrev aM1:LA:=[M 17 7,lB 18 17,M 7 18]
abbrev aM5:aJ:=(Q (Q (O aM3) (C (s 16) Z (X 0))) (Q (K 1 (Q (D 14 aM2 aBI) (C (s 32) (Q (O aGH) .ret) Z))) (O aM1)))
abbrev aM0:LA:=[A 6 (m Bb)]
def g44:LFn:=⟨(Q (O aGH) (Q (Q (O aM4) (C (s 12) (Q (O aGH) .ret) Z)) (Q (Q (O aKl) (K 0 (R aM5))) (Q (O aM0) .ret)))),33,[.slot 6]⟩
theorem aS6:aF Tryz.prog 52=some g44:=Zz
abbrev aMy:LA:=[⟨S 4,N,x (.agg 3) (c (.agg [(I j 0),(I j 0),(.str ⟨#[]⟩)]))⟩,lF 5 0]
abbrev aMx:LA:=[M 14 0,A 15 (b .lss (s 14) (B 1)),M 16 15,lM 17 16 0,U 18 16 (b .gtr (s 17) (B 4)),lH 19 16 18]
abbrev aMw:LA:=[⟨S 20,N,v (.build [(I j 0),(I j 0),(.str ⟨#[]⟩)] [])⟩,W 3 4 20,lF 5 1]
abbrev aMv:LA:=[M 21 1,lP 22 21,A 23 (b .eql (s 22) (B 0))]
abbrev aMu:LA:=[⟨S 24,N,v (.build [(I j 0),(I j 0),(.str ⟨#[]⟩)] [])⟩,W 3 4 24,lF 5 13]
abbrev aMt:LA:=[M 25 6,M 26 1,lP 27 26,lA 28 25 27]
abbrev aMs:LA:=[M 31 1,M 32 6,lC 33 3 31 32,G 34 3 33,P 35 83 [s 34],A 36 (.not (s 35))]
abbrev aMr:LA:=[⟨S 37,N,v (.build [(I j 0),(I j 0),(.str ⟨#[]⟩)] [])⟩,W 3 4 37,lF 5 2]
abbrev aMq:LA:=[M 29 6,lB 30 29,M 6 30]
abbrev aMz:aJ:=(Q (Q (O aMt) (C (s 28) Z (X 0))) (Q (K 1 (Q (O aMs) (C (s 36) (Q (O aMr) .ret) Z))) (O aMq)))
abbrev aD1:LD:=[(M 38 1,[]),(A 39 (i (.agg 3) (s 38) (B 0)),[0]),(G 40 3 39,[0,1]),(M 41 1,[]),(A 42 (i (.agg 3) (s 41) (B 0)),[3]),(G 43 3 42,[3,4]),(⟨S 9,N,x (.agg 3) (c (.agg [(I j 0),(I j 0),(.str ⟨#[]⟩)]))⟩,[]),(⟨S 10,N,x (.agg 3) (c (.agg [(I j 0),(I j 0),(.str ⟨#[]⟩)]))⟩,[]),(lF 7 0,[6,7]),(lF 8 0,[6,7,8]),(W 3 9 40,[0,1,2,6,7,8,9]),(W 3 10 43,Z11)]
abbrev aD0:LA:=[lF 11 0]
abbrev aHi:LA:=[M 44 11,M 45 1,lP 46 45,lA 47 44 46]
abbrev aHh:LA:=[M 50 0,A 51 (b .eql (s 50) (B 2)),M 52 51,lJ 53 52 1,lJ 54 52 11,T 55 52 (i (.agg 3) (s 53) (s 54)),lL 56 52 0 55,lK 57 52 56,T 58 52 (b .neq (s 57) (B 1)),lI 59 52 58]
abbrev aHg:LA:=[⟨S 60,N,v (.build [(I j 0),(I j 0),(.str ⟨#[]⟩)] [])⟩,W 3 4 60,lF 5 7]
abbrev aHf:LA:=[lF 13 0]
abbrev aHe:LA:=[M 61 13,M 62 11,lA 63 61 62]
abbrev aHd:LD:=[(M 66 12,[]),(M 67 66,[0]),(lJ 68 67 1,[0,1]),(lJ 69 67 13,[0,1]),(T 70 67 (i (.agg 3) (s 68) (s 69)),Z4),(T 71 67 (l (.agg 3) (s 70)),Z5),(lJ 72 67 1,[0,1]),(lJ 73 67 11,[0,1]),(T 74 67 (i (.agg 3) (s 72) (s 73)),[0,1,6,7]),(T 75 67 (l (.agg 3) (s 74)),[0,1,6,7,8]),(T 76 67 (e true (.plain (.agg 3) [.int,.int,.str]) (s 71) (s 75)),[0,1,2,3,4,5,6,7,8,9]),(lI 77 67 76,Z11)]
abbrev aGG:LA:=[M 12 77]
abbrev aHc:LA:=[M 64 13,lB 65 64,M 13 65]
abbrev aFZ:aJ:=(Q (Q (O aHe) (C (s 63) Z (X 4))) (Q (K 5 (D 12 aHd aGG)) (O aHc)))
abbrev aDz:LA:=[M 78 12]
abbrev aDy:LA:=[M 79 7,lB 80 79,M 7 80]
abbrev aDx:LA:=[M 81 8,M 82 1,M 83 11,lC 84 3 82 83,H 85 1 84,E 86 85,A 87 (b .add (s 81) (s 86)),M 8 87]
abbrev aDw:LD:=[(M 88 1,[]),(M 89 11,[]),(lC 90 3 88 89,[0,1]),(G 91 3 90,Z3),(G 92 3 9,[]),(P 93 85 [s 91,s 92],Z5)]
abbrev aC2:LA:=[]
abbrev aDv:LA:=[M 94 1,M 95 11,lC 96 3 94 95,G 97 3 96,W 3 9 97]
abbrev aDu:LD:=[(G 98 3 10,[]),(M 99 1,[]),(M 100 11,[]),(lC 101 3 99 100,[1,2]),(G 102 3 101,[1,2,3]),(P 103 85 [s 98,s 102],Z5)]
abbrev aC1:LA:=[]
abbrev aDt:LA:=[M 104 1,M 105 11,lC 106 3 104 105,G 107 3 106,W 3 10 107]
abbrev aHb:LA:=[M 48 11,lB 49 48,M 11 49]
abbrev aFY:aJ:=(Q (Q (O aHi) (C (s 47) Z (X 2))) (Q (K 3 (Q (Q (O aHh) (C (s 59) (Q (O aHg) .ret) Z)) (Q (O aFb) (Q (Q (O aHf) (K 4 (R aFZ))) (Q (Q (O aDz) (C (s 78) (Q (O aDy) (O aDx)) Z)) (Q (Q (D 6 aDw aC2) (C (s 93) (O aDv) Z)) (Q (D 6 aDu aC1) (C (s 103) (O aDt) Z)))))))) (O aHb)))
abbrev aDs:LA:=[M 108 0,A 109 (b .eql (s 108) (B 3))]
abbrev aDr:LA:=[G 110 3 9,W 3 4 110,lF 5 0]
abbrev aDq:LA:=[M 111 0,A 112 (b .eql (s 111) (B 4))]
abbrev aDp:LA:=[G 113 3 10,W 3 4 113,lF 5 0]
abbrev aDo:LA:=[M 114 0,A 115 (b .eql (s 114) (B 1))]
abbrev aDn:LA:=[M 116 7,M 8 116]
abbrev aDm:LA:=[M 117 8,A 118 (b .gtr (s 117) (B 2147483647)),M 119 118,lM 120 119 8,U 121 119 (b .lss (s 120) (B (-2147483647))),lH 122 119 121]
abbrev aDl:LA:=[⟨S 123,N,v (.build [(I j 0),(I j 0),(.str ⟨#[]⟩)] [])⟩,W 3 4 123,lF 5 10]
abbrev aDk:LA:=[M 124 8,⟨S 125,N,v (.build [(I j 0),(I j 0),(.str ⟨#[]⟩)] [(0,F,(B 1)),(1,F,(s 124))])⟩,W 3 4 125,lF 5 0]
def g45:LFn:=⟨(Q (O aMy) (Q (Q (O aMx) (C (s 19) (Q (O aMw) .ret) Z)) (Q (Q (O aMv) (C (s 23) (Q (O aMu) .ret) Z)) (Q (Q (O aD2) (K 0 (R aMz))) (Q (D 13 aD1 aBI) (Q (Q (O aD0) (K 2 (R aFY))) (Q (Q (O aDs) (C (s 109) (Q (O aDr) .ret) Z)) (Q (Q (O aDq) (C (s 112) (Q (O aDp) .ret) Z)) (Q (Q (O aDo) (C (s 115) (O aDn) Z)) (Q (Q (O aDm) (C (s 122) (Q (O aDl) .ret) Z)) (Q (O aDk) .ret))))))))))),126,[.cell 4 (.agg 3),.slot 5]⟩
theorem aS5:aF Tryz.prog 53=some g45:=Zz
abbrev aE1:LA:=[Y 1 3 0,lG 2]
abbrev aMp:LA:=[G 3 3 1,P 4 57 [s 3],A 5 (.not (s 4)),M 2 5]
def g46:LFn:=⟨(Q (O aE1) (Q (O aMp) .ret)),6,[.slot 2]⟩
theorem aS4:aF Tryz.prog 56=some g46:=Zz
abbrev aMo:LA:=[H 7 2 1,E 8 7,⟨S 9,N,v (b .eql (s 8) (c (.str ⟨#[]⟩)))⟩,M 10 9,lL 11 10 1 1,lK 12 10 11,⟨S 13,S (10,true),k 86 [s 12]⟩,lI 14 10 13,M 2 14]
abbrev aMn:LA:=[A 16 (b .eql (s 4) (B 2)),M 15 16]
abbrev aMm:LA:=[H 17 1 1,E 18 17,A 19 (b .eql (s 18) (B 0)),M 20 19,lL 21 20 2 1,lK 22 20 21,⟨S 23,S (20,true),k 87 [s 22]⟩,lI 24 20 23,M 2 24]
def g47:LFn:=⟨(Q (O aE1) (Q (Q (O aHo) (K 0 (Q (O aHn) (C (s 5) (Q (O aMo) .ret) (Q (O aMn) (C (s 15) (Q (O aMm) .ret) Z)))))) (Q (O aBD) .ret))),25,[.slot 2]⟩
theorem aS3:aF Tryz.prog 57=some g47:=Zz
abbrev aMl:LA:=[H 3 0 1,E 4 3,A 5 (b .neq (s 4) (B 1)),M 2 5]
def g48:LFn:=⟨(Q (O aE1) (Q (O aMl) .ret)),6,[.slot 2]⟩
theorem aS2:aF Tryz.prog 58=some g48:=Zz
abbrev aMk:LA:=[⟨S 2,N,x (.agg 3) (c (.agg [(I j 0),(I j 0),(.str ⟨#[]⟩)]))⟩,A 3 (m (c .nilIface))]
abbrev aMj:LA:=[M 4 0,P 5 86 [s 4],A 6 (.not (s 5))]
abbrev aMi:LA:=[⟨S 7,N,v (.build [(I j 0),(I j 0),(.str ⟨#[]⟩)] [])⟩,A 8 (.mkif 83 (B 10)),W 3 2 7,M 3 8]
abbrev aMh:LA:=[M 9 0,⟨S 10,N,v (.build [(I j 0),(I j 0),(.str ⟨#[]⟩)] [(0,F,(B 1)),(1,F,(s 9))])⟩,W 3 2 10,A 3 (m (c .nilIface))]
def g49:LFn:=⟨(Q (O aMk) (Q (Q (O aMj) (C (s 6) (Q (O aMi) .ret) Z)) (Q (O aMh) .ret))),11,[.cell 2 (.agg 3),.slot 3]⟩
theorem aS1:aF Tryz.prog 61=some g49:=Zz
abbrev aHa:LA:=[M 7 0,P 8 94 [s 7],M 6 8,lQ 9 6 0,lQ 10 6 1,lQ 11 6 2,M 3 9,M 4 10,M 5 11]
abbrev aMg:LA:=[M 12 5,A 13 (e false (.iface true) (s 12) (c .nilIface)),M 14 13,lJ 15 14 3,T 16 14 (w (s 15)),T 17 14 (b .eql (s 16) (B 1)),lI 18 14 17,M 19 18,lJ 20 19 3,T 21 19 (i (.agg 3) (s 20) (B 0)),T 22 19 (l (.agg 3) (s 21)),lJ 23 19 0,⟨S 24,S (19,true),v (.build [(I j 0),(.str ⟨#[]⟩),(I j 0)] [(0,F,(B 2)),(1,F,(s 23))])⟩,T 25 19 (e false (.plain (.agg 3) [.int,.str,.int]) (s 22) (s 24)),lI 26 19 25,M 2 26]
def g50:LFn:=⟨(Q (O aBD) (Q (O aHa) (Q (O aMg) .ret))),27,[.slot 2]⟩
theorem aSp:aF Tryz.prog 64=some g50:=Zz
abbrev aMd:LA:=[M 5 0,A 6 (.mkfn (.func 96) [] [s 3]),P 7 95 [s 5,s 6],A 8 (.not (s 7)),M 4 8]
def g51:LFn:=⟨(Q (O aHq) (Q (O aMd) .ret)),9,[.slot 4]⟩
theorem aSo:aF Tryz.prog 65=some g51:=Zz
abbrev aHZ:LA:=[Y 1 4 0,lG 2]
abbrev aMc:LA:=[H 3 0 1,E 4 3,⟨S 5,N,v (b .eql (s 4) (c (.str ⟨#[]⟩)))⟩]
abbrev aMb:LA:=[H 6 1 1,G 7 3 6,P 8 57 [s 7],M 2 8]
abbrev aMa:LA:=[H 9 0 1,E 10 9,P 11 97 [s 10],M 12 11,lL 13 12 1 1,T 14 12 (l (.agg 3) (s 13)),⟨S 15,S (12,true),v (.build [(I j 0),(I j 0),(.str ⟨#[]⟩)] [])⟩,T 16 12 (e false (.plain (.agg 3) [.int,.int,.str]) (s 14) (s 15)),lI 17 12 16,M 2 17]
def g52:LFn:=⟨(Q (O aHZ) (Q (Q (O aMc) (C (s 5) (Q (O aMb) .ret) Z)) (Q (O aMa) .ret))),18,[.slot 2]⟩
theorem aSn:aF Tryz.prog 66=some g52:=Zz
abbrev aMZ:LA:=[Y 2 17 0,lG 3]
abbrev aMY:LA:=[E 4 1,G 5 17 2,⟨S 6,N,.callv (s 4) [s 5]⟩,A 7 (.not (s 6)),M 3 7]
def g53:LFn:=⟨(Q (O aMZ) (Q (O aMY) .ret)),8,[.slot 3]⟩
theorem aSm:aF Tryz.prog 68=some g53:=Zz
abbrev aMX:LA:=[H 3 0 1,E 4 3,A 5 (b .eql (s 4) (B 0)),M 6 5,lL 7 6 1 1,T 8 6 (l (.agg 4) (s 7)),⟨S 9,S (6,true),v (.build [(.str ⟨#[]⟩),(I j 0),(I j 0),(.str ⟨#[]⟩)] [])⟩,T 10 6 (e false (.plain (.agg 4) [.str,.int,.int,.str]) (s 8) (s 9)),lI 11 6 10,M 12 11,lL 13 12 5 1,lK 14 12 13,T 15 12 (w (s 14)),T 16 12 (b .eql (s 15) (B 0)),lI 17 12 16,M 2 17]
def g54:LFn:=⟨(Q (O aCj) (Q (O aMX) .ret)),18,[.slot 2]⟩
theorem aSl:aF Tryz.prog 69=some g54:=Zz
abbrev aMW:LA:=[G 3 6 1,P 4 99 [s 3,(B 20)],A 5 (b .geq (s 4) (B 0)),M 2 5]
def g55:LFn:=⟨(Q (O aCj) (Q (O aMW) .ret)),6,[.slot 2]⟩
theorem aSk:aF Tryz.prog 70=some g55:=Zz
abbrev aMT:LA:=[M 7 0,P 8 105 [s 7],M 5 8]
abbrev aMS:LA:=[M 9 1,P 10 105 [s 9],M 6 10]
abbrev aMR:LA:=[M 11 5]
abbrev aMQ:LA:=[M 12 6]
abbrev aMP:LA:=[M 13 6]
abbrev aHW:LA:=[lF 4 1]
abbrev aMO:LA:=[M 14 0,M 15 1,lA 16 14 15]
abbrev aHX:LA:=[M 17 0,M 18 1,A 19 (b .gtr (s 17) (s 18))]
def g56:LFn:=⟨(Q (O aCD) (Q (O aMT) (Q (O aMS) (Q (Q (O aMR) (C (s 11) (Q (Q (O aMQ) (C (s 12) (Q (O aCD) .ret) Z)) (Q (O aFa) .ret)) Z)) (Q (Q (O aMP) (C (s 13) (Q (O aHW) .ret) Z)) (Q (Q (O aMO) (C (s 16) (Q (O aFa) .ret) Z)) (Q (Q (O aHX) (C (s 19) (Q (O aHW) .ret) Z)) (Q (O aCD) .ret)))))))),20,[.slot 4]⟩
theorem aSj:aF Tryz.prog 77=some g56:=Zz
abbrev aMN:LA:=[H 3 0 1,E 4 3,A 5 (.slen (s 4)),A 6 (b .eql (s 5) (B 0))]
abbrev aMM:LA:=[H 7 1 1,G 8 3 7,P 9 83 [s 8],M 2 9]
abbrev aML:LA:=[H 10 0 1,E 11 10,P 12 106 [s 11],M 13 12,lL 14 13 1 1,T 15 13 (l (.agg 3) (s 14)),⟨S 16,S (13,true),v (.build [(I j 0),(I j 0),(.str ⟨#[]⟩)] [])⟩,T 17 13 (e false (.plain (.agg 3) [.int,.int,.str]) (s 15) (s 16)),lI 18 13 17,M 2 18]
def g57:LFn:=⟨(Q (O aHZ) (Q (Q (O aMN) (C (s 6) (Q (O aMM) .ret) Z)) (Q (O aML) .ret))),19,[.slot 2]⟩
theorem aSi:aF Tryz.prog 78=some g57:=Zz
abbrev aMK:LA:=[M 3 0,P 4 107 [s 3,(B 2)],M 2 4]
def g58:LFn:=⟨(Q (O aBD) (Q (O aMK) .ret)),5,[.slot 2]⟩
theorem aSh:aF Tryz.prog 79=some g58:=Zz
abbrev aMJ:LA:=[H 3 0 1,E 4 3,A 5 (b .eql (s 4) (B 0)),M 6 5,lL 7 6 5 1,lK 8 6 7,T 9 6 (w (s 8)),T 10 6 (b .eql (s 9) (B 0)),lI 11 6 10,M 12 11,lL 13 12 1 1,T 14 12 (l (.agg 4) (s 13)),⟨S 15,S (12,true),v (.build [(.str ⟨#[]⟩),(I j 0),(I j 0),(.str ⟨#[]⟩)] [])⟩,T 16 12 (e false (.plain (.agg 4) [.str,.int,.int,.str]) (s 14) (s 15)),lI 17 12 16,M 2 17]
def g59:LFn:=⟨(Q (O aCj) (Q (O aMJ) .ret)),18,[.slot 2]⟩
theorem aSg:aF Tryz.prog 80=some g59:=Zz
abbrev aMI:LA:=[G 3 6 1,P 4 108 [s 3,(B 20)],M 2 4]
def g60:LFn:=⟨(Q (O aCj) (Q (O aMI) .ret)),5,[.slot 2]⟩
theorem aSW:aF Tryz.prog 81=some g60:=Zz
abbrev aMG:LA:=[⟨S 4,N,x (.agg 3) (c (.agg [(I j 0),(I j 0),(.str ⟨#[]⟩)]))⟩,lG 5]
abbrev aMF:LA:=[M 7 6,M 8 0,lP 9 8,lA 10 7 9]
abbrev aME:LA:=[M 13 0,M 14 6,lC 15 4 13 14,H 16 0 15,E 17 16,M 18 1,A 19 (b .eql (s 17) (s 18))]
abbrev aMD:LA:=[M 20 0,M 21 6,lC 22 4 20 21,H 23 1 22,G 24 3 23,W 3 4 24,A 5 (m Bb)]
abbrev aMC:LA:=[M 11 6,lB 12 11,M 6 12]
abbrev aMH:aJ:=(Q (Q (O aMF) (C (s 10) Z (X 0))) (Q (K 1 (Q (O aME) (C (s 19) (Q (O aMD) .ret) Z))) (O aMC)))
abbrev aMB:LA:=[⟨S 25,N,v (.build [(I j 0),(I j 0),(.str ⟨#[]⟩)] [])⟩,W 3 4 25,lG 5]
def g61:LFn:=⟨(Q (O aMG) (Q (Q (O aD2) (K 0 (R aMH))) (Q (O aMB) .ret))),26,[.cell 4 (.agg 3),.slot 5]⟩
theorem aSV:aF Tryz.prog 82=some g61:=Zz
abbrev aMA:LA:=[H 3 0 1,E 4 3,A 5 (b .eql (s 4) (B 1))]
abbrev aL9:LA:=[H 6 2 1,E 7 6,A 8 (.slen (s 7)),A 9 (b .eql (s 8) (B 0)),M 10 9,lL 11 10 1 1,lK 12 10 11,T 13 10 (b .geq (s 12) (B (-2147483647))),lI 14 10 13,M 15 14,lL 16 15 1 1,lK 17 15 16,T 18 15 (b .leq (s 17) (B 2147483647)),lI 19 15 18,M 2 19]
abbrev aL8:LA:=[H 20 0 1,E 21 20,A 22 (b .eql (s 21) (B 2)),M 23 22,lL 24 23 1 1,lK 25 23 24,T 26 23 (b .eql (s 25) (B 0)),lI 27 23 26,M 28 27,lL 29 28 2 1,lK 30 28 29,⟨S 31,S (28,true),k 109 [s 30]⟩,lI 32 28 31,M 2 32]
def g62:LFn:=⟨(Q (O aE1) (Q (Q (O aMA) (C (s 5) (Q (O aL9) .ret) Z)) (Q (O aL8) .ret))),33,[.slot 2]⟩
theorem aSU:aF Tryz.prog 83=some g62:=Zz
abbrev aL7:LA:=[M 5 0,M 6 1,P 7 51 [s 5,s 6],A 8 (.not (s 7)),M 9 8,lJ 10 9 1,lJ 11 9 0,⟨S 12,S (9,true),k 51 [s 10,s 11]⟩,T 13 9 (.not (s 12)),lI 14 9 13,M 4 14]
def g63:LFn:=⟨(Q (O aCc) (Q (O aL7) .ret)),15,[.slot 4]⟩
theorem aST:aF Tryz.prog 84=some g63:=Zz
abbrev aL6:LA:=[Y 2 3 0,Y 3 3 1,lG 4]
abbrev aL5:LA:=[H 5 0 2,E 6 5,H 7 0 3,E 8 7,A 9 (b .neq (s 6) (s 8))]
abbrev aL4:LA:=[H 10 0 2,E 11 10,H 12 0 3,E 13 12,lA 14 11 13,M 4 14]
abbrev aL3:LA:=[H 15 1 2,E 16 15,H 17 1 3,E 18 17,A 19 (b .neq (s 16) (s 18))]
abbrev aL2:LA:=[H 20 1 2,E 21 20,H 22 1 3,E 23 22,lA 24 21 23,M 4 24]
abbrev aL1:LA:=[H 25 2 2,E 26 25,H 27 2 3,E 28 27,lA 29 26 28,M 4 29]
def g64:LFn:=⟨(Q (O aL6) (Q (Q (O aL5) (C (s 9) (Q (O aL4) .ret) Z)) (Q (Q (O aL3) (C (s 19) (Q (O aL2) .ret) Z)) (Q (O aL1) .ret)))),30,[.slot 4]⟩
theorem aSS:aF Tryz.prog 85=some g64:=Zz
abbrev aL0:LA:=[M 3 0,A 4 (b .geq (s 3) (B (-2147483647))),M 5 4,lJ 6 5 0,T 7 5 (b .leq (s 6) (B 2147483647)),lI 8 5 7,M 2 8]
def g65:LFn:=⟨(Q (O aBD) (Q (O aL0) .ret)),9,[.slot 2]⟩
theorem aSR:aF Tryz.prog 86=some g65:=Zz
abbrev aLz:LA:=[A 3 (m (c (.fn (.func 110) [] [])))]
abbrev aLy:LA:=[M 4 0,⟨S 5,N,v (b .neq (s 4) (c (.str ⟨#[]⟩)))⟩,M 6 5,lJ 7 6 0,T 8 6 (.slen (s 7)),T 9 6 (b .leq (s 8) (B 32)),lI 10 6 9,M 11 10,lJ 12 11 0,T 13 11 (.sidx .none (s 12) (B 0)),⟨S 14,S (11,true),k 111 [s 13]⟩,lI 15 11 14,M 16 15,lJ 17 16 0,lJ 18 16 3,⟨S 19,S (16,true),k 112 [s 17,s 18]⟩,T 20 16 (.not (s 19)),lI 21 16 20,M 2 21]
def g66:LFn:=⟨(Q (O aBD) (Q (O aLz) (Q (O aLy) .ret))),22,[.slot 2]⟩
theorem aSQ:aF Tryz.prog 87=some g66:=Zz
abbrev aLx:LA:=[Y 3 3 0,Y 4 3 1,lG 5]
abbrev aLw:LA:=[E 6 2,G 7 3 3,G 8 3 4,⟨S 9,N,.callv (s 6) [s 7,s 8]⟩,A 10 (b .eql (s 9) (B 0)),M 5 10]
def g67:LFn:=⟨(Q (O aLx) (Q (O aLw) .ret)),11,[.slot 5]⟩
theorem aSP:aF Tryz.prog 92=some g67:=Zz
abbrev aLu:LA:=[⟨S 2,N,x F (c (.sl (.agg 3) .nil []))⟩,⟨S 3,N,x F (B 0)⟩,⟨S 4,N,x F (c .nilIface)⟩]
abbrev aLt:LA:=[M 8 0,A 9 (.slen (s 8)),A 10 (b .gtr (s 9) (B 4000))]
abbrev aLs:LA:=[A 11 (.mkif 83 (B 3)),⟨N,N,t F (s 2) (c (.sl (.agg 3) .nil []))⟩,⟨N,N,t F (s 3) (B 4000)⟩,⟨N,N,t F (s 4) (s 11)⟩]
abbrev aLr:LA:=[⟨S 5,N,x F (c (.sl (.agg 3) .nil []))⟩]
abbrev aLq:LA:=[M 12 0,P 13 117 [s 12]]
abbrev aLp:LA:=[⟨S 6,N,x (.agg 3) (c (.agg [(I j 0),(.str ⟨#[]⟩),(I j 0)]))⟩,W 3 6 14]
abbrev aLo:LA:=[M 7 15]
abbrev aLn:LA:=[M 16 7,A 17 (e true (.iface true) (s 16) (c .nilIface))]
abbrev aC0:LD:=[(H 18 2 6,[]),(E 19 18,[0]),(M 20 7,[]),(⟨N,N,t F (s 2) (c (.sl (.agg 3) .nil []))⟩,[]),(⟨N,N,t F (s 3) (s 19)⟩,[0,1,3]),(⟨N,N,t F (s 4) (s 20)⟩,Z5)]
abbrev aDj:LA:=[]
abbrev aLm:LA:=[E 21 5,G 22 3 6,⟨S 23,N,y (.agg 3) [s 22]⟩,lS 24 3 32 21 23,⟨N,N,t F (s 5) (s 24)⟩]
abbrev aLv:aJ:=(K 1 (Q (Q (O aLn) (C (s 17) (Q (D 7 aC0 aDj) .ret) Z)) (O aLm)))
abbrev aHV:LA:=[E 25 5,⟨N,N,t F (s 2) (s 25)⟩,⟨N,N,t F (s 3) (B 0)⟩,⟨N,N,t F (s 4) (c .nilIface)⟩]
def g68:LFn:=⟨(Q (O aLu) (Q (Q (O aLt) (C (s 10) (Q (O aLs) .ret) Z)) (Q (O aLr) (Q (Q (O aLq) (K 0 (.range (s 13) [14,15] (Q (O aLp) (O aLo)) aLv))) (Q (O aHV) .ret))))),26,[.cell 2 F,.cell 3 F,.cell 4 F]⟩
theorem aSO:aF Tryz.prog 94=some g68:=Zz
abbrev aLj:LA:=[Y 2 4 0,lG 3]
abbrev aLi:LA:=[E 4 1,G 5 4 2,⟨S 6,N,.callv (s 4) [s 5]⟩,A 7 (.not (s 6)),M 3 7]
def g69:LFn:=⟨(Q (O aLj) (Q (O aLi) .ret)),8,[.slot 3]⟩
theorem aSN:aF Tryz.prog 96=some g69:=Zz
abbrev aLh:LA:=[M 12 5,A 13 (e false (.iface true) (s 12) (c .nilIface)),M 14 13,lJ 15 14 3,T 16 14 (w (s 15)),T 17 14 (b .eql (s 16) (B 1)),lI 18 14 17,M 19 18,lJ 20 19 3,T 21 19 (i (.agg 3) (s 20) (B 0)),T 22 19 (l (.agg 3) (s 21)),lJ 23 19 0,⟨S 24,S (19,true),v (.build [(I j 0),(.str ⟨#[]⟩),(I j 0)] [(0,F,(B 3)),(1,F,(s 23))])⟩,T 25 19 (e false (.plain (.agg 3) [.int,.str,.int]) (s 22) (s 24)),lI 26 19 25,M 2 26]
def g70:LFn:=⟨(Q (O aBD) (Q (O aHa) (Q (O aLh) .ret))),27,[.slot 2]⟩
theorem aSD:aF Tryz.prog 97=some g70:=Zz
abbrev aLg:LA:=[H 7 0 2,E 8 7,A 9 (b .eql (s 8) (B 0)),M 10 9,lL 11 10 5 2,lK 12 10 11,T 13 10 (w (s 12)),T 14 10 (b .eql (s 13) (B 0)),lI 15 10 14,M 16 15,lL 17 16 1 2,T 18 16 (l (.agg 4) (s 17)),⟨S 19,S (16,true),k 66 [s 18]⟩,lI 20 16 19]
abbrev aLf:LA:=[H 21 0 2,E 22 21,A 23 (b .lss (s 22) (B 1)),M 24 23,lO 25 24 0 2,lN 26 24 25,U 27 24 (b .gtr (s 26) (B 3)),lH 28 24 27,M 29 28,lO 30 29 5 2,lN 31 29 30,U 32 29 (w (s 31)),U 33 29 (b .neq (s 32) (B 2)),lH 34 29 33,M 35 34,lO 36 35 1 2,U 37 35 (l (.agg 4) (s 36)),⟨S 38,S (35,false),v (.build [(.str ⟨#[]⟩),(I j 0),(I j 0),(.str ⟨#[]⟩)] [])⟩,U 39 35 (e true (.plain (.agg 4) [.str,.int,.int,.str]) (s 37) (s 38)),lH 40 35 39,M 41 40,lM 42 41 1,U 43 41 (b .eql (s 42) (B 0)),lH 44 41 43]
abbrev aLe:LD:=[(H 45 5 2,[]),(E 46 45,[0]),(A 47 (i (.agg 6) (s 46) (B 0)),[0,1]),(G 48 6 47,Z3),(M 49 1,[]),(A 50 (b .sub (s 49) (B 1)),[4]),(P 51 99 [s 48,s 50],Z6),(H 52 5 2,[]),(E 53 52,[7]),(A 54 (i (.agg 6) (s 53) (B 1)),[7,8]),(G 55 6 54,[7,8,9]),(M 56 1,[]),(A 57 (b .sub (s 56) (B 1)),[11]),(P 58 99 [s 55,s 57],[0,1,2,3,4,5,6,7,8,9,10,11,12]),(M 5 51,Z14),(M 6 58,Z15)]
abbrev aLd:LA:=[M 59 5,A 60 (b .lss (s 59) (B 0)),M 61 60,lM 62 61 6,U 63 61 (b .lss (s 62) (B 0)),lH 64 61 63]
abbrev aLc:LA:=[M 65 5,M 66 6,A 67 (.mnx true (s 65) (s 66)),A 68 (b .add (B 1) (s 67)),M 4 68]
def g71:LFn:=⟨(Q (O aON) (Q (Q (O aLg) (C (s 20) (Q (O aCD) .ret) Z)) (Q (Q (O aLf) (C (s 44) (Q (O aFa) .ret) Z)) (Q (D 16 aLe aBI) (Q (Q (O aLd) (C (s 64) (Q (O aFa) .ret) Z)) (Q (O aLc) .ret)))))),69,[.slot 4]⟩
theorem aQp:aF Tryz.prog 99=some g71:=Zz
abbrev aKP:LA:=[M 3 0,M 4 0,A 5 (b .neq (s 3) (s 4)),M 2 5]
def g72:LFn:=⟨(Q (O aBD) (Q (O aKP) .ret)),6,[.slot 2]⟩
theorem aSC:aF Tryz.prog 105=some g72:=Zz
abbrev aKO:LA:=[M 3 0,P 4 107 [s 3,(B 3)],M 2 4]
def g73:LFn:=⟨(Q (O aBD) (Q (O aKO) .ret)),5,[.slot 2]⟩
theorem aSB:aF Tryz.prog 106=some g73:=Zz
abbrev aKN:LA:=[M 9 0,P 10 129 [s 9],M 8 10,lQ 11 8 0,lQ 12 8 1,lQ 13 8 2,M 5 11,M 6 12,M 7 13]
abbrev aKM:LA:=[M 14 7,A 15 (b .eql (s 14) (B 0)),M 16 15,lJ 17 16 5,T 18 16 (w (s 17)),T 19 16 (b .eql (s 18) (B 1)),lI 20 16 19,M 21 20,lJ 22 21 5,T 23 21 (i (.agg 3) (s 22) (B 0)),lL 24 21 0 23,lK 25 21 24,lJ 26 21 1,T 27 21 (b .eql (s 25) (s 26)),lI 28 21 27,M 29 28,lJ 30 29 5,T 31 29 (i (.agg 3) (s 30) (B 0)),lL 32 29 1 31,lK 33 29 32,lJ 34 29 0,T 35 29 (b .eql (s 33) (s 34)),lI 36 29 35,M 4 36]
def g74:LFn:=⟨(Q (O aCc) (Q (O aKN) (Q (O aKM) .ret))),37,[.slot 4]⟩
theorem aSA:aF Tryz.prog 107=some g74:=Zz
abbrev aKL:LA:=[H 5 0 2,E 6 5,A 7 (b .eql (s 6) (B 0))]
abbrev aKK:LA:=[H 8 5 2,E 9 8,lP 10 9,A 11 (b .eql (s 10) (B 0)),M 12 11,lL 13 12 1 2,T 14 12 (l (.agg 4) (s 13)),⟨S 15,S (12,true),k 78 [s 14]⟩,lI 16 12 15,M 4 16]
abbrev aKJ:LA:=[M 17 1,A 18 (b .gtr (s 17) (B 0)),M 19 18,lL 20 19 0 2,lK 21 19 20,T 22 19 (b .geq (s 21) (B 1)),lI 23 19 22,M 24 23,lL 25 24 0 2,lK 26 24 25,T 27 24 (b .leq (s 26) (B 3)),lI 28 24 27,M 29 28,lL 30 29 5 2,lK 31 29 30,T 32 29 (w (s 31)),T 33 29 (b .eql (s 32) (B 2)),lI 34 29 33,M 35 34,lL 36 35 1 2,T 37 35 (l (.agg 4) (s 36)),⟨S 38,S (35,true),v (.build [(.str ⟨#[]⟩),(I j 0),(I j 0),(.str ⟨#[]⟩)] [])⟩,T 39 35 (e false (.plain (.agg 4) [.str,.int,.int,.str]) (s 37) (s 38)),lI 40 35 39,M 41 40,lL 42 41 5 2,lK 43 41 42,T 44 41 (i (.agg 6) (s 43) (B 0)),T 45 41 (l (.agg 6) (s 44)),lJ 46 41 1,T 47 41 (b .sub (s 46) (B 1)),⟨S 48,S (41,true),k 108 [s 45,s 47]⟩,lI 49 41 48,M 50 49,lL 51 50 5 2,lK 52 50 51,T 53 50 (i (.agg 6) (s 52) (B 1)),T 54 50 (l (.agg 6) (s 53)),lJ 55 50 1,T 56 50 (b .sub (s 55) (B 1)),⟨S 57,S (50,true),k 108 [s 54,s 56]⟩,lI 58 50 57,M 4 58]
def g75:LFn:=⟨(Q (O aQw) (Q (Q (O aKL) (C (s 7) (Q (O aKK) .ret) Z)) (Q (O aKJ) .ret))),59,[.slot 4]⟩
theorem aQo:aF Tryz.prog 108=some g75:=Zz
abbrev aKH:LA:=[M 6 3,M 7 0,A 8 (.slen (s 7)),lA 9 6 8]
abbrev aKG:LA:=[M 12 0,M 13 3,A 14 (.sidx .none (s 12) (s 13)),M 4 14]
abbrev aKF:LA:=[M 15 4,A 16 (b .geq (s 15) (c (.int .u8 97))),M 17 16,lJ 18 17 4,T 19 17 (b .leq (s 18) (c (.int .u8 122))),lI 20 17 19,M 5 20]
abbrev aKE:LA:=[M 21 5,A 22 (.not (s 21)),M 23 22,lJ 24 23 3,T 25 23 (b .eql (s 24) (B 0)),lJ 26 23 25,lM 27 26 4,U 28 26 (b .geq (s 27) (c (.int .u8 48))),lM 29 26 28,lJ 30 29 4,T 31 29 (b .leq (s 30) (c (.int .u8 57))),U 32 26 (p (s 29) (s 31) Ba),U 33 26 (.not (s 32)),lM 34 26 33,lJ 35 34 4,T 36 34 (b .neq (s 35) (c (.int .u8 95))),U 37 26 (p (s 34) (s 36) Ba),T 38 23 (p (s 26) Bb (s 37)),lI 39 23 38]
abbrev aKD:LA:=[M 10 3,lB 11 10,M 3 11]
abbrev aKI:aJ:=(Q (Q (O aKH) (C (s 9) Z (X 0))) (Q (K 1 (Q (O aKG) (Q (O aKF) (Q (O aKE) (C (s 39) (Q (O aBD) .ret) Z))))) (O aKD)))
abbrev aKC:LA:=[M 40 0,A 41 (.slen (s 40)),A 42 (b .geq (s 41) (B 1)),M 43 42,lJ 44 43 0,T 45 43 (.slen (s 44)),T 46 43 (b .leq (s 45) (B 32)),lI 47 43 46,M 2 47]
def g76:LFn:=⟨(Q (O aBD) (Q (Q (O aHm) (K 0 (R aKI))) (Q (O aKC) .ret))),48,[.slot 2]⟩
theorem aR9:aF Tryz.prog 109=some g76:=Zz
abbrev aKB:LA:=[M 3 0,A 4 (b .geq (s 3) (c (.int .i32 97))),M 5 4,lJ 6 5 0,T 7 5 (b .leq (s 6) (c (.int .i32 122))),lI 8 5 7,M 9 8,lM 10 9 0,U 11 9 (b .geq (s 10) (c (.int .i32 48))),lM 12 9 11,lJ 13 12 0,T 14 12 (b .leq (s 13) (c (.int .i32 57))),U 15 9 (p (s 12) (s 14) Ba),lH 16 9 15,M 17 16,lM 18 17 0,U 19 17 (b .eql (s 18) (c (.int .i32 95))),lH 20 17 19,A 21 (.not (s 20)),M 2 21]
def g77:LFn:=⟨(Q (O aBD) (Q (O aKB) .ret)),22,[.slot 2]⟩
theorem aR8:aF Tryz.prog 110=some g77:=Zz
abbrev aFm:LA:=[M 3 0,A 4 (b .geq (s 3) (c (.int .u8 97))),M 5 4,lJ 6 5 0,T 7 5 (b .leq (s 6) (c (.int .u8 122))),lI 8 5 7,M 2 8]
def g78:LFn:=⟨(Q (O aBD) (Q (O aFm) .ret)),9,[.slot 2]⟩
theorem aR7:aF Tryz.prog 111=some g78:=Zz
abbrev aKA:LA:=[⟨S 1,N,x F (s 0)⟩,A 2 (m (c .aAa))]
abbrev aJ9:LA:=[A 3 (.mkfn (.func 133) [] [s 1]),M 2 3]
def g79:LFn:=⟨(Q (O aKA) (Q (O aJ9) .ret)),4,[.slot 2]⟩
theorem aR6:aF Tryz.prog 117=some g79:=Zz
abbrev aJ6:LA:=[A 2 (m (c (.sl (.agg 3) .nil []))),lF 3 0,lF 4 0]
abbrev aJ5:LA:=[M 7 0,A 8 (.slen (s 7)),A 9 (b .gtr (s 8) (B 4000))]
abbrev aJ4:LA:=[A 2 (m (c (.sl (.agg 3) .nil []))),lF 3 4000,lF 4 3]
abbrev aJ3:LA:=[M 11 0,P 12 141 [s 11],M 10 12,lQ 13 10 0,lQ 14 10 1,M 5 13,M 6 14]
abbrev aJ2:LA:=[M 15 6,A 16 (b .geq (s 15) (B 0))]
abbrev aJ1:LA:=[M 17 6,A 2 (m (c (.sl (.agg 3) .nil []))),M 3 17,lF 4 2]
abbrev aJ0:LA:=[M 18 5,M 2 18,lF 3 0,lF 4 0]
def g80:LFn:=⟨(Q (O aJ6) (Q (Q (O aJ5) (C (s 9) (Q (O aJ4) .ret) Z)) (Q (O aJ3) (Q (Q (O aJ2) (C (s 16) (Q (O aJ1) .ret) Z)) (Q (O aJ0) .ret))))),19,[.slot 2,.slot 3,.slot 4]⟩
theorem aR2:aF Tryz.prog 129=some g80:=Zz
abbrev aJz:LA:=[E 5 1,P 6 134 [s 5,(B 0)],M 3 6]
abbrev aJy:LA:=[M 7 3,E 8 1,A 9 (.slen (s 8)),lA 10 7 9]
abbrev aJx:LA:=[E 11 1,M 12 3,A 13 (.slcs (s 11) (.some (s 12)) .none),P 14 135 [s 13],⟨S 4,N,x (.agg 3) (c (.agg [(I j 0),(.str ⟨#[]⟩),(I j 0)]))⟩,W 3 4 14]
abbrev aJw:LA:=[M 15 3,H 16 2 4,⟨N,N,t F (s 16) (s 15)⟩]
abbrev aFW:LA:=[H 17 0 4,E 18 17,A 19 (b .eql (s 18) (B 0))]
abbrev aJv:LA:=[M 20 0,M 21 3,⟨S 22,N,v (.build [(I j 0),(.str ⟨#[]⟩),(I j 0)] [(2,F,(s 21))])⟩,A 23 (.mkif 83 (B 2)),⟨S 24,N,.callv (s 20) [s 22,s 23]⟩]
abbrev aJu:LA:=[M 25 0,G 26 3 4,⟨S 27,N,.callv (s 25) [s 26,(c .nilIface)]⟩,A 28 (.not (s 27))]
abbrev aJt:LA:=[E 29 1,M 30 3,H 31 1 4,E 32 31,A 33 (.slen (s 32)),A 34 (b .add (s 30) (s 33)),P 35 134 [s 29,s 34],M 3 35]
abbrev aFX:aJ:=(Q (Q (O aJy) (C (s 10) Z (X 0))) (K 1 (Q (O aJx) (Q (O aJw) (Q (Q (O aFW) (C (s 19) (Q (O aJv) .ret) Z)) (Q (Q (O aJu) (C (s 28) .ret Z)) (O aJt)))))))
def g81:LFn:=⟨(Q (O aJz) (K 0 (R aFX))),36,[]⟩
theorem aR1:aF Tryz.prog 133=some g81:=Zz
abbrev aJr:LA:=[M 9 1,M 10 0,A 11 (.slen (s 10)),lA 12 9 11]
abbrev aJq:LA:=[M 13 0,M 14 1,A 15 (.sidx .none (s 13) (s 14)),M 5 15]
abbrev aJp:LA:=[M 18 5,⟨S 19,N,k 151 [(c (.str ⟨#[9,10,13,32]⟩)),s 18]⟩,A 20 (b .geq (s 19) (B 0)),M 17 20]
abbrev aJo:LA:=[M 21 1,lB 22 21,M 1 22]
abbrev aJn:LA:=[M 24 5,A 25 (b .eql (s 24) (c (.int .u8 37))),M 23 25]
abbrev aJm:LA:=[M 27 0,M 28 1,A 29 (.slcs (s 27) (.some (s 28)) .none),⟨S 30,N,k 152 [s 29,(c (.str ⟨#[10]⟩))]⟩,M 26 30,lQ 31 26 0,lQ 32 26 1,lQ 33 26 2,M 6 31,M 7 32,M 8 33]
abbrev aJl:LA:=[M 34 1,M 35 6,A 36 (.slen (s 35)),A 37 (b .add (s 34) (s 36)),M 1 37]
abbrev aJk:LA:=[M 16 1,M 4 16]
abbrev aJs:aJ:=(Q (Q (O aJr) (C (s 12) Z (X 0))) (K 1 (Q (O aJq) (K 2 (Q (O aJp) (C (s 17) (O aJo) (Q (O aJn) (C (s 23) (Q (O aJm) (O aJl)) (Q (O aJk) .ret)))))))))
abbrev aJj:LA:=[M 38 1,M 4 38]
def g82:LFn:=⟨(Q (O aCD) (Q (K 0 (R aJs)) (Q (O aJj) .ret))),39,[.slot 4]⟩
theorem aR0:aF Tryz.prog 134=some g82:=Zz
abbrev aJh:LA:=[⟨S 2,N,x (.agg 3) (c (.agg [(I j 0),(.str ⟨#[]⟩),(I j 0)]))⟩]
abbrev aJg:LA:=[M 6 0,P 7 153 [s 6],M 3 7]
abbrev aJf:LA:=[M 8 3,A 9 (b .gtr (s 8) (B 0)),M 10 9,lJ 11 10 0,T 12 10 (.sidx .none (s 11) (B 0)),T 13 10 (b .neq (s 12) (c (.int .u8 95))),lI 14 10 13]
abbrev aJe:LD:=[(M 15 0,[]),(M 16 3,[]),(A 17 (.slcs (s 15) .none (.some (s 16))),[0,1]),(P 18 154 [s 17],Z3),(M 19 0,[]),(M 20 3,[]),(A 21 (.slcs (s 19) .none (.some (s 20))),[4,5]),(⟨S 22,N,v (.build [(I j 0),(.str ⟨#[]⟩),(I j 0)] [(0,F,(s 18)),(1,F,(s 21))])⟩,[0,1,2,3,4,5,6])]
abbrev aGf:LA:=[W 3 2 22]
abbrev aJd:LA:=[⟨S 23,N,v (l (.agg 14) (c (.ept (.agg 14) [(.agg [(.str ⟨#[58,45]⟩),(.str ⟨#[33,61]⟩),(.str ⟨#[60,61]⟩),(.str ⟨#[62,61]⟩),(.str ⟨#[40]⟩),(.str ⟨#[41]⟩),(.str ⟨#[44]⟩),(.str ⟨#[46]⟩),(.str ⟨#[61]⟩),(.str ⟨#[60]⟩),(.str ⟨#[62]⟩),(.str ⟨#[43]⟩),(.str ⟨#[45]⟩),(.str ⟨#[42]⟩)])] 0 0)))⟩,lF 24 0]
abbrev aJc:LA:=[A 25 (b .lss (s 24) (B 14))]
abbrev aJb:LA:=[A 26 (.sidx (.some 14) (s 23) (s 24)),M 5 26]
abbrev aJa:LA:=[M 27 0,M 28 5,P 29 155 [s 27,s 28]]
abbrev aJZ:LA:=[M 30 5,⟨S 31,N,v (.build [(I j 0),(.str ⟨#[]⟩),(I j 0)] [(0,F,(B 5)),(1,F,(s 30))])⟩,W 3 2 31]
abbrev aJY:LA:=[lB 32 24,M 24 32]
abbrev aJi:aJ:=(Q (O aJc) (Q (C (s 25) Z (X 0)) (Q (K 1 (Q (O aJb) (Q (O aJa) (C (s 29) (Q (O aJZ) .ret) Z)))) (O aJY))))
abbrev aGg:LA:=[⟨S 33,N,v (.build [(I j 0),(.str ⟨#[]⟩),(I j 0)] [])⟩,W 3 2 33]
def g83:LFn:=⟨(Q (O aJh) (Q (Q (O aJg) (Q (O aJf) (C (s 14) (Q (D 8 aJe aGf) .ret) Z))) (Q (Q (O aJd) (K 0 (R aJi))) (Q (O aGg) .ret)))),34,[.cell 2 (.agg 3)]⟩
theorem aRz:aF Tryz.prog 135=some g83:=Zz
abbrev aJV:LA:=[A 2 (m (c (.sl (.agg 3) .nil []))),lF 3 0]
abbrev aJU:LA:=[M 9 5,M 10 0,A 11 (.slen (s 10)),lA 12 9 11]
abbrev aJT:LA:=[M 13 0,M 14 5,A 15 (.sidx .none (s 13) (s 14)),M 6 15]
abbrev aJS:LA:=[M 16 6,A 17 (b .eql (s 16) (c (.int .u8 9))),M 18 17,lM 19 18 6,U 20 18 (b .eql (s 19) (c (.int .u8 10))),lH 21 18 20,M 22 21,lM 23 22 6,U 24 22 (b .eql (s 23) (c (.int .u8 13))),lH 25 22 24,M 26 25,lM 27 26 6,U 28 26 (b .eql (s 27) (c (.int .u8 32))),lH 29 26 28]
abbrev aJR:LA:=[M 30 5,lB 31 30,M 5 31]
abbrev aJQ:LA:=[M 32 6,A 33 (b .eql (s 32) (c (.int .u8 37)))]
abbrev aJP:LA:=[M 34 5,M 35 0,A 36 (.slen (s 35)),lA 37 34 36,M 38 37,lJ 39 38 0,lJ 40 38 5,T 41 38 (.sidx .none (s 39) (s 40)),T 42 38 (b .neq (s 41) (c (.int .u8 10))),lI 43 38 42]
abbrev aJO:LA:=[M 44 5,lB 45 44,M 5 45]
abbrev aJX:aJ:=(Q (Q (O aJP) (C (s 43) Z (X 2))) (K 3 (O aJO)))
abbrev aGd:LA:=[M 46 6,P 47 157 [s 46],M 48 47,lJ 49 48 6,T 50 48 (b .neq (s 49) (c (.int .u8 95))),lI 51 48 50]
abbrev aGc:LA:=[M 52 5,M 7 52]
abbrev aGb:LA:=[M 53 7,M 54 0,A 55 (.slen (s 54)),lA 56 53 55,M 57 56,lJ 58 57 0,lJ 59 57 7,T 60 57 (.sidx .none (s 58) (s 59)),⟨S 61,S (57,true),k 157 [s 60]⟩,lI 62 57 61]
abbrev aGa:LA:=[M 63 7,lB 64 63,M 7 64]
abbrev aJW:aJ:=(Q (Q (O aGb) (C (s 62) Z (X 4))) (K 5 (O aGa)))
abbrev aGZ:LA:=[M 65 0,M 66 5,M 67 7,A 68 (.slcs (s 65) (.some (s 66)) (.some (s 67))),P 69 158 [s 68],M 8 69]
abbrev aGY:LA:=[M 70 8,A 71 (b .eql (s 70) (B 0))]
abbrev aGX:LA:=[M 72 4,M 73 5,M 2 72,M 3 73]
abbrev aGW:LA:=[M 74 4,M 75 8,M 76 0,M 77 5,M 78 7,A 79 (.slcs (s 76) (.some (s 77)) (.some (s 78))),M 80 5,⟨S 81,N,v (.build [(I j 0),(.str ⟨#[]⟩),(I j 0)] [(0,F,(s 75)),(1,F,(s 79)),(2,F,(s 80))])⟩,⟨S 82,N,y (.agg 3) [s 81]⟩,lS 83 3 32 74 82,M 4 83]
abbrev aGV:LA:=[M 84 7,M 5 84]
abbrev aGU:LA:=[M 85 5,A 86 (b .add (s 85) (B 2)),M 87 0,A 88 (.slen (s 87)),A 89 (b .leq (s 86) (s 88)),M 90 89,⟨S 91,S (90,true),y F [(c (.str ⟨#[58,45]⟩)),(c (.str ⟨#[33,61]⟩)),(c (.str ⟨#[60,61]⟩)),(c (.str ⟨#[62,61]⟩))]⟩,lJ 92 90 0,lJ 93 90 5,lJ 94 90 5,T 95 90 (b .add (s 94) (B 2)),T 96 90 (.slcs (s 92) (.some (s 93)) (.some (s 95))),⟨S 97,S (90,true),k 159 [s 91,s 96]⟩,lI 98 90 97]
abbrev aGT:LA:=[M 99 4,M 100 0,M 101 5,M 102 5,A 103 (b .add (s 102) (B 2)),A 104 (.slcs (s 100) (.some (s 101)) (.some (s 103))),M 105 5,⟨S 106,N,v (.build [(I j 0),(.str ⟨#[]⟩),(I j 0)] [(0,F,(B 5)),(1,F,(s 104)),(2,F,(s 105))])⟩,⟨S 107,N,y (.agg 3) [s 106]⟩,lS 108 3 32 99 107,M 4 108]
abbrev aGS:LA:=[M 109 5,A 110 (b .add (s 109) (B 2)),M 5 110]
abbrev aGR:LA:=[⟨S 111,N,y F [(c (.str ⟨#[40]⟩)),(c (.str ⟨#[41]⟩)),(c (.str ⟨#[44]⟩)),(c (.str ⟨#[46]⟩)),(c (.str ⟨#[61]⟩)),(c (.str ⟨#[60]⟩)),(c (.str ⟨#[62]⟩)),(c (.str ⟨#[43]⟩)),(c (.str ⟨#[45]⟩)),(c (.str ⟨#[42]⟩))]⟩,M 112 0,M 113 5,M 114 5,lB 115 114,A 116 (.slcs (s 112) (.some (s 113)) (.some (s 115))),P 117 159 [s 111,s 116],A 118 (.not (s 117))]
abbrev aGQ:LA:=[M 119 4,M 120 5,M 2 119,M 3 120]
abbrev aGP:LA:=[M 121 4,M 122 0,M 123 5,M 124 5,lB 125 124,A 126 (.slcs (s 122) (.some (s 123)) (.some (s 125))),M 127 5,⟨S 128,N,v (.build [(I j 0),(.str ⟨#[]⟩),(I j 0)] [(0,F,(B 5)),(1,F,(s 126)),(2,F,(s 127))])⟩,⟨S 129,N,y (.agg 3) [s 128]⟩,lS 130 3 32 121 129,M 4 130]
abbrev aGO:LA:=[M 131 5,lB 132 131,M 5 132]
abbrev aCC:aJ:=(Q (Q (O aJU) (C (s 12) Z (X 0))) (K 1 (Q (O aJT) (Q (Q (O aJS) (C (s 29) (Q (O aJR) (X 1)) Z)) (Q (Q (O aJQ) (C (s 33) (Q (K 2 (R aJX)) (X 1)) Z)) (Q (Q (O aGd) (C (s 51) (Q (O aGc) (Q (K 4 (R aJW)) (Q (O aGZ) (Q (Q (O aGY) (C (s 71) (Q (O aGX) .ret) Z)) (Q (O aGW) (Q (O aGV) (X 1))))))) Z)) (Q (Q (O aGU) (C (s 98) (Q (O aGT) (Q (O aGS) (X 1))) Z)) (Q (Q (O aGR) (C (s 118) (Q (O aGQ) .ret) Z)) (Q (O aGP) (O aGO))))))))))
abbrev aGN:LA:=[M 133 4,M 2 133,A 3 (m (B (-1)))]
def g84:LFn:=⟨(Q (O aJV) (Q (O aGe) (Q (O aEC) (Q (K 0 (R aCC)) (Q (O aGN) .ret))))),134,[.slot 2,.slot 3]⟩
theorem aRy:aF Tryz.prog 141=some g84:=Zz
abbrev aJA:LA:=[M 5 0,M 6 1,P 7 163 [s 5,s 6],M 4 7]
def g85:LFn:=⟨(Q (O aCD) (Q (O aJA) .ret)),8,[.slot 4]⟩
theorem aRx:aF Tryz.prog 151=some g85:=Zz
abbrev aFl:LA:=[⟨S 4,N,v (m (c (.str ⟨#[]⟩)))⟩,⟨S 5,N,v (m (c (.str ⟨#[]⟩)))⟩,lG 6]
abbrev aI9:LA:=[M 7 0,M 8 1,P 9 164 [s 7,s 8],lQ 10 9 0,lQ 11 9 1,lQ 12 9 2,M 4 10,M 5 11,M 6 12]
def g86:LFn:=⟨(Q (O aFl) (Q (O aI9) .ret)),13,[.slot 4,.slot 5,.slot 6]⟩
theorem aRw:aF Tryz.prog 152=some g86:=Zz
abbrev aI7:LA:=[M 4 3,M 5 0,A 6 (.slen (s 5)),lA 7 4 6,M 8 7,lJ 9 8 0,lJ 10 8 3,T 11 8 (.sidx .none (s 9) (s 10)),⟨S 12,S (8,true),k 165 [s 11]⟩,lJ 13 8 12,lM 14 13 0,lM 15 13 3,U 16 13 (.sidx .none (s 14) (s 15)),⟨S 17,S (13,false),k 166 [s 16]⟩,T 18 8 (p (s 13) Bb (s 17)),lJ 19 8 18,lM 20 19 0,lM 21 19 3,U 22 19 (.sidx .none (s 20) (s 21)),⟨S 23,S (19,false),k 167 [s 22]⟩,T 24 8 (p (s 19) Bb (s 23)),lJ 25 8 24,lM 26 25 0,lM 27 25 3,U 28 25 (.sidx .none (s 26) (s 27)),U 29 25 (b .eql (s 28) (c (.int .u8 95))),T 30 8 (p (s 25) Bb (s 29)),lI 31 8 30]
abbrev aI6:LA:=[M 32 3,lB 33 32,M 3 33]
abbrev aI8:aJ:=(Q (Q (O aI7) (C (s 31) Z (X 0))) (K 1 (O aI6)))
abbrev aI5:LA:=[M 34 3,M 2 34]
def g87:LFn:=⟨(Q (O aCk) (Q (O aHm) (Q (K 0 (R aI8)) (Q (O aI5) .ret)))),35,[.slot 2]⟩
theorem aRv:aF Tryz.prog 153=some g87:=Zz
abbrev aI4:LA:=[⟨S 6,N,v (.pslc 8 F (c (.ept (.agg 8) [(.agg [(.str ⟨#[114,101,108]⟩),(.str ⟨#[105,110,116]⟩),(.str ⟨#[115,121,109]⟩),(.str ⟨#[110,111,116]⟩),(.str ⟨#[99,111,117,110,116]⟩),(.str ⟨#[115,117,109]⟩),(.str ⟨#[109,105,110]⟩),(.str ⟨#[109,97,120]⟩)])] 0 0)) .none)⟩,M 7 0,P 8 168 [s 6,s 7],M 5 8]
abbrev aFk:LA:=[lF 2 1]
abbrev aI3:LA:=[M 10 0,P 11 87 [s 10],M 9 11]
abbrev aFj:LA:=[lF 2 2]
abbrev aI2:LA:=[M 13 0,A 14 (.sidx .none (s 13) (B 0)),P 15 166 [s 14],M 16 15,lJ 17 16 0,T 18 16 (.slen (s 17)),T 19 16 (b .leq (s 18) (B 32)),lI 20 16 19,M 12 20]
abbrev aFi:LA:=[lF 2 3]
abbrev aI1:LA:=[M 22 0,P 23 169 [s 22],M 21 23,lQ 24 21 0,lQ 25 21 1,M 3 24,M 4 25]
abbrev aI0:LA:=[M 26 4,A 27 (e false (.iface true) (s 26) (c .nilIface)),M 28 27,lJ 29 28 3,T 30 28 (b .leq (s 29) (B 2147483647)),lI 31 28 30,M 32 31,lJ 33 32 3,⟨S 34,S (32,true),k 170 [s 33]⟩,lJ 35 32 0,T 36 32 (b .eql (s 34) (s 35)),lI 37 32 36]
abbrev aFh:LA:=[lF 2 4]
def g88:LFn:=⟨(Q (O aCk) (Q (K 0 (Q (O aI4) (C (s 5) (Q (O aFk) .ret) (Q (O aI3) (C (s 9) (Q (O aFj) .ret) (Q (O aI2) (C (s 12) (Q (O aFi) .ret) Z))))))) (Q (Q (O aI1) (Q (O aI0) (C (s 37) (Q (O aFh) .ret) Z))) (Q (O aCk) .ret)))),38,[.slot 2]⟩
theorem aGF:aF Tryz.prog 154=some g88:=Zz
abbrev aIz:LA:=[M 5 0,M 6 1,P 7 171 [s 5,s 6],M 4 7]
def g89:LFn:=⟨(Q (O aCc) (Q (O aIz) .ret)),8,[.slot 4]⟩
theorem aRu:aF Tryz.prog 155=some g89:=Zz
abbrev aIy:LA:=[M 3 0,A 4 (b .geq (s 3) (c (.int .u8 97))),M 5 4,lJ 6 5 0,T 7 5 (b .leq (s 6) (c (.int .u8 122))),lI 8 5 7,M 9 8,lM 10 9 0,U 11 9 (b .geq (s 10) (c (.int .u8 65))),lM 12 9 11,lJ 13 12 0,T 14 12 (b .leq (s 13) (c (.int .u8 90))),U 15 9 (p (s 12) (s 14) Ba),lH 16 9 15,M 17 16,lM 18 17 0,U 19 17 (b .geq (s 18) (c (.int .u8 48))),lM 20 17 19,lJ 21 20 0,T 22 20 (b .leq (s 21) (c (.int .u8 57))),U 23 17 (p (s 20) (s 22) Ba),lH 24 17 23,M 25 24,lM 26 25 0,U 27 25 (b .eql (s 26) (c (.int .u8 95))),lH 28 25 27,M 2 28]
def g90:LFn:=⟨(Q (O aBD) (Q (O aIy) .ret)),29,[.slot 2]⟩
theorem aRk:aF Tryz.prog 157=some g90:=Zz
abbrev aIx:LA:=[⟨S 5,N,y F [(c (.str ⟨#[114,101,108]⟩)),(c (.str ⟨#[105,110,116]⟩)),(c (.str ⟨#[115,121,109]⟩)),(c (.str ⟨#[110,111,116]⟩)),(c (.str ⟨#[99,111,117,110,116]⟩)),(c (.str ⟨#[115,117,109]⟩)),(c (.str ⟨#[109,105,110]⟩)),(c (.str ⟨#[109,97,120]⟩))]⟩,M 6 0,P 7 159 [s 5,s 6]]
abbrev aFg:LA:=[M 8 0,P 9 109 [s 8]]
abbrev aIw:LA:=[M 10 0,A 11 (.sidx .none (s 10) (B 0)),A 12 (b .geq (s 11) (c (.int .u8 65))),M 13 12,lJ 14 13 0,T 15 13 (.sidx .none (s 14) (B 0)),T 16 13 (b .leq (s 15) (c (.int .u8 90))),lI 17 13 16,M 18 17,lJ 19 18 0,T 20 18 (.slen (s 19)),T 21 18 (b .leq (s 20) (B 32)),lI 22 18 21]
abbrev aIv:LA:=[M 24 0,P 25 172 [s 24],M 23 25,lQ 26 23 0,lQ 27 23 1,⟨S 3,N,x (.agg 3) (c (.agg [(I j 0),(I j 0),(.str ⟨#[]⟩)]))⟩,W 3 3 26,M 4 27]
abbrev aIu:LA:=[M 28 4,M 29 28,lL 30 29 0 3,lK 31 29 30,T 32 29 (b .eql (s 31) (B 1)),lI 33 29 32]
def g91:LFn:=⟨(Q (O aCk) (Q (Q (O aIx) (C (s 7) (Q (O aFk) .ret) Z)) (Q (Q (O aFg) (C (s 9) (Q (O aFj) .ret) Z)) (Q (Q (O aIw) (C (s 22) (Q (O aFi) .ret) Z)) (Q (Q (O aIv) (Q (O aIu) (C (s 33) (Q (O aFh) .ret) Z))) (Q (O aCk) .ret)))))),34,[.slot 2]⟩
theorem aKk:aF Tryz.prog 158=some g91:=Zz
abbrev aIs:LA:=[M 6 5,M 7 0,lP 8 7,lA 9 6 8]
abbrev aIr:LA:=[M 12 0,M 13 5,lE 14 12 13,E 15 14,M 16 1,A 17 (b .eql (s 15) (s 16))]
abbrev aIq:LA:=[M 10 5,lB 11 10,M 5 11]
abbrev aIt:aJ:=(Q (Q (O aIs) (C (s 9) Z (X 0))) (Q (K 1 (Q (O aIr) (C (s 17) (Q (O aGy) .ret) Z))) (O aIq)))
def g92:LFn:=⟨(Q (O aCc) (Q (Q (O aEC) (K 0 (R aIt))) (Q (O aCc) .ret))),18,[.slot 4]⟩
theorem aRj:aF Tryz.prog 159=some g92:=Zz
abbrev aIp:LA:=[M 8 0,M 9 1,P 10 175 [s 8,s 9],M 7 10]
abbrev aIo:LA:=[M 11 7,A 12 (b .geq (s 11) (B 0))]
abbrev aIn:LD:=[(M 13 0,[]),(M 14 7,[]),(A 15 (.slcs (s 13) .none (.some (s 14))),[0,1]),(M 16 0,[]),(M 17 7,[]),(M 18 1,[]),(A 19 (.slen (s 18)),[5]),(A 20 (b .add (s 17) (s 19)),[4,5,6]),(A 21 (.slcs (s 16) (.some (s 20)) .none),[3,4,5,6,7]),(M 4 15,Z3),(M 5 21,[0,1,2,3,4,5,6,7,8,9]),(A 6 (m Bb),Z11)]
abbrev aIm:LA:=[M 22 0,M 4 22,⟨S 5,N,v (m (c (.str ⟨#[]⟩)))⟩,lG 6]
def g93:LFn:=⟨(Q (O aFl) (Q (Q (O aIp) (Q (O aIo) (C (s 12) (Q (D 12 aIn aBI) .ret) Z))) (Q (O aIm) .ret))),23,[.slot 4,.slot 5,.slot 6]⟩
theorem aQl:aF Tryz.prog 164=some g93:=Zz
def g94:LFn:=⟨(Q (O aBD) (Q (O aFm) .ret)),9,[.slot 2]⟩
theorem aRi:aF Tryz.prog 165=some g94:=Zz
abbrev aIl:LA:=[M 3 0,A 4 (b .geq (s 3) (c (.int .u8 65))),M 5 4,lJ 6 5 0,T 7 5 (b .leq (s 6) (c (.int .u8 90))),lI 8 5 7,M 2 8]
def g95:LFn:=⟨(Q (O aBD) (Q (O aIl) .ret)),9,[.slot 2]⟩
theorem aRh:aF Tryz.prog 166=some g95:=Zz
abbrev aIk:LA:=[M 3 0,A 4 (b .geq (s 3) (c (.int .u8 48))),M 5 4,lJ 6 5 0,T 7 5 (b .leq (s 6) (c (.int .u8 57))),lI 8 5 7,M 2 8]
def g96:LFn:=⟨(Q (O aBD) (Q (O aIk) .ret)),9,[.slot 2]⟩
theorem aRg:aF Tryz.prog 167=some g96:=Zz
abbrev aIj:LA:=[M 5 0,M 6 1,P 7 176 [s 5,s 6],A 8 (b .geq (s 7) (B 0)),M 4 8]
def g97:LFn:=⟨(Q (O aCc) (Q (O aIj) .ret)),9,[.slot 4]⟩
theorem aRf:aF Tryz.prog 168=some g97:=Zz
abbrev aIi:LA:=[lF 2 0,A 3 (m (c .nilIface))]
abbrev aIh:LA:=[M 7 0,P 8 177 [s 7],M 6 8,lQ 9 6 0,lQ 10 6 1,M 4 9,M 5 10]
abbrev aIg:LA:=[M 11 5,A 12 (e true (.iface true) (s 11) (c .nilIface))]
abbrev aIf:LA:=[M 13 4,M 14 0,M 15 5,⟨S 16,N,k 178 [(c (.str ⟨#[65,116,111,105]⟩)),s 14,(B 0),(B 0),s 15]⟩,M 2 13,M 3 16]
abbrev aIe:LA:=[M 17 4,M 2 17,A 3 (m (c .nilIface))]
def g98:LFn:=⟨(Q (O aIi) (Q (O aIh) (Q (Q (O aIg) (C (s 12) (Q (O aIf) .ret) Z)) (Q (O aIe) .ret)))),18,[.slot 2,.slot 3]⟩
theorem aLb:aF Tryz.prog 169=some g98:=Zz
abbrev aId:LA:=[M 5 0,A 6 (.slen (s 5)),M 7 1,A 8 (.slen (s 7)),A 9 (b .geq (s 6) (s 8)),M 10 9,lJ 11 10 0,lJ 12 10 1,T 13 10 (.slen (s 12)),T 14 10 (.slcs (s 11) .none (.some (s 13))),lJ 15 10 1,T 16 10 (b .eql (s 14) (s 15)),lI 17 10 16,M 4 17]
def g99:LFn:=⟨(Q (O aCc) (Q (O aId) .ret)),18,[.slot 4]⟩
theorem aRe:aF Tryz.prog 171=some g99:=Zz
abbrev aIc:LA:=[⟨S 2,N,x (.agg 3) (c (.agg [(I j 0),(I j 0),(.str ⟨#[]⟩)]))⟩,lG 3]
abbrev aIb:LA:=[M 10 0,⟨S 11,N,v (.build [(I j 0),(I j 0),(.str ⟨#[]⟩)] [(0,F,(B 2)),(2,F,(s 10))])⟩,W 3 2 11,A 3 (m Bb)]
abbrev aIa:LA:=[M 12 0,M 4 12,lF 5 1]
abbrev aIZ:LA:=[M 13 4,A 14 (.slen (s 13)),A 15 (b .gtr (s 14) (B 0)),M 16 15,lJ 17 16 4,T 18 16 (.sidx .none (s 17) (B 0)),T 19 16 (b .eql (s 18) (c (.int .u8 45))),lI 20 16 19]
abbrev aIY:LA:=[M 21 4,A 22 (.slcs (s 21) (.some (B 1)) .none),M 4 22,A 5 (m (B (-1)))]
abbrev aIX:LA:=[M 23 4,A 24 (.slen (s 23)),A 25 (b .eql (s 24) (B 0)),M 26 25,lM 27 26 4,U 28 26 (.slen (s 27)),U 29 26 (b .gtr (s 28) (B 10)),lH 30 26 29,M 31 30,lM 32 31 4,U 33 31 (.sidx .none (s 32) (B 0)),U 34 31 (b .eql (s 33) (c (.int .u8 48))),lM 35 31 34,lJ 36 35 4,T 37 35 (.slen (s 36)),T 38 35 (b .gtr (s 37) (B 1)),lJ 39 35 38,lM 40 39 5,U 41 39 (b .lss (s 40) (B 0)),T 42 35 (p (s 39) Bb (s 41)),U 43 31 (p (s 35) (s 42) Ba),lH 44 31 43]
abbrev aIW:LA:=[⟨S 45,N,v (.build [(I j 0),(I j 0),(.str ⟨#[]⟩)] [])⟩,W 3 2 45,lG 3]
abbrev aGM:LA:=[M 46 7,M 47 4,A 48 (.slen (s 47)),lA 49 46 48]
abbrev aGL:LA:=[M 52 4,M 53 7,A 54 (.sidx .none (s 52) (s 53)),A 55 (b .lss (s 54) (c (.int .u8 48))),M 56 55,lM 57 56 4,lM 58 56 7,U 59 56 (.sidx .none (s 57) (s 58)),U 60 56 (b .gtr (s 59) (c (.int .u8 57))),lH 61 56 60]
abbrev aGK:LA:=[⟨S 62,N,v (.build [(I j 0),(I j 0),(.str ⟨#[]⟩)] [])⟩,W 3 2 62,lG 3]
abbrev aGJ:LA:=[M 63 6,A 64 (b .mul (B 10) (s 63)),M 65 4,M 66 7,A 67 (.sidx .none (s 65) (s 66)),A 68 (b .sub (s 67) (c (.int .u8 48))),A 69 (.conv .i64 (s 68)),A 70 (b .add (s 64) (s 69)),M 6 70]
abbrev aGI:LA:=[M 50 7,lB 51 50,M 7 51]
abbrev aEF:aJ:=(Q (Q (O aGM) (C (s 49) Z (X 0))) (Q (K 1 (Q (Q (O aGL) (C (s 61) (Q (O aGK) .ret) Z)) (O aGJ))) (O aGI)))
abbrev aC5:LA:=[M 71 6,A 72 (b .gtr (s 71) (B 2147483647))]
abbrev aC4:LA:=[⟨S 73,N,v (.build [(I j 0),(I j 0),(.str ⟨#[]⟩)] [])⟩,W 3 2 73,lG 3]
abbrev aC3:LA:=[M 74 5,M 75 6,A 76 (b .mul (s 74) (s 75)),⟨S 77,N,v (.build [(I j 0),(I j 0),(.str ⟨#[]⟩)] [(0,F,(B 1)),(1,F,(s 76))])⟩,W 3 2 77,A 3 (m Bb)]
def aTx:LFn:=⟨(Q (O aIc) (Q (Q (O aFg) (C (s 9) (Q (O aIb) .ret) Z)) (Q (O aIa) (Q (Q (O aIZ) (C (s 20) (O aIY) Z)) (Q (Q (O aIX) (C (s 44) (Q (O aIW) .ret) Z)) (Q (O aD2) (Q (Q (O aKl) (K 0 (R aEF))) (Q (Q (O aC5) (C (s 72) (Q (O aC4) .ret) Z)) (Q (O aC3) .ret))))))))),78,[.cell 2 (.agg 3),.slot 3]⟩
theorem aE2:aF Tryz.prog 172=some aTx:=Zz
abbrev aIU:LA:=[M 10 8,M 5 10]
abbrev aIT:LA:=[M 11 1,M 12 0,M 13 5,lE 14 12 13,E 15 14,A 16 (b .eql (s 11) (s 15))]
abbrev aIS:LA:=[M 17 5,M 4 17]
abbrev aIR:LA:=[lB 18 8,M 8 18]
abbrev aIV:aJ:=(Q (O aQs) (Q (C (s 9) Z (X 0)) (Q (K 1 (Q (O aIU) (Q (O aIT) (C (s 16) (Q (O aIS) .ret) Z)))) (O aIR))))
def aTw:LFn:=⟨(Q (O aCD) (Q (Q (O aQt) (K 0 (R aIV))) (Q (O aFa) .ret))),19,[.slot 4]⟩
theorem aP7:aF Tryz.prog 176=some aTw:=Zz
end L
end Go.Proofs.YtjfdoohogiojcaaGreatDoor
