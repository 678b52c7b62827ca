/-
The functions of the code,lowered:printed by a program,checked by the kernel. No conditions.
-/
import Derived.Test.YtgbiopfghdilnaaGreatDoorKcb
import Derived.Test.YtgbiopfghdilnaaGreatDoorProg
namespace Go.Proofs.YtgbiopfghdilnaaGreatDoor
open Go.RowKit
open aG renaming slot→s,const→c
open aO renaming move→m,load→l,fldA→f,bin→b,eq→e,idxA→i,pick→p,ext→q,nilCheck→n,len→w
open LOp renaming val→v,call→k,box→x,bslice→y,append→a,store→t
open aU renaming seq→Q,ops→O,cond→C,block→K,loop→R,skip→Z,exit→X,draw→D
open Sh renaming leaf→F
open V renaming int→I
open Go.IntKind renaming i64→j
open Option renaming some→S,none→N
namespace L
abbrev A(n:Nat)(x:aO):aA:=⟨S n,N,v x⟩
abbrev M(n i:Nat):=A n (m (s i))
abbrev E(n i:Nat):=A n (l F (s i))
abbrev G(n k i:Nat):=A n (l (.agg k) (s i))
abbrev H(n k i:Nat):=A n (f k (s i))
abbrev W(k i o:Nat):aA:=⟨N,N,t (.agg k) (s i) (s o)⟩
abbrev Y(n k i:Nat):aA:=⟨S n,N,x (.agg k) (s i)⟩
abbrev P(n i:Nat)(x:List aG):aA:=⟨S n,N,k i x⟩
abbrev T(n i:Nat)(x:aO):aA:=⟨S n,S (i,true),v x⟩
abbrev U(n i:Nat)(x:aO):aA:=⟨S n,S (i,false),v x⟩
abbrev B(n:Int):=c (I j n)
abbrev Ba:=c (.bool false)
abbrev Bb:=c (.bool true)
abbrev Z3:List Nat:=[0,1,2]
abbrev Z4:List Nat:=[0,1,2,3]
abbrev Z5:List Nat:=[0,1,2,3,4]
abbrev Z6:List Nat:=[0,1,2,3,4,5]
abbrev Z7:List Nat:=[0,1,2,3,4,5,6]
abbrev Z8:List Nat:=[0,1,2,3,4,5,6,7]
abbrev Z9:List Nat:=[0,1,2,3,4,5,6,7,8]
abbrev Z10:List Nat:=[0,1,2,3,4,5,6,7,8,9]
abbrev Z11:List Nat:=[0,1,2,3,4,5,6,7,8,9,10]
abbrev Z12:List Nat:=[0,1,2,3,4,5,6,7,8,9,10,11]
abbrev Z13:List Nat:=[0,1,2,3,4,5,6,7,8,9,10,11,12]
abbrev Z14:List Nat:=[0,1,2,3,4,5,6,7,8,9,10,11,12,13]
abbrev Z15:List Nat:=[0,1,2,3,4,5,6,7,8,9,10,11,12,13,14]
abbrev Z16:List Nat:=[0,1,2,3,4,5,6,7,8,9,10,11,12,13,14,15]
abbrev Z17:List Nat:=[0,1,2,3,4,5,6,7,8,9,10,11,12,13,14,15,16]
abbrev Z23:List Nat:=[0,1,2,3,4,5,6,7,8,9,10,11,12,13,14,15,16,17,18,19,20,21,22]
abbrev LA:=List aA
abbrev LD:=List (aA×List Nat)
abbrev lA(n i o:Nat):=A n (b .lss (s i) (s o))
abbrev lB(n i:Nat):=A n (b .add (s i) (B 1))
abbrev lC(n k o z:Nat):=A n (i (.agg k) (s o) (s z))
abbrev lE(n o z:Nat):=A n (i F (s o) (s z))
abbrev lF(n:Nat)(z:Int):=A n (m (B z))
abbrev lG(n:Nat):=A n (m Ba)
abbrev lH(n i o:Nat):=A n (p (s i) Bb (s o))
abbrev lI(n i o:Nat):=A n (p (s i) (s o) Ba)
abbrev lJ(n i o:Nat):=T n i (m (s o))
abbrev lK(n i o:Nat):=T n i (l F (s o))
abbrev lL(n i k o:Nat):=T n i (f k (s o))
abbrev lM(n i o:Nat):=U n i (m (s o))
abbrev lN(n i o:Nat):=U n i (l F (s o))
abbrev lO(n i k o:Nat):=U n i (f k (s o))
abbrev lP(n i:Nat):=A n (w (s i))
abbrev lQ(n i o:Nat):=A n (q (s i) o)
abbrev lR(o i:Nat):=A o (n (s i))
abbrev lS(n k z i o:Nat):aA:=⟨S n,N,a (.agg k) z (s i) (s o)⟩
attribute[go_sem] A M E G H W Y P T U B Ba Bb Z3 Z4 Z5 Z6 Z7 Z8 Z9 Z10 Z11 Z12 Z13 Z14 Z15 Z16 Z17 Z23 lA lB lC lE lF lG lH lI lJ lK lL lM lN lO lP lQ lR lS
abbrev aJ0:LA:=[Y 1 6 0,lG 2]
abbrev aQj:LA:=[P 9 7 [],A 10 (.not (s 9))]
abbrev aBt:LA:=[lG 2]
abbrev aQi:LA:=[G 11 6 1,P 12 8 [s 11,(B 300)],A 13 (b .lss (s 12) (B 0))]
abbrev aQh:LA:=[A 2 (m Bb)]
abbrev aQg:LA:=[G 15 6 1,P 16 9 [s 15],M 14 16,lQ 17 14 0,lQ 18 14 1,⟨S 3,N,x (.agg 7) (c (.agg [(.str ⟨#[]⟩),(.sl (.agg 4) .nil []),(I j 0),(I j 0),(.sl (.agg 17) .nil []),(I j 0),(.sl (.agg 5) .nil [])]))⟩,W 7 3 17,M 4 18]
abbrev aQf:LA:=[M 19 4,A 20 (e true (.iface true) (s 19) (c .nilIface))]
abbrev aQe:LA:=[H 21 6 3,E 22 21,lP 23 22,A 24 (b .eql (s 23) (B 0)),M 2 24]
abbrev aQd:LA:=[G 25 6 1,P 26 10 [s 25],M 5 26]
abbrev aQc:LA:=[M 27 5,lP 28 27,H 29 6 3,E 30 29,lP 31 30,A 32 (b .neq (s 28) (s 31))]
abbrev aNU:LA:=[A 6 (m (c (.sl F .nil [])))]
abbrev aNT:LA:=[H 33 6 3,E 34 33,lP 35 34,lF 36 0]
abbrev aNS:LA:=[lA 37 36 35]
abbrev aNR:LA:=[M 38 36,lC 39 5 34 36,G 40 5 39,⟨S 8,N,x (.agg 5) (c (.agg [(I j 0),(I j 0),(.sl F .nil []),(.sl F .nil []),(.sl F .nil [])]))⟩,M 7 38,W 5 8 40]
abbrev aNQ:LD:=[(H 41 1 8,[]),(E 42 41,[0]),(M 43 5,[]),(M 44 7,[]),(lE 45 43 44,[2,3]),(E 46 45,[2,3,4]),(A 47 (b .neq (s 42) (s 46)),Z6),(M 48 47,Z7),(lO 49 48 2 8,Z8),(lN 50 48 49,Z9),(lM 51 48 6,Z8),(⟨S 52,S (48,false),k 11 [s 50,s 51]⟩,Z11),(U 53 48 (.not (s 52)),Z12),(lH 54 48 53,Z13),(M 55 54,Z14),(lO 56 55 3 8,Z15),(lN 57 55 56,Z16),(U 58 55 (w (s 57)),Z17),(lM 59 55 6,Z15),(U 60 55 (w (s 59)),[0,1,2,3,4,5,6,7,8,9,10,11,12,13,14,18]),(U 61 55 (b .lss (s 58) (s 60)),[0,1,2,3,4,5,6,7,8,9,10,11,12,13,14,15,16,17,18,19]),(lH 62 55 61,[0,1,2,3,4,5,6,7,8,9,10,11,12,13,14,15,16,17,18,19,20]),(M 63 62,[0,1,2,3,4,5,6,7,8,9,10,11,12,13,14,15,16,17,18,19,20,21]),(lO 64 63 3 8,Z23),(lN 65 63 64,[0,1,2,3,4,5,6,7,8,9,10,11,12,13,14,15,16,17,18,19,20,21,22,23]),(lM 66 63 6,Z23),(U 67 63 (w (s 66)),[0,1,2,3,4,5,6,7,8,9,10,11,12,13,14,15,16,17,18,19,20,21,22,25]),(U 68 63 (.slc F (s 65) .none (.some (s 67)) .none),[0,1,2,3,4,5,6,7,8,9,10,11,12,13,14,15,16,17,18,19,20,21,22,23,24,25,26]),(lM 69 63 6,Z23),(⟨S 70,S (63,false),k 11 [s 68,s 69]⟩,[0,1,2,3,4,5,6,7,8,9,10,11,12,13,14,15,16,17,18,19,20,21,22,23,24,25,26,27,28]),(U 71 63 (.not (s 70)),[0,1,2,3,4,5,6,7,8,9,10,11,12,13,14,15,16,17,18,19,20,21,22,23,24,25,26,27,28,29]),(lH 72 63 71,[0,1,2,3,4,5,6,7,8,9,10,11,12,13,14,15,16,17,18,19,20,21,22,23,24,25,26,27,28,29,30])]
abbrev aAX:LA:=[]
abbrev aNP:LA:=[H 73 3 8,E 74 73,M 6 74]
abbrev aNO:LA:=[lB 75 36,M 36 75]
abbrev aQk:aU:=(Q (O aNS) (Q (C (s 37) Z (X 0)) (Q (K 1 (Q (O aNR) (Q (Q (D 32 aNQ aAX) (C (s 72) (Q (O aBt) .ret) Z)) (O aNP)))) (O aNO))))
abbrev aNN:LA:=[M 76 6,lP 77 76,G 78 6 1,P 79 12 [s 78],lP 80 79,A 81 (b .eql (s 77) (s 80)),M 82 81,T 83 82 (l (.agg 7) (s 3)),⟨S 84,S (82,true),k 13 [s 83]⟩,lJ 85 82 6,⟨S 86,S (82,true),k 11 [s 84,s 85]⟩,lI 87 82 86,M 2 87]
def g0:LFn:=⟨(Q (O aJ0) (Q (Q (O aQj) (C (s 10) (Q (O aBt) .ret) Z)) (Q (Q (O aQi) (C (s 13) (Q (O aQh) .ret) Z)) (Q (O aQg) (Q (Q (O aQf) (C (s 20) (Q (O aQe) .ret) Z)) (Q (O aQd) (Q (Q (O aQc) (C (s 32) (Q (O aBt) .ret) Z)) (Q (O aNU) (Q (Q (O aNT) (K 0 (R aQk))) (Q (O aNN) .ret)))))))))),88,[.slot 2]⟩
theorem g0z:aE Tryz.prog 3=some g0:=Zz
abbrev aP3:LA:=[lG 0]
abbrev aP2:LA:=[⟨S 7,N,k 33 [(c (.str ⟨#[112,40,88,44,32,90,41,32,58,45,32,101,40,88,44,32,89,41,44,32,101,40,89,44,32,90,41,46]⟩))]⟩,M 6 7,lQ 8 6 0,lQ 9 6 1,lQ 10 6 2,⟨S 1,N,x (.agg 6) (c (.agg [(.str ⟨#[]⟩),(.sl (.agg 4) .nil []),(I j 0),(I j 0),(.sl (.agg 17) .nil []),(I j 0)]))⟩,W 6 1 8,M 2 9,M 3 10]
abbrev aP1:LA:=[G 12 6 1,P 13 9 [s 12],M 11 13,lQ 14 11 0,lQ 15 11 1,⟨S 4,N,x (.agg 7) (c (.agg [(.str ⟨#[]⟩),(.sl (.agg 4) .nil []),(I j 0),(I j 0),(.sl (.agg 17) .nil []),(I j 0),(.sl (.agg 5) .nil [])]))⟩,W 7 4 14,M 5 15]
abbrev aP0:LA:=[M 16 3,A 17 (e false (.iface true) (s 16) (c .nilIface)),M 18 17,lJ 19 18 5,T 20 18 (e false (.iface true) (s 19) (c .nilIface)),lI 21 18 20,M 22 21,lL 23 22 6 4,lK 24 22 23,T 25 22 (w (s 24)),T 26 22 (b .eql (s 25) (B 2)),lI 27 22 26,M 28 27,lL 29 28 6 4,lK 30 28 29,T 31 28 (i (.agg 5) (s 30) (B 1)),lL 32 28 4 31,lK 33 28 32,⟨S 34,S (28,true),y F [(B 0)]⟩,⟨S 35,S (28,true),k 18 [s 33,s 34]⟩,lI 36 28 35,M 37 36,lL 38 37 6 4,lK 39 37 38,T 40 37 (i (.agg 5) (s 39) (B 1)),lL 41 37 2 40,lK 42 37 41,⟨S 43,S (37,true),y F [(c (.str ⟨#[88]⟩)),(c (.str ⟨#[89]⟩))]⟩,⟨S 44,S (37,true),k 11 [s 42,s 43]⟩,lI 45 37 44,M 46 45,T 47 46 (l (.agg 7) (s 4)),⟨S 48,S (46,true),k 13 [s 47]⟩,⟨S 49,S (46,true),y F [(c (.str ⟨#[88]⟩)),(c (.str ⟨#[89]⟩)),(c (.str ⟨#[90]⟩))]⟩,⟨S 50,S (46,true),k 11 [s 48,s 49]⟩,lI 51 46 50,M 0 51]
def g1:LFn:=⟨(Q (O aP3) (Q (O aP2) (Q (O aP1) (Q (O aP0) .ret)))),52,[.slot 0]⟩
theorem g1z:aE Tryz.prog 7=some g1:=Zz
abbrev aMM:LA:=[Y 2 6 0,lF 4 0]
abbrev aPq:LA:=[H 7 0 2,G 8 2 7,M 9 1,P 10 34 [s 8,s 9],M 1 10]
abbrev aPp:LA:=[H 11 4 2,E 12 11,lP 13 12,lF 14 0]
abbrev aPo:LA:=[lA 15 14 13]
abbrev aPn:LA:=[lC 16 17 12 14,G 17 17 16,⟨S 6,N,x (.agg 17) (c (.agg [(I j 0),(.str ⟨#[]⟩),(.sl (.agg 4) .nil []),(I j 0),(I j 0),(.str ⟨#[]⟩),(I j 0),(I j 0),(.str ⟨#[]⟩),(.sl (.agg 6) .nil []),(I j 0),(.str ⟨#[]⟩),(I j 0),(I j 0),(.str ⟨#[]⟩),(.sl (.agg 6) .nil []),(I j 0)]))⟩,W 17 6 17]
abbrev aPm:LA:=[M 18 1,A 19 (b .lss (s 18) (B 0))]
abbrev aDx:LA:=[A 4 (m (B (-1)))]
abbrev aPl:LD:=[(H 20 10 6,[]),(G 21 6 20,[0]),(H 22 4 6,[]),(G 23 6 22,[2]),(H 24 1 6,[]),(G 25 2 24,[4]),(M 26 1,[]),(P 27 34 [s 25,s 26],[4,5,6]),(P 28 35 [s 23,s 27],[2,3,4,5,6,7]),(P 29 35 [s 21,s 28],Z9)]
abbrev aML:LA:=[M 1 29]
abbrev aPk:LA:=[lB 30 14,M 14 30]
abbrev aPr:aU:=(Q (O aPo) (Q (C (s 15) Z (X 0)) (Q (K 1 (Q (O aPn) (Q (Q (O aPm) (C (s 19) (Q (O aDx) .ret) Z)) (D 10 aPl aML)))) (O aPk))))
abbrev aPj:LA:=[M 31 1,M 4 31]
def g2:LFn:=⟨(Q (O aMM) (Q (O aPq) (Q (Q (O aPp) (K 0 (R aPr))) (Q (O aPj) .ret)))),32,[.slot 4]⟩
theorem g2z:aE Tryz.prog 8=some g2:=Zz
abbrev aPY:LA:=[Y 1 6 0,⟨S 2,N,x (.agg 7) (c (.agg [(.str ⟨#[]⟩),(.sl (.agg 4) .nil []),(I j 0),(I j 0),(.sl (.agg 17) .nil []),(I j 0),(.sl (.agg 5) .nil [])]))⟩,A 3 (m (c .nilIface))]
abbrev aPX:LA:=[G 13 6 1,P 14 36 [s 13],A 15 (.not (s 14)),M 12 15]
abbrev aPW:LA:=[⟨S 16,N,v (.build [(.str ⟨#[]⟩),(.sl (.agg 4) .nil []),(I j 0),(I j 0),(.sl (.agg 17) .nil []),(I j 0),(.sl (.agg 5) .nil [])] [])⟩,A 17 (.mkif 100 (B 2)),W 7 2 16,M 3 17]
abbrev aPV:LA:=[G 19 6 1,P 20 37 [s 19],lP 21 20,A 22 (b .gtr (s 21) (B 0)),M 18 22]
abbrev aPU:LA:=[⟨S 23,N,v (.build [(.str ⟨#[]⟩),(.sl (.agg 4) .nil []),(I j 0),(I j 0),(.sl (.agg 17) .nil []),(I j 0),(.sl (.agg 5) .nil [])] [])⟩,A 24 (.mkif 100 (B 8)),W 7 2 23,M 3 24]
abbrev aPT:LA:=[G 25 6 1,⟨S 26,N,v (.build [(.str ⟨#[]⟩),(.sl (.agg 4) .nil []),(I j 0),(I j 0),(.sl (.agg 17) .nil []),(I j 0),(.sl (.agg 5) .nil [])] [(0,(.agg 6),(s 25))])⟩,⟨S 4,N,x (.agg 7) (c (.agg [(.str ⟨#[]⟩),(.sl (.agg 4) .nil []),(I j 0),(I j 0),(.sl (.agg 17) .nil []),(I j 0),(.sl (.agg 5) .nil [])]))⟩,W 7 4 26]
abbrev aNz:LA:=[A 5 (m (c (.sl F .nil [])))]
abbrev aPS:LA:=[G 27 6 1,P 28 10 [s 27],lP 29 28,lF 30 0]
abbrev aPR:LA:=[lA 31 30 29]
abbrev aPQ:LA:=[lE 32 28 30,E 33 32,M 7 33]
abbrev aMI:LA:=[H 34 4 1,E 35 34,M 36 7,lC 37 17 35 36,G 38 17 37,⟨S 8,N,x (.agg 17) (c (.agg [(I j 0),(.str ⟨#[]⟩),(.sl (.agg 4) .nil []),(I j 0),(I j 0),(.str ⟨#[]⟩),(I j 0),(I j 0),(.str ⟨#[]⟩),(.sl (.agg 6) .nil []),(I j 0),(.str ⟨#[]⟩),(I j 0),(I j 0),(.str ⟨#[]⟩),(.sl (.agg 6) .nil []),(I j 0)]))⟩,W 17 8 38]
abbrev aMH:LA:=[G 39 17 8,P 40 38 [s 39],M 41 7,M 42 5,M 43 5,P 44 39 [s 43],A 45 (.build [(I j 0),(I j 0),(.sl F .nil []),(.sl F .nil []),(.sl F .nil [])] [(0,F,(s 40)),(1,F,(s 41)),(2,F,(s 42)),(3,F,(s 44))]),⟨S 9,N,x (.agg 5) (c (.agg [(I j 0),(I j 0),(.sl F .nil []),(.sl F .nil []),(.sl F .nil [])]))⟩,W 5 9 45]
abbrev aMG:LA:=[G 46 17 8,P 47 40 [s 46],lP 48 47,lF 49 0]
abbrev aMF:LA:=[lA 50 49 48]
abbrev aME:LA:=[lE 51 47 49,E 52 51,M 11 52]
abbrev aMD:LA:=[M 53 5,M 54 11,P 55 41 [s 53,s 54],A 56 (.not (s 55))]
abbrev aMC:LA:=[H 57 3 9,E 58 57,M 59 11,⟨S 60,N,y F [s 59]⟩,⟨S 61,N,a F 16 (s 58) (s 60)⟩,H 62 3 9,⟨N,N,t F (s 62) (s 61)⟩]
abbrev aMB:LA:=[lB 63 49,M 49 63]
abbrev aPa:aU:=(Q (O aMF) (Q (C (s 50) Z (X 3)) (Q (K 4 (Q (O aME) (Q (O aMD) (C (s 56) (O aMC) Z)))) (O aMB))))
abbrev aMA:LA:=[H 64 0 9,E 65 64,A 66 (b .neq (s 65) (B 3))]
abbrev aL9:LA:=[H 67 1 8,G 68 2 67,M 69 5,P 70 42 [s 68,s 69],H 71 4 9,⟨N,N,t F (s 71) (s 70)⟩]
abbrev aL8:LA:=[H 72 6 4,E 73 72,G 74 5 9,⟨S 75,N,y (.agg 5) [s 74]⟩,lS 76 5 88 73 75,H 77 6 4,⟨N,N,t F (s 77) (s 76)⟩]
abbrev aL7:LA:=[H 78 3 9,E 79 78,M 5 79]
abbrev aL6:LA:=[lB 80 30,M 30 80]
abbrev aPZ:aU:=(Q (O aPR) (Q (C (s 31) Z (X 1)) (Q (K 2 (Q (O aPQ) (Q (O aMI) (Q (O aMH) (Q (Q (O aMG) (K 3 (R aPa))) (Q (Q (O aMA) (C (s 66) (O aL9) Z)) (Q (O aL8) (O aL7)))))))) (O aL6))))
abbrev aL5:LA:=[G 81 7 4,W 7 2 81,A 3 (m (c .nilIface))]
def g3:LFn:=⟨(Q (O aPY) (Q (K 0 (Q (O aPX) (C (s 12) (Q (O aPW) .ret) (Q (O aPV) (C (s 18) (Q (O aPU) .ret) Z))))) (Q (O aPT) (Q (O aNz) (Q (Q (O aPS) (K 1 (R aPZ))) (Q (O aL5) .ret)))))),82,[.cell 2 (.agg 7),.slot 3]⟩
theorem g3z:aE Tryz.prog 9=some g3:=Zz
abbrev aKH:LA:=[Y 1 6 0,A 2 (m (c (.sl F .nil [])))]
abbrev aPG:LA:=[⟨S 3,N,x F (c (.sl F .nil []))⟩]
abbrev aPF:LA:=[G 5 6 1,P 6 43 [s 5]]
abbrev aPE:LA:=[M 4 7]
abbrev aPD:LA:=[E 9 3,M 10 4,⟨S 11,N,y F [s 10]⟩,⟨S 12,N,a F 8 (s 9) (s 11)⟩,⟨N,N,t F (s 3) (s 12)⟩]
abbrev aPH:aU:=(K 1 (O aPD))
abbrev aPC:LA:=[E 13 3,M 2 13]
def g4:LFn:=⟨(Q (O aKH) (Q (O aPG) (Q (Q (O aPF) (K 0 (.range (s 6) [7,8] (O aPE) aPH))) (Q (O aPC) .ret)))),14,[.slot 2]⟩
theorem g4z:aE Tryz.prog 10=some g4:=Zz
abbrev aBb:LA:=[lG 4]
abbrev aNx:LA:=[M 6 0,lP 7 6,M 8 1,lP 9 8,A 10 (b .neq (s 7) (s 9))]
abbrev aNw:LA:=[M 11 0,lP 12 11,lF 13 0]
abbrev aKx:LA:=[lA 14 13 12]
abbrev aNv:LA:=[M 15 13,M 5 15]
abbrev aNu:LD:=[(M 16 0,[]),(M 17 5,[]),(lE 18 16 17,[0,1]),(E 19 18,Z3),(M 20 1,[]),(M 21 5,[]),(lE 22 20 21,[4,5]),(E 23 22,[4,5,6]),(A 24 (b .neq (s 19) (s 23)),Z8)]
abbrev aNt:LA:=[lB 25 13,M 13 25]
abbrev aO2:aU:=(Q (O aKx) (Q (C (s 14) Z (X 0)) (Q (K 1 (Q (O aNv) (Q (D 9 aNu aAX) (C (s 24) (Q (O aBb) .ret) Z)))) (O aNt))))
abbrev aFm:LA:=[A 4 (m Bb)]
def g5:LFn:=⟨(Q (O aBb) (Q (Q (O aNx) (C (s 10) (Q (O aBb) .ret) Z)) (Q (Q (O aNw) (K 0 (R aO2))) (Q (O aFm) .ret)))),26,[.slot 4]⟩
theorem g5z:aE Tryz.prog 11=some g5:=Zz
abbrev aOs:LA:=[H 6 0 1,H 7 1 6,E 8 7,P 9 44 [(c (.sl F .nil [])),s 8],M 3 9]
abbrev aOr:LA:=[H 10 4 1,E 11 10,lP 12 11,lF 13 0]
abbrev aOq:LA:=[lC 15 17 11 13,G 16 17 15,⟨S 5,N,x (.agg 17) (c (.agg [(I j 0),(.str ⟨#[]⟩),(.sl (.agg 4) .nil []),(I j 0),(I j 0),(.str ⟨#[]⟩),(I j 0),(I j 0),(.str ⟨#[]⟩),(.sl (.agg 6) .nil []),(I j 0),(.str ⟨#[]⟩),(I j 0),(I j 0),(.str ⟨#[]⟩),(.sl (.agg 6) .nil []),(I j 0)]))⟩,W 17 5 16]
abbrev aOp:LA:=[M 17 3,G 18 17 5,P 19 45 [s 18],P 20 44 [s 17,s 19],M 3 20]
abbrev aOo:LA:=[lB 21 13,M 13 21]
abbrev aOt:aU:=(Q (O aKx) (Q (C (s 14) Z (X 0)) (Q (K 1 (Q (O aOq) (O aOp))) (O aOo))))
abbrev aOn:LA:=[M 22 3,M 2 22]
def g6:LFn:=⟨(Q (O aKH) (Q (O aOs) (Q (Q (O aOr) (K 0 (R aOt))) (Q (O aOn) .ret)))),23,[.slot 2]⟩
theorem g6z:aE Tryz.prog 12=some g6:=Zz
abbrev aNI:LA:=[Y 1 7 0,A 2 (m (c (.sl F .nil [])))]
abbrev aNH:LA:=[H 3 6 1,E 4 3,lP 5 4,A 6 (b .eql (s 5) (B 0))]
abbrev aNG:LA:=[A 2 (m (c (.sl F .nil [])))]
abbrev aNF:LA:=[H 7 6 1,E 8 7,H 9 6 1,E 10 9,lP 11 10,A 12 (b .sub (s 11) (B 1)),lC 13 5 8 12,H 14 3 13,E 15 14,P 16 39 [s 15],M 2 16]
def g7:LFn:=⟨(Q (O aNI) (Q (Q (O aNH) (C (s 6) (Q (O aNG) .ret) Z)) (Q (O aNF) .ret))),17,[.slot 2]⟩
theorem g7z:aE Tryz.prog 13=some g7:=Zz
abbrev aNE:aU:=(Q (O aKx) (Q (C (s 14) Z (X 0)) (Q (K 1 (Q (O aNv) (Q (D 9 aNu aAX) (C (s 24) (Q (O aBb) .ret) Z)))) (O aNt))))
def g8:LFn:=⟨(Q (O aBb) (Q (Q (O aNx) (C (s 10) (Q (O aBb) .ret) Z)) (Q (Q (O aNw) (K 0 (R aNE))) (Q (O aFm) .ret)))),26,[.slot 4]⟩
theorem g8z:aE Tryz.prog 18=some g8:=Zz
abbrev aND:LA:=[⟨S 2,N,x (.agg 6) (c (.agg [(.str ⟨#[]⟩),(.sl (.agg 4) .nil []),(I j 0),(I j 0),(.sl (.agg 17) .nil []),(I j 0)]))⟩,lF 3 0,A 4 (m (c .nilIface))]
abbrev aNC:LA:=[M 5 0,P 6 74 [s 5,(c (.fn (.func 75) [] []))],lQ 7 6 0,lQ 8 6 1,lQ 9 6 2,W 6 2 7,M 3 8,M 4 9]
def g9:LFn:=⟨(Q (O aND) (Q (O aNC) .ret)),10,[.cell 2 (.agg 6),.slot 3,.slot 4]⟩
theorem g9z:aE Tryz.prog 33=some g9:=Zz
abbrev aNA:LA:=[Y 2 2 0,lF 4 0]
abbrev aM9:LA:=[M 7 1,H 8 0 2,E 9 8,A 10 (.slen (s 9)),A 11 (b .quo (s 10) (B 50)),A 12 (b .add (B 1) (s 11)),A 13 (b .sub (s 7) (s 12)),M 1 13]
abbrev aM8:LA:=[H 14 1 2,E 15 14,lP 16 15,lF 17 0]
abbrev aM7:LA:=[lA 18 17 16]
abbrev aM6:LA:=[lC 19 4 15 17,G 20 4 19,⟨S 6,N,x (.agg 4) (c (.agg [(.str ⟨#[]⟩),(I j 0),(I j 0),(.str ⟨#[]⟩)]))⟩,W 4 6 20]
abbrev aM5:LA:=[M 21 1,H 22 0 6,E 23 22,A 24 (.slen (s 23)),H 25 1 6,H 26 2 25,E 27 26,A 28 (.slen (s 27)),A 29 (b .add (s 24) (s 28)),A 30 (b .quo (s 29) (B 50)),A 31 (b .add (B 1) (s 30)),A 32 (b .sub (s 21) (s 31)),M 1 32]
abbrev aM4:LA:=[M 33 1,A 34 (b .lss (s 33) (B 0))]
abbrev aM3:LA:=[lB 35 17,M 17 35]
abbrev aNB:aU:=(Q (O aM7) (Q (C (s 18) Z (X 0)) (Q (K 1 (Q (O aM6) (Q (O aM5) (Q (O aM4) (C (s 34) (Q (O aDx) .ret) Z))))) (O aM3))))
abbrev aM2:LA:=[M 36 1,M 4 36]
def g10:LFn:=⟨(Q (O aNA) (Q (O aM9) (Q (Q (O aM8) (K 0 (R aNB))) (Q (O aM2) .ret)))),37,[.slot 4]⟩
theorem aQb:aE Tryz.prog 34=some g10:=Zz
abbrev aMz:LA:=[M 7 1,H 8 1 2,H 9 0 8,E 10 9,A 11 (.slen (s 10)),H 12 1 2,H 13 1 12,H 14 2 13,E 15 14,A 16 (.slen (s 15)),A 17 (b .add (s 11) (s 16)),A 18 (b .quo (s 17) (B 50)),A 19 (b .add (B 1) (s 18)),A 20 (b .sub (s 7) (s 19)),M 1 20]
abbrev aMy:LA:=[H 21 5 2,E 22 21,lP 23 22,lF 24 0]
abbrev aMx:LA:=[lA 25 24 23]
abbrev aMw:LA:=[lC 26 6 22 24,G 27 6 26,⟨S 6,N,x (.agg 6) (c (.agg [(I j 0),(.str ⟨#[]⟩),(I j 0),(I j 0),(.str ⟨#[]⟩),(.sl (.agg 6) .nil [])]))⟩,W 6 6 27]
abbrev aMv:LA:=[M 28 1,A 29 (b .lss (s 28) (B 0))]
abbrev aMu:LA:=[G 30 6 6,M 31 1,P 32 35 [s 30,s 31],M 1 32]
abbrev aMt:LA:=[lB 33 24,M 24 33]
abbrev aM0:aU:=(Q (O aMx) (Q (C (s 25) Z (X 0)) (Q (K 1 (Q (O aMw) (Q (Q (O aMv) (C (s 29) (Q (O aDx) .ret) Z)) (O aMu)))) (O aMt))))
abbrev aMs:LA:=[M 34 1,M 4 34]
def g11:LFn:=⟨(Q (O aMM) (Q (O aMz) (Q (Q (O aMy) (K 0 (R aM0))) (Q (O aMs) .ret)))),35,[.slot 4]⟩
theorem aQa:aE Tryz.prog 35=some g11:=Zz
abbrev aMr:LA:=[H 3 0 1,G 4 2 3,P 5 76 [s 4],M 6 5,T 7 6 (l (.agg 6) (s 1)),⟨S 8,S (6,true),k 77 [s 7]⟩,lI 9 6 8,M 10 9,lL 11 10 4 1,lK 12 10 11,T 13 10 (w (s 12)),T 14 10 (b .leq (s 13) (B 8)),lI 15 10 14,M 16 15,lL 17 16 4 1,lK 18 16 17,⟨S 19,S (16,true),k 78 [s 18,(c (.fn (.func 79) [] []))]⟩,lI 20 16 19,M 2 20]
def g12:LFn:=⟨(Q (O aJ0) (Q (O aMr) .ret)),21,[.slot 2]⟩
theorem aQZ:aE Tryz.prog 36=some g12:=Zz
abbrev aMq:LD:=[(G 3 6 1,[]),(G 4 6 1,[]),(P 5 81 [s 4],[1]),(P 6 80 [s 3,s 5,Ba],Z3),(M 2 6,Z4)]
def g13:LFn:=⟨(Q (O aKH) (Q (D 5 aMq aAX) .ret)),7,[.slot 2]⟩
theorem aQY:aE Tryz.prog 37=some g13:=Zz
abbrev aMp:LA:=[Y 1 17 0,lF 2 0]
abbrev aEZ:LA:=[H 3 0 1,E 4 3]
abbrev aEY:LA:=[A 6 (b .eql (s 4) (B 1)),M 5 6]
abbrev aF9:LA:=[lF 2 1]
abbrev aMo:LA:=[A 8 (b .eql (s 4) (B 2)),M 7 8]
abbrev aF8:LA:=[lF 2 2]
abbrev aF7:LA:=[lF 2 3]
def g14:LFn:=⟨(Q (O aMp) (Q (Q (O aEZ) (K 0 (Q (O aEY) (C (s 5) (Q (O aF9) .ret) (Q (O aMo) (C (s 7) (Q (O aF8) .ret) Z)))))) (Q (O aF7) .ret))),9,[.slot 2]⟩
theorem aQX:aE Tryz.prog 38=some g14:=Zz
abbrev aMn:LA:=[Y 1 17 0,A 2 (m (c (.sl F .nil [])))]
abbrev aMm:LA:=[G 3 17 1,P 4 45 [s 3],P 5 44 [(c (.sl F .nil [])),s 4],M 2 5]
def g15:LFn:=⟨(Q (O aMn) (Q (O aMm) .ret)),6,[.slot 2]⟩
theorem aQW:aE Tryz.prog 40=some g15:=Zz
abbrev aMl:LA:=[M 5 0,M 6 1,P 7 82 [s 5,s 6],A 8 (b .geq (s 7) (B 0)),M 4 8]
def g16:LFn:=⟨(Q (O aBb) (Q (O aMl) .ret)),9,[.slot 4]⟩
theorem aN8:aE Tryz.prog 41=some g16:=Zz
abbrev aMj:LA:=[Y 2 2 0,A 4 (m (c (.sl F .nil [])))]
abbrev aMi:LA:=[H 8 1 2,E 9 8,lP 10 9,lF 11 0]
abbrev aMh:LA:=[lA 12 11 10]
abbrev aMg:LA:=[M 13 11,lC 14 4 9 11,G 15 4 14,⟨S 7,N,x (.agg 4) (c (.agg [(.str ⟨#[]⟩),(I j 0),(I j 0),(.str ⟨#[]⟩)]))⟩,M 6 13,W 4 7 15]
abbrev aMf:LA:=[H 16 0 7,E 17 16,⟨S 18,N,v (b .eql (s 17) (c (.str ⟨#[]⟩)))⟩,M 19 18,lM 20 19 1,lO 21 19 0 7,lN 22 19 21,⟨S 23,S (19,false),k 41 [s 20,s 22]⟩,lH 24 19 23]
abbrev aMe:LA:=[M 25 5,M 26 6,⟨S 27,N,y F [s 26]⟩,⟨S 28,N,a F 8 (s 25) (s 27)⟩,M 5 28]
abbrev aMd:LA:=[lB 29 11,M 11 29]
abbrev aMk:aU:=(Q (O aMh) (Q (C (s 12) Z (X 0)) (Q (K 1 (Q (O aMg) (Q (O aMf) (C (s 24) (O aMe) Z)))) (O aMd))))
abbrev aMc:LA:=[M 30 5,M 4 30]
def g17:LFn:=⟨(Q (O aMj) (Q (O aNz) (Q (Q (O aMi) (K 0 (R aMk))) (Q (O aMc) .ret)))),31,[.slot 4]⟩
theorem aQV:aE Tryz.prog 42=some g17:=Zz
abbrev aF6:LA:=[Y 1 6 0,A 2 (m (c .aAU))]
abbrev aMb:LA:=[A 3 (.mkfn (.func 83) [] [s 1]),M 2 3]
def g18:LFn:=⟨(Q (O aF6) (Q (O aMb) .ret)),4,[.slot 2]⟩
theorem aQU:aE Tryz.prog 43=some g18:=Zz
abbrev aEX:LA:=[A 4 (m (c (.sl F .nil [])))]
abbrev aMZ:LA:=[M 7 1,lP 8 7,lF 9 0]
abbrev aMY:LA:=[lA 10 9 8]
abbrev aMX:LA:=[lC 11 4 7 9,G 12 4 11,⟨S 6,N,x (.agg 4) (c (.agg [(.str ⟨#[]⟩),(I j 0),(I j 0),(.str ⟨#[]⟩)]))⟩,W 4 6 12]
abbrev aMW:LA:=[H 13 0 6,E 14 13,⟨S 15,N,v (b .neq (s 14) (c (.str ⟨#[]⟩)))⟩,M 16 15,lJ 17 16 0,lL 18 16 0 6,lK 19 16 18,⟨S 20,S (16,true),k 41 [s 17,s 19]⟩,T 21 16 (.not (s 20)),lI 22 16 21]
abbrev aMV:LA:=[M 23 0,H 24 0 6,E 25 24,⟨S 26,N,y F [s 25]⟩,⟨S 27,N,a F 16 (s 23) (s 26)⟩,M 0 27]
abbrev aMU:LA:=[lB 28 9,M 9 28]
abbrev aMa:aU:=(Q (O aMY) (Q (C (s 10) Z (X 0)) (Q (K 1 (Q (O aMX) (Q (O aMW) (C (s 22) (O aMV) Z)))) (O aMU))))
abbrev aMT:LA:=[M 29 0,M 4 29]
def g19:LFn:=⟨(Q (O aEX) (Q (Q (O aMZ) (K 0 (R aMa))) (Q (O aMT) .ret))),30,[.slot 4]⟩
theorem aQT:aE Tryz.prog 44=some g19:=Zz
abbrev aMS:LA:=[Y 1 17 0,A 2 (m (c (.sl (.agg 4) .nil [])))]
abbrev aMR:LD:=[(H 3 1 1,[]),(H 4 1 3,[0]),(E 5 4,[0,1]),(H 6 4 1,[]),(G 7 6 6,[3]),(P 8 89 [s 7],[3,4]),(P 9 88 [s 8],[3,4,5]),(H 10 10 1,[]),(G 11 6 10,[7]),(P 12 89 [s 11],[3,4,5,6,7,8]),(P 13 88 [s 12],[3,4,5,6,7,8,9]),(⟨S 14,N,y F [s 5,s 9,s 13]⟩,Z11),(P 15 87 [s 14],Z12),(M 2 15,Z13)]
def g20:LFn:=⟨(Q (O aMS) (Q (D 14 aMR aAX) .ret)),16,[.slot 2]⟩
theorem aQS:aE Tryz.prog 45=some g20:=Zz
abbrev aMQ:LA:=[Y 1 3 0,lG 2]
abbrev aMP:LA:=[H 7 2 1,E 8 7,⟨S 9,N,v (b .eql (s 8) (c (.str ⟨#[]⟩)))⟩,M 10 9,lL 11 10 1 1,lK 12 10 11,⟨S 13,S (10,true),k 97 [s 12]⟩,lI 14 10 13,M 2 14]
abbrev aMO:LA:=[A 16 (b .eql (s 4) (B 2)),M 15 16]
abbrev aMN:LA:=[H 17 1 1,E 18 17,A 19 (b .eql (s 18) (B 0)),M 20 19,lL 21 20 2 1,lK 22 20 21,⟨S 23,S (20,true),k 98 [s 22]⟩,lI 24 20 23,M 2 24]
def g21:LFn:=⟨(Q (O aMQ) (Q (Q (O aEZ) (K 0 (Q (O aEY) (C (s 5) (Q (O aMP) .ret) (Q (O aMO) (C (s 15) (Q (O aMN) .ret) Z)))))) (Q (O aBt) .ret))),25,[.slot 2]⟩
theorem aN7:aE Tryz.prog 54=some g21:=Zz
abbrev aMK:LA:=[Y 2 3 0,Y 3 3 1,lF 4 0]
abbrev aMJ:LD:=[(H 5 0 2,[]),(E 6 5,[0]),(H 7 0 3,[]),(E 8 7,[2]),(P 9 106 [s 6,s 8],Z4),(H 10 1 2,[]),(E 11 10,[5]),(H 12 1 3,[]),(E 13 12,[7]),(P 14 107 [s 11,s 13],Z9),(H 15 2 2,[]),(E 16 15,[10]),(H 17 2 3,[]),(E 18 17,[12]),(P 19 108 [s 16,s 18],Z14),(⟨S 20,N,y F [s 9,s 14,s 19]⟩,Z15),(P 21 105 [s 20],Z16),(M 4 21,Z17)]
def g22:LFn:=⟨(Q (O aMK) (Q (D 18 aMJ aAX) .ret)),22,[.slot 4]⟩
theorem aQR:aE Tryz.prog 65=some g22:=Zz
abbrev aL4:LA:=[⟨S 4,N,x (.agg 6) (c (.agg [(.str ⟨#[]⟩),(.sl (.agg 4) .nil []),(I j 0),(I j 0),(.sl (.agg 17) .nil []),(I j 0)]))⟩,lF 5 0,A 6 (m (c .nilIface))]
abbrev aL3:LA:=[⟨S 7,N,x (.agg 6) (c (.agg [(.str ⟨#[]⟩),(.sl (.agg 4) .nil []),(I j 0),(I j 0),(.sl (.agg 17) .nil []),(I j 0)]))⟩]
abbrev aL2:LA:=[M 14 0,P 15 115 [s 14],M 13 15,lQ 16 13 0,lQ 17 13 1,lQ 18 13 2,M 8 16,M 9 17,M 10 18]
abbrev aL1:LA:=[M 19 10,A 20 (e true (.iface true) (s 19) (c .nilIface))]
abbrev aL0:LA:=[G 21 6 7,M 22 9,M 23 10,W 6 4 21,M 5 22,M 6 23]
abbrev aLz:LA:=[M 24 8,M 25 0,A 26 (.slen (s 25)),A 27 (.build [(.sl (.agg 3) .nil []),(I j 0),(I j 0),(I j 0),(I j 0),(I j 0)] [(0,F,(s 24)),(2,F,(s 26))]),Y 28 6 27,M 11 28]
abbrev aLy:LA:=[M 29 1,M 30 11,⟨S 31,N,.callv (s 29) [s 30]⟩,⟨S 12,N,x (.agg 6) (c (.agg [(.str ⟨#[]⟩),(.sl (.agg 4) .nil []),(I j 0),(I j 0),(.sl (.agg 17) .nil []),(I j 0)]))⟩,W 6 12 31]
abbrev aLx:LD:=[(M 32 11,[]),(lR 33 32,[0]),(H 34 1 33,[0,1]),(E 35 34,Z3),(M 36 11,[]),(lR 37 36,[4]),(H 38 0 37,[4,5]),(E 39 38,[4,5,6]),(lP 40 39,[4,5,6,7]),(lA 41 35 40,Z9)]
abbrev aLw:LA:=[M 42 11,M 43 11,P 44 117 [s 43],P 45 116 [s 42,s 44,(B 2)]]
abbrev aLv:LA:=[M 46 11,lR 47 46,H 48 5 47,E 49 48,A 50 (b .neq (s 49) (B 0))]
abbrev aF5:LD:=[(G 51 6 7,[]),(M 52 11,[]),(lR 53 52,[1]),(H 54 4 53,[1,2]),(E 55 54,[1,2,3]),(M 56 11,[]),(lR 57 56,[5]),(H 58 5 57,[5,6]),(E 59 58,[5,6,7]),(A 60 (.mkif 100 (s 59)),[5,6,7,8]),(W 6 4 51,[0]),(M 5 55,[0,1,2,3,4,10]),(M 6 60,Z12)]
abbrev aF4:LA:=[G 61 6 12,W 6 4 61,lF 5 0,A 6 (m (c .nilIface))]
def g23:LFn:=⟨(Q (O aL4) (Q (O aL3) (Q (O aL2) (Q (Q (O aL1) (C (s 20) (Q (O aL0) .ret) Z)) (Q (O aLz) (Q (O aLy) (Q (Q (D 10 aLx aAX) (C (s 41) (O aLw) Z)) (Q (Q (O aLv) (C (s 50) (Q (D 14 aF5 aAX) .ret) Z)) (Q (O aF4) .ret))))))))),62,[.cell 4 (.agg 6),.slot 5,.slot 6]⟩
theorem aQQ:aE Tryz.prog 74=some g23:=Zz
abbrev aLt:LA:=[⟨S 2,N,x (.agg 6) (c (.agg [(.str ⟨#[]⟩),(.sl (.agg 4) .nil []),(I j 0),(I j 0),(.sl (.agg 17) .nil []),(I j 0)]))⟩]
abbrev aLs:LA:=[M 5 0,P 6 117 [s 5],⟨S 7,N,v (.build [(.str ⟨#[]⟩),(.sl (.agg 4) .nil []),(I j 0),(I j 0),(.sl (.agg 17) .nil []),(I j 0)] [(5,F,(s 6))])⟩,⟨S 3,N,x (.agg 6) (c (.agg [(.str ⟨#[]⟩),(.sl (.agg 4) .nil []),(I j 0),(I j 0),(.sl (.agg 17) .nil []),(I j 0)]))⟩,W 6 3 7]
abbrev aLr:LA:=[M 8 0,P 9 118 [s 8,s 3]]
abbrev aLq:LA:=[M 10 0,⟨S 11,N,k 119 [s 10,(c (.str ⟨#[58,45]⟩))]⟩]
abbrev aLp:LA:=[M 12 4,M 13 12,lJ 14 13 0,T 15 13 (n (s 14)),lL 16 13 5 15,lK 17 13 16,T 18 13 (b .eql (s 17) (B 0)),lI 19 13 18]
abbrev aLo:LA:=[H 22 4 3,E 23 22,lP 24 23,A 25 (b .geq (s 24) (B 8))]
abbrev aLn:LA:=[M 26 0,M 27 0,P 28 117 [s 27],P 29 116 [s 26,s 28,(B 3)]]
abbrev aLm:LD:=[(H 30 4 3,[]),(E 31 30,[0]),(M 32 0,[]),(P 33 120 [s 32],[2]),(⟨S 34,N,y (.agg 17) [s 33]⟩,[2,3]),(lS 35 17 224 31 34,Z5),(H 36 4 3,Z6)]
abbrev aF1:LA:=[⟨N,N,t F (s 36) (s 35)⟩]
abbrev aLl:LA:=[M 20 0,⟨S 21,N,k 119 [s 20,(c (.str ⟨#[44]⟩))]⟩,M 4 21]
abbrev aLu:aU:=(Q (Q (O aLp) (C (s 19) Z (X 0))) (Q (K 1 (Q (Q (O aLo) (C (s 25) (Q (O aLn) (X 0)) Z)) (D 7 aLm aF1))) (O aLl)))
abbrev aF3:LA:=[M 37 0,⟨S 38,N,k 121 [s 37,(c (.str ⟨#[46]⟩))]⟩]
abbrev aF2:LA:=[G 39 6 3,W 6 2 39]
def g24:LFn:=⟨(Q (O aLt) (Q (O aLs) (Q (O aLr) (Q (Q (O aLq) (C (s 11) (Q (O aFm) (K 0 (R aLu))) Z)) (Q (O aF3) (Q (O aF2) .ret)))))),40,[.cell 2 (.agg 6)]⟩
theorem aQP:aE Tryz.prog 75=some g24:=Zz
abbrev aLk:LA:=[Y 1 2 0,lG 2]
abbrev aLj:LA:=[H 3 0 1,E 4 3,P 5 122 [s 4],M 6 5,lL 7 6 1 1,lK 8 6 7,T 9 6 (w (s 8)),T 10 6 (b .leq (s 9) (B 6)),lI 11 6 10,M 12 11,lL 13 12 1 1,lK 14 12 13,⟨S 15,S (12,true),k 123 [s 14,(c (.fn (.func 124) [] []))]⟩,lI 16 12 15,M 2 16]
def g25:LFn:=⟨(Q (O aLk) (Q (O aLj) .ret)),17,[.slot 2]⟩
theorem aQO:aE Tryz.prog 76=some g25:=Zz
abbrev aLi:LA:=[H 3 2 1,E 4 3,A 5 (b .eql (s 4) (B 0))]
abbrev aLh:LA:=[H 6 3 1,E 7 6,A 8 (b .eql (s 7) (B 0)),M 2 8]
abbrev aLg:LA:=[H 9 2 1,E 10 9,A 11 (b .lss (s 10) (B 0)),M 12 11,lO 13 12 2 1,lN 14 12 13,U 15 12 (b .gtr (s 14) (B 4)),lH 16 12 15,M 17 16,lO 18 17 3 1,lN 19 17 18,U 20 17 (b .lss (s 19) (B 0)),lH 21 17 20,M 22 21,lO 23 22 3 1,lN 24 22 23,lO 25 22 0 1,lO 26 22 1 25,lN 27 22 26,U 28 22 (w (s 27)),U 29 22 (b .geq (s 24) (s 28)),lH 30 22 29]
abbrev aLf:LA:=[H 31 0 1,H 32 1 31,E 33 32,H 34 3 1,E 35 34,lC 36 4 33 35,H 37 0 36,E 38 37,⟨S 39,N,v (b .neq (s 38) (c (.str ⟨#[]⟩)))⟩,M 2 39]
def g26:LFn:=⟨(Q (O aJ0) (Q (Q (O aLi) (C (s 5) (Q (O aLh) .ret) Z)) (Q (Q (O aLg) (C (s 30) (Q (O aBt) .ret) Z)) (Q (O aLf) .ret)))),40,[.slot 2]⟩
theorem aQN:aE Tryz.prog 77=some g26:=Zz
abbrev aF0:LA:=[⟨S 3,N,x F (s 1)⟩,lG 4]
abbrev aLe:LA:=[M 5 0,A 6 (.mkfn (.func 126) [] [s 3]),P 7 125 [s 5,s 6],A 8 (.not (s 7)),M 4 8]
def g27:LFn:=⟨(Q (O aF0) (Q (O aLe) .ret)),9,[.slot 4]⟩
theorem aQM:aE Tryz.prog 78=some g27:=Zz
abbrev aLc:LA:=[Y 1 17 0,lG 2]
abbrev aLb:LA:=[A 7 (b .eql (s 4) (B 2)),M 5 7]
abbrev aLa:LA:=[H 8 1 1,G 9 2 8,P 10 76 [s 9],M 11 10,lL 12 11 3 1,lK 13 11 12,T 14 11 (b .eql (s 13) (B 0)),lI 15 11 14,M 16 15,lL 17 16 4 1,T 18 16 (l (.agg 6) (s 17)),⟨S 19,S (16,true),k 127 [s 18]⟩,lI 20 16 19,M 21 20,lL 22 21 10 1,T 23 21 (l (.agg 6) (s 22)),⟨S 24,S (21,true),k 127 [s 23]⟩,lI 25 21 24,M 2 25]
abbrev aLZ:LA:=[A 27 (b .eql (s 4) (B 3)),M 26 27]
abbrev aLY:LA:=[H 28 1 1,H 29 0 28,E 30 29,⟨S 31,N,v (b .eql (s 30) (c (.str ⟨#[]⟩)))⟩,M 32 31,lL 33 32 1 1,lL 34 32 1 33,lK 35 32 34,T 36 32 (w (s 35)),T 37 32 (b .eql (s 36) (B 0)),lI 38 32 37,M 39 38,lL 40 39 3 1,lK 41 39 40,T 42 39 (b .geq (s 41) (B 1)),lI 43 39 42,M 44 43,lL 45 44 3 1,lK 46 44 45,T 47 44 (b .leq (s 46) (B 6)),lI 48 44 47,M 49 48,lL 50 49 4 1,T 51 49 (l (.agg 6) (s 50)),⟨S 52,S (49,true),k 128 [s 51]⟩,lI 53 49 52,M 54 53,lL 55 54 10 1,T 56 54 (l (.agg 6) (s 55)),⟨S 57,S (54,true),k 128 [s 56]⟩,lI 58 54 57,M 2 58]
def g28:LFn:=⟨(Q (O aLc) (Q (Q (O aEZ) (K 0 (Q (Q (O aEY) (C (s 5) Z (O aLb))) (C (s 5) (Q (O aLa) .ret) (Q (O aLZ) (C (s 26) (Q (O aLY) .ret) Z)))))) (Q (O aBt) .ret))),59,[.slot 2]⟩
theorem aQL:aE Tryz.prog 79=some g28:=Zz
abbrev aLX:LA:=[Y 3 6 0,⟨S 4,N,x F (s 1)⟩,⟨S 5,N,x F (s 2)⟩,A 6 (m (c (.sl F .nil [])))]
abbrev aLW:LA:=[G 7 6 3,P 8 12 [s 7],A 9 (.mkfn (.func 130) [] [s 4,s 5]),P 10 129 [s 8,s 9],M 6 10]
def g29:LFn:=⟨(Q (O aLX) (Q (O aLW) .ret)),11,[.slot 6]⟩
theorem aQK:aE Tryz.prog 80=some g29:=Zz
abbrev aLS:LA:=[Y 1 6 0,A 2 (m (c .aAJ))]
abbrev aFz:LA:=[⟨S 8,N,.mp (.mk)⟩,M 3 8]
abbrev aFt:LA:=[H 9 4 1,E 10 9,lP 11 10,lF 12 0]
abbrev aFs:LA:=[lA 13 12 11]
abbrev aLR:LA:=[lC 14 17 10 12,G 15 17 14,⟨S 5,N,x (.agg 17) (c (.agg [(I j 0),(.str ⟨#[]⟩),(.sl (.agg 4) .nil []),(I j 0),(I j 0),(.str ⟨#[]⟩),(I j 0),(I j 0),(.str ⟨#[]⟩),(.sl (.agg 6) .nil []),(I j 0),(.str ⟨#[]⟩),(I j 0),(I j 0),(.str ⟨#[]⟩),(.sl (.agg 6) .nil []),(I j 0)]))⟩,W 17 5 15]
abbrev aLQ:LA:=[H 16 0 5,E 17 16,A 18 (b .eql (s 17) (B 1))]
abbrev aLP:LA:=[M 19 3,G 20 17 5,P 21 40 [s 20],P 22 86 [s 19,s 21]]
abbrev aLO:LA:=[lB 23 12,M 12 23]
abbrev aLV:aU:=(Q (O aFs) (Q (C (s 13) Z (X 0)) (Q (K 1 (Q (O aLR) (Q (O aLQ) (C (s 18) (O aLP) Z)))) (O aLO))))
abbrev aLN:LA:=[H 24 4 1,E 25 24,lP 26 25,lF 27 0]
abbrev aLM:LA:=[lA 28 27 26]
abbrev aFy:LA:=[lC 29 17 25 27,G 30 17 29,⟨S 7,N,x (.agg 17) (c (.agg [(I j 0),(.str ⟨#[]⟩),(.sl (.agg 4) .nil []),(I j 0),(I j 0),(.str ⟨#[]⟩),(I j 0),(I j 0),(.str ⟨#[]⟩),(.sl (.agg 6) .nil []),(I j 0),(.str ⟨#[]⟩),(I j 0),(I j 0),(.str ⟨#[]⟩),(.sl (.agg 6) .nil []),(I j 0)]))⟩,W 17 7 30]
abbrev aFx:LA:=[M 31 3,G 32 17 7,P 33 131 [s 31,s 32]]
abbrev aFw:LA:=[M 34 3,G 35 17 7,P 36 40 [s 35],P 37 86 [s 34,s 36]]
abbrev aFv:LA:=[lB 38 27,M 27 38]
abbrev aLU:aU:=(Q (O aLM) (Q (C (s 28) Z (X 4)) (Q (K 5 (Q (O aFy) (Q (O aFx) (C (s 33) (Q (O aFw) (X 3)) Z)))) (O aFv))))
abbrev aFu:LA:=[M 39 3,M 2 39]
abbrev aLT:aU:=(K 3 (Q (Q (O aLN) (K 4 (R aLU))) (Q (O aFu) .ret)))
def g30:LFn:=⟨(Q (O aLS) (Q (O aFz) (Q (Q (O aFt) (K 0 (R aLV))) (Q Z (K 2 (R aLT)))))),40,[.slot 2]⟩
theorem aQJ:aE Tryz.prog 81=some g30:=Zz
abbrev aBc:LA:=[lF 4 0]
abbrev aLK:LA:=[M 6 0,lP 7 6,lF 8 0]
abbrev aFr:LA:=[lA 9 8 7]
abbrev aLJ:LA:=[M 10 8,M 5 10]
abbrev aLI:LA:=[M 11 1,M 12 0,M 13 5,lE 14 12 13,E 15 14,A 16 (b .eql (s 11) (s 15))]
abbrev aLH:LA:=[M 17 5,M 4 17]
abbrev aLG:LA:=[lB 18 8,M 8 18]
abbrev aLL:aU:=(Q (O aFr) (Q (C (s 9) Z (X 0)) (Q (K 1 (Q (O aLJ) (Q (O aLI) (C (s 16) (Q (O aLH) .ret) Z)))) (O aLG))))
def g31:LFn:=⟨(Q (O aBc) (Q (Q (O aLK) (K 0 (R aLL))) (Q (O aDx) .ret))),19,[.slot 4]⟩
theorem aM1:aE Tryz.prog 82=some g31:=Zz
abbrev aLD:LA:=[M 14 12,M 5 14]
abbrev aLC:LA:=[M 15 4,M 16 5,⟨S 17,N,y F [s 16]⟩,⟨S 18,N,a F 8 (s 15) (s 17)⟩,M 4 18]
abbrev aLB:LA:=[lB 19 12,M 12 19]
abbrev aLF:aU:=(Q (O aFs) (Q (C (s 13) Z (X 0)) (Q (K 1 (Q (O aLD) (O aLC))) (O aLB))))
abbrev aLA:LA:=[M 20 3,G 21 6 1,M 22 4,P 23 84 [s 20,s 21,s 22],M 6 23]
abbrev aK9:LA:=[M 24 6,A 25 (b .lss (s 24) (B 0))]
abbrev aK8:LA:=[M 26 4,M 27 6,lE 28 26 27,E 29 28,M 7 29]
abbrev aFq:LA:=[M 30 4,M 31 6,M 32 6,lB 33 32,P 34 85 [s 30,s 31,s 33],M 4 34]
abbrev aFp:LA:=[M 35 3,H 36 4 1,E 37 36,M 38 7,lC 39 17 37 38,G 40 17 39,P 41 40 [s 40],P 42 86 [s 35,s 41]]
abbrev aFo:LA:=[M 43 0,M 44 7,G 45 6 1,M 46 3,P 47 80 [s 45,s 46,Bb],⟨S 48,N,.callv (s 43) [s 44,s 47]⟩,A 49 (.not (s 48))]
abbrev aLE:aU:=(K 3 (Q (O aLA) (Q (Q (O aK9) (C (s 25) .ret Z)) (Q (O aK8) (Q (O aFq) (Q (O aFp) (Q (O aFo) (C (s 49) .ret Z))))))))
def g32:LFn:=⟨(Q (O aFz) (Q (O aEX) (Q (Q (O aFt) (K 0 (R aLF))) (K 2 (R aLE))))),50,[]⟩
theorem aQI:aE Tryz.prog 83=some g32:=Zz
abbrev aK7:LA:=[⟨S 3,N,x F (s 0)⟩,Y 4 6 1,lF 6 0]
abbrev aK6:LA:=[M 8 2,A 9 (.mkfn (.func 133) [] [s 3,s 4]),P 10 132 [s 8,s 9],M 7 10]
abbrev aFn:LA:=[M 11 7,A 12 (b .geq (s 11) (B 0))]
abbrev aK5:LA:=[M 13 7,M 6 13]
abbrev aK4:LA:=[M 14 2,A 15 (.mkfn (.func 135) [] [s 4]),P 16 132 [s 14,s 15],M 6 16]
def g33:LFn:=⟨(Q (O aK7) (Q (Q (O aK6) (Q (O aFn) (C (s 12) (Q (O aK5) .ret) Z))) (Q (O aK4) .ret))),17,[.slot 6]⟩
theorem aQH:aE Tryz.prog 84=some g33:=Zz
abbrev aK2:LA:=[M 6 1,lP 7 6,lF 8 0]
abbrev aK1:LA:=[lE 10 6 8,E 11 10,M 5 11]
abbrev aK0:LA:=[M 12 0,M 13 5,A 14 (.mget F [.str] (I j 0) false (s 12) (s 13)),lB 15 14,⟨N,N,.mp (.put F [.str] (s 12) (s 13) (s 15))⟩]
abbrev aKz:LA:=[lB 16 8,M 8 16]
abbrev aK3:aU:=(Q (O aFr) (Q (C (s 9) Z (X 0)) (Q (K 1 (Q (O aK1) (O aK0))) (O aKz))))
def g34:LFn:=⟨(Q (O aK2) (K 0 (R aK3))),17,[]⟩
theorem aQG:aE Tryz.prog 86=some g34:=Zz
abbrev aKy:LA:=[A 3 (.mkfn (.func 138) [] [s 1]),M 2 3]
def g35:LFn:=⟨(Q (O aF6) (Q (O aKy) .ret)),4,[.slot 2]⟩
theorem aQF:aE Tryz.prog 89=some g35:=Zz
abbrev aKw:LA:=[M 3 0,A 4 (b .geq (s 3) (B (-2147483647))),M 5 4,lJ 6 5 0,T 7 5 (b .leq (s 6) (B 2147483647)),lI 8 5 7,M 2 8]
def g36:LFn:=⟨(Q (O aBt) (Q (O aKw) .ret)),9,[.slot 2]⟩
theorem aN6:aE Tryz.prog 97=some g36:=Zz
abbrev aKv:LA:=[A 3 (m (c (.fn (.func 147) [] [])))]
abbrev aKu:LA:=[M 4 0,⟨S 5,N,v (b .neq (s 4) (c (.str ⟨#[]⟩)))⟩,M 6 5,lJ 7 6 0,T 8 6 (.slen (s 7)),T 9 6 (b .leq (s 8) (B 32)),lI 10 6 9,M 11 10,lJ 12 11 0,T 13 11 (.sidx .none (s 12) (B 0)),⟨S 14,S (11,true),k 148 [s 13]⟩,lI 15 11 14,M 16 15,lJ 17 16 0,lJ 18 16 3,⟨S 19,S (16,true),k 149 [s 17,s 18]⟩,T 20 16 (.not (s 19)),lI 21 16 20,M 2 21]
def g37:LFn:=⟨(Q (O aBt) (Q (O aKv) (Q (O aKu) .ret))),22,[.slot 2]⟩
theorem aN5:aE Tryz.prog 98=some g37:=Zz
abbrev aJz:LA:=[M 7 0,P 8 155 [s 7],M 5 8]
abbrev aJy:LA:=[M 9 1,P 10 155 [s 9],M 6 10]
abbrev aJx:LA:=[M 11 5]
abbrev aJw:LA:=[M 12 6]
abbrev aJv:LA:=[M 13 6]
abbrev aD8:LA:=[lF 4 1]
abbrev aJu:LA:=[M 14 0,M 15 1,lA 16 14 15]
abbrev aE1:LA:=[M 17 0,M 18 1,A 19 (b .gtr (s 17) (s 18))]
def g38:LFn:=⟨(Q (O aBc) (Q (O aJz) (Q (O aJy) (Q (Q (O aJx) (C (s 11) (Q (Q (O aJw) (C (s 12) (Q (O aBc) .ret) Z)) (Q (O aDx) .ret)) Z)) (Q (Q (O aJv) (C (s 13) (Q (O aD8) .ret) Z)) (Q (Q (O aJu) (C (s 16) (Q (O aDx) .ret) Z)) (Q (Q (O aE1) (C (s 19) (Q (O aD8) .ret) Z)) (Q (O aBc) .ret)))))))),20,[.slot 4]⟩
theorem aQE:aE Tryz.prog 108=some g38:=Zz
abbrev aJs:LA:=[⟨S 2,N,x F (c (.sl (.agg 3) .nil []))⟩,⟨S 3,N,x F (B 0)⟩,⟨S 4,N,x F (c .nilIface)⟩]
abbrev aJr:LA:=[M 8 0,A 9 (.slen (s 8)),A 10 (b .gtr (s 9) (B 4000))]
abbrev aJq:LA:=[A 11 (.mkif 100 (B 3)),⟨N,N,t F (s 2) (c (.sl (.agg 3) .nil []))⟩,⟨N,N,t F (s 3) (B 4000)⟩,⟨N,N,t F (s 4) (s 11)⟩]
abbrev aJp:LA:=[⟨S 5,N,x F (c (.sl (.agg 3) .nil []))⟩]
abbrev aJo:LA:=[M 12 0,P 13 159 [s 12]]
abbrev aJn:LA:=[⟨S 6,N,x (.agg 3) (c (.agg [(I j 0),(.str ⟨#[]⟩),(I j 0)]))⟩,W 3 6 14]
abbrev aJm:LA:=[M 7 15]
abbrev aJl:LA:=[M 16 7,A 17 (e true (.iface true) (s 16) (c .nilIface))]
abbrev aB6:LD:=[(H 18 2 6,[]),(E 19 18,[0]),(M 20 7,[]),(⟨N,N,t F (s 2) (c (.sl (.agg 3) .nil []))⟩,[]),(⟨N,N,t F (s 3) (s 19)⟩,[0,1,3]),(⟨N,N,t F (s 4) (s 20)⟩,Z5)]
abbrev aCo:LA:=[]
abbrev aJk:LA:=[E 21 5,G 22 3 6,⟨S 23,N,y (.agg 3) [s 22]⟩,lS 24 3 32 21 23,⟨N,N,t F (s 5) (s 24)⟩]
abbrev aJt:aU:=(K 1 (Q (Q (O aJl) (C (s 17) (Q (D 7 aB6 aCo) .ret) Z)) (O aJk)))
abbrev aE0:LA:=[E 25 5,⟨N,N,t F (s 2) (s 25)⟩,⟨N,N,t F (s 3) (B 0)⟩,⟨N,N,t F (s 4) (c .nilIface)⟩]
def g39:LFn:=⟨(Q (O aJs) (Q (Q (O aJr) (C (s 10) (Q (O aJq) .ret) Z)) (Q (O aJp) (Q (Q (O aJo) (K 0 (.range (s 13) [14,15] (Q (O aJn) (O aJm)) aJt))) (Q (O aE0) .ret))))),26,[.cell 2 F,.cell 3 F,.cell 4 F]⟩
theorem aQD:aE Tryz.prog 115=some g39:=Zz
abbrev aJj:LA:=[M 6 0,lR 7 6,H 8 5 7,E 9 8,A 10 (b .eql (s 9) (B 0))]
abbrev aJi:LA:=[M 11 0,M 12 0,M 13 1,M 14 2,lR 15 11,H 16 4 15,⟨N,N,t F (s 16) (s 13)⟩,lR 17 12,H 18 5 17,⟨N,N,t F (s 18) (s 14)⟩]
abbrev aJh:LA:=[M 19 0,M 20 0,lR 21 20,H 22 0 21,E 23 22,lP 24 23,lR 25 19,H 26 1 25,⟨N,N,t F (s 26) (s 24)⟩]
def g40:LFn:=⟨(Q (O aJj) (C (s 10) (Q (O aJi) (O aJh)) Z)),27,[]⟩
theorem aQC:aE Tryz.prog 116=some g40:=Zz
abbrev aB7:LA:=[lF 2 0]
abbrev aJg:LA:=[M 3 0,P 4 160 [s 3,(B 0)],A 5 (.fld F 2 (s 4)),M 2 5]
def g41:LFn:=⟨(Q (O aB7) (Q (O aJg) .ret)),6,[.slot 2]⟩
theorem aQB:aE Tryz.prog 117=some g41:=Zz
abbrev aJf:LA:=[⟨S 2,N,x F (s 0)⟩,⟨S 3,N,x F (s 1)⟩]
abbrev aJe:LD:=[(E 4 3,[]),(E 5 2,[]),(P 6 161 [s 5,(B 2)],[1]),(lR 7 4,Z3),(H 8 0 7,Z4),(H 9 0 8,Z5)]
abbrev aEz:LA:=[⟨N,N,t F (s 9) (s 6)⟩]
abbrev aJd:LA:=[E 10 2,A 11 (.mkfn (.func 163) [] [s 2,s 3]),P 12 162 [s 10,(B 6),s 11]]
def g42:LFn:=⟨(Q (O aJf) (Q (D 6 aJe aEz) (O aJd))),13,[]⟩
theorem aQA:aE Tryz.prog 118=some g42:=Zz
abbrev aJc:LA:=[M 5 0,M 6 1,P 7 165 [s 5,s 6],A 8 (.not (s 7))]
abbrev aJb:LA:=[M 9 0,lR 10 9,H 11 1 10,E 12 11,lB 13 12,lR 14 9,H 15 1 14,⟨N,N,t F (s 15) (s 13)⟩]
def g43:LFn:=⟨(Q (O aBb) (Q (Q (O aJc) (C (s 8) (Q (O aBb) .ret) Z)) (Q (O aJb) (Q (O aFm) .ret)))),16,[.slot 4]⟩
theorem aP9:aE Tryz.prog 119=some g43:=Zz
abbrev aJa:LA:=[⟨S 2,N,x (.agg 17) (c (.agg [(I j 0),(.str ⟨#[]⟩),(.sl (.agg 4) .nil []),(I j 0),(I j 0),(.str ⟨#[]⟩),(I j 0),(I j 0),(.str ⟨#[]⟩),(.sl (.agg 6) .nil []),(I j 0),(.str ⟨#[]⟩),(I j 0),(I j 0),(.str ⟨#[]⟩),(.sl (.agg 6) .nil []),(I j 0)]))⟩]
abbrev aJZ:LA:=[M 5 0,P 6 117 [s 5],⟨S 7,N,v (.build [(I j 0),(.str ⟨#[]⟩),(.sl (.agg 4) .nil []),(I j 0),(I j 0),(.str ⟨#[]⟩),(I j 0),(I j 0),(.str ⟨#[]⟩),(.sl (.agg 6) .nil []),(I j 0),(.str ⟨#[]⟩),(I j 0),(I j 0),(.str ⟨#[]⟩),(.sl (.agg 6) .nil []),(I j 0)] [(0,F,(B 1)),(16,F,(s 6))])⟩,⟨S 3,N,x (.agg 17) (c (.agg [(I j 0),(.str ⟨#[]⟩),(.sl (.agg 4) .nil []),(I j 0),(I j 0),(.str ⟨#[]⟩),(I j 0),(I j 0),(.str ⟨#[]⟩),(.sl (.agg 6) .nil []),(I j 0),(.str ⟨#[]⟩),(I j 0),(I j 0),(.str ⟨#[]⟩),(.sl (.agg 6) .nil []),(I j 0)]))⟩,W 17 3 7]
abbrev aJY:LA:=[M 8 0,P 9 160 [s 8,(B 1)],⟨S 4,N,x (.agg 3) (c (.agg [(I j 0),(.str ⟨#[]⟩),(I j 0)]))⟩,W 3 4 9]
abbrev aJX:LA:=[M 13 0,⟨S 14,N,k 119 [s 13,(c (.str ⟨#[110,111,116]⟩))]⟩,M 12 14]
abbrev aJW:LA:=[H 15 0 3,⟨N,N,t F (s 15) (B 2)⟩]
abbrev aJV:LA:=[M 16 0,P 17 166 [s 16],H 18 1 3,W 2 18 17]
abbrev aJU:LA:=[M 20 0,P 21 160 [s 20,(B 0)],A 22 (.fld F 0 (s 21)),A 23 (b .eql (s 22) (B 2)),M 24 23,lL 25 24 0 4,lK 26 24 25,T 27 24 (b .eql (s 26) (B 5)),lI 28 24 27,M 29 28,lL 30 29 1 4,lK 31 29 30,⟨S 32,S (29,true),v (b .eql (s 31) (c (.str ⟨#[40]⟩)))⟩,lI 33 29 32,M 19 33]
abbrev aJT:LA:=[M 34 0,P 35 166 [s 34],H 36 1 3,W 2 36 35]
abbrev aJS:LA:=[M 10 0,P 11 167 [s 10,s 3]]
abbrev aJR:LA:=[G 37 17 3,W 17 2 37]
def g44:LFn:=⟨(Q (O aJa) (Q (O aJZ) (Q (O aJY) (Q (K 0 (Q (O aJX) (C (s 12) (Q (O aJW) (O aJV)) (Q (O aJU) (C (s 19) (O aJT) (O aJS)))))) (Q (O aJR) .ret))))),38,[.cell 2 (.agg 17)]⟩
theorem aP8:aE Tryz.prog 120=some g44:=Zz
abbrev aJQ:LA:=[M 4 0,M 5 1,P 6 165 [s 4,s 5],A 7 (.not (s 6))]
abbrev aJP:LA:=[M 8 0,M 9 0,P 10 117 [s 9],P 11 116 [s 8,s 10,(B 2)]]
abbrev aJO:LA:=[M 12 0,lR 13 12,H 14 1 13,E 15 14,lB 16 15,lR 17 12,H 18 1 17,⟨N,N,t F (s 18) (s 16)⟩]
def g45:LFn:=⟨(Q (Q (O aJQ) (C (s 7) (Q (O aJP) .ret) Z)) (O aJO)),19,[]⟩
theorem aP7:aE Tryz.prog 121=some g45:=Zz
abbrev aD7:LA:=[M 7 0,P 8 115 [s 7],M 6 8,lQ 9 6 0,lQ 10 6 1,lQ 11 6 2,M 3 9,M 4 10,M 5 11]
abbrev aJN:LA:=[M 12 5,A 13 (e false (.iface true) (s 12) (c .nilIface)),M 14 13,lJ 15 14 3,T 16 14 (w (s 15)),T 17 14 (b .eql (s 16) (B 1)),lI 18 14 17,M 19 18,lJ 20 19 3,T 21 19 (i (.agg 3) (s 20) (B 0)),T 22 19 (l (.agg 3) (s 21)),lJ 23 19 0,⟨S 24,S (19,true),v (.build [(I j 0),(.str ⟨#[]⟩),(I j 0)] [(0,F,(B 2)),(1,F,(s 23))])⟩,T 25 19 (e false (.plain (.agg 3) [.int,.str,.int]) (s 22) (s 24)),lI 26 19 25,M 2 26]
def g46:LFn:=⟨(Q (O aBt) (Q (O aD7) (Q (O aJN) .ret))),27,[.slot 2]⟩
theorem aP6:aE Tryz.prog 122=some g46:=Zz
abbrev aJM:LA:=[M 5 0,A 6 (.mkfn (.func 169) [] [s 3]),P 7 168 [s 5,s 6],A 8 (.not (s 7)),M 4 8]
def g47:LFn:=⟨(Q (O aF0) (Q (O aJM) .ret)),9,[.slot 4]⟩
theorem aP5:aE Tryz.prog 123=some g47:=Zz
abbrev aJL:LA:=[Y 1 4 0,lG 2]
abbrev aJK:LA:=[H 3 0 1,E 4 3,⟨S 5,N,v (b .eql (s 4) (c (.str ⟨#[]⟩)))⟩]
abbrev aJJ:LA:=[H 6 1 1,G 7 3 6,P 8 54 [s 7],M 2 8]
abbrev aJI:LA:=[H 9 0 1,E 10 9,P 11 170 [s 10],M 12 11,lL 13 12 1 1,T 14 12 (l (.agg 3) (s 13)),⟨S 15,S (12,true),v (.build [(I j 0),(I j 0),(.str ⟨#[]⟩)] [])⟩,T 16 12 (e false (.plain (.agg 3) [.int,.int,.str]) (s 14) (s 15)),lI 17 12 16,M 2 17]
def g48:LFn:=⟨(Q (O aJL) (Q (Q (O aJK) (C (s 5) (Q (O aJJ) .ret) Z)) (Q (O aJI) .ret))),18,[.slot 2]⟩
theorem aN4:aE Tryz.prog 124=some g48:=Zz
abbrev aJH:LA:=[Y 2 17 0,lG 3]
abbrev aJG:LA:=[E 4 1,G 5 17 2,⟨S 6,N,.callv (s 4) [s 5]⟩,A 7 (.not (s 6)),M 3 7]
def g49:LFn:=⟨(Q (O aJH) (Q (O aJG) .ret)),8,[.slot 3]⟩
theorem aP4:aE Tryz.prog 126=some g49:=Zz
abbrev aJF:LA:=[H 3 0 1,E 4 3,A 5 (b .eql (s 4) (B 0)),M 6 5,lL 7 6 1 1,T 8 6 (l (.agg 4) (s 7)),⟨S 9,S (6,true),v (.build [(.str ⟨#[]⟩),(I j 0),(I j 0),(.str ⟨#[]⟩)] [])⟩,T 10 6 (e false (.plain (.agg 4) [.str,.int,.int,.str]) (s 8) (s 9)),lI 11 6 10,M 12 11,lL 13 12 5 1,lK 14 12 13,T 15 12 (w (s 14)),T 16 12 (b .eql (s 15) (B 0)),lI 17 12 16,M 2 17]
def g50:LFn:=⟨(Q (O aJ0) (Q (O aJF) .ret)),18,[.slot 2]⟩
theorem aPz:aE Tryz.prog 127=some g50:=Zz
abbrev aJE:LA:=[G 3 6 1,P 4 172 [s 3,(B 20)],A 5 (b .geq (s 4) (B 0)),M 2 5]
def g51:LFn:=⟨(Q (O aJ0) (Q (O aJE) .ret)),6,[.slot 2]⟩
theorem aN3:aE Tryz.prog 128=some g51:=Zz
abbrev aJC:LA:=[M 8 0,M 9 1,P 10 173 [s 8,s 9],M 5 10]
abbrev aJB:LA:=[M 11 5,A 12 (b .eql (s 11) (B (-1)))]
abbrev aJA:LA:=[M 13 0,M 4 13]
abbrev aI9:LA:=[M 14 5,lB 15 14,M 6 15]
abbrev aI8:LA:=[M 16 6,M 17 0,lP 18 17,lA 19 16 18]
abbrev aI7:LA:=[M 22 0,M 23 6,lE 24 22 23,E 25 24,M 7 25]
abbrev aI6:LA:=[M 26 1,M 27 7,⟨S 28,N,.callv (s 26) [s 27]⟩,A 29 (.not (s 28))]
abbrev aI5:LA:=[M 30 0,M 31 5,M 32 7,lE 33 30 31,⟨N,N,t F (s 33) (s 32)⟩]
abbrev aI4:LA:=[M 34 5,lB 35 34,M 5 35]
abbrev aEy:LA:=[M 20 6,lB 21 20,M 6 21]
abbrev aJD:aU:=(Q (Q (O aI8) (C (s 19) Z (X 0))) (Q (K 1 (Q (O aI7) (Q (O aI6) (C (s 29) (Q (O aI5) (O aI4)) Z)))) (O aEy)))
abbrev aEx:LA:=[M 36 0,M 37 5,A 38 (.slc F (s 36) (.some (s 37)) .none .none),⟨N,N,.clear F (s 38) (.str ⟨#[]⟩)⟩]
abbrev aEw:LA:=[M 39 0,M 40 5,A 41 (.slc F (s 39) .none (.some (s 40)) .none),M 4 41]
def g52:LFn:=⟨(Q (O aEX) (Q (O aJC) (Q (Q (O aJB) (C (s 12) (Q (O aJA) .ret) Z)) (Q (Q (O aI9) (K 0 (R aJD))) (Q (O aEx) (Q (O aEw) .ret)))))),42,[.slot 4]⟩
theorem aN2:aE Tryz.prog 129=some g52:=Zz
abbrev aI3:LA:=[E 5 1,M 6 0,A 7 (.mget F [.str] (I j 0) false (s 5) (s 6)),A 8 (b .gtr (s 7) (B 0)),E 9 2,A 10 (e true (.plain F [.bool]) (s 8) (s 9)),M 4 10]
def g53:LFn:=⟨(Q (O aBb) (Q (O aI3) .ret)),11,[.slot 4]⟩
theorem aPy:aE Tryz.prog 130=some g53:=Zz
abbrev aD6:LA:=[Y 3 17 1,lG 4]
abbrev aI2:LA:=[H 7 0 3,E 8 7,A 9 (b .neq (s 8) (B 3)),M 10 9,lO 11 10 3 3,lN 12 10 11,U 13 10 (b .neq (s 12) (B 1)),lH 14 10 13]
abbrev aI1:LD:=[(H 15 4 3,[]),(G 16 6 15,[0]),(P 17 174 [s 16],[0,1]),(H 18 10 3,[]),(G 19 6 18,[3]),(P 20 174 [s 19],Z5),(M 5 17,Z6),(M 6 20,Z7)]
abbrev aI0:LA:=[M 21 5,⟨S 22,N,v (b .neq (s 21) (c (.str ⟨#[]⟩)))⟩,M 23 22,lJ 24 23 0,lJ 25 23 5,T 26 23 (.mget F [.str] (I j 0) false (s 24) (s 25)),T 27 23 (b .eql (s 26) (B 0)),lI 28 23 27,M 29 28,lJ 30 29 0,lL 31 29 10 3,T 32 29 (l (.agg 6) (s 31)),⟨S 33,S (29,true),k 176 [s 32]⟩,⟨S 34,S (29,true),k 175 [s 30,s 33]⟩,lI 35 29 34,M 36 35,lM 37 36 6,⟨S 38,S (36,false),v (b .neq (s 37) (c (.str ⟨#[]⟩)))⟩,lM 39 36 38,lJ 40 39 0,lJ 41 39 6,T 42 39 (.mget F [.str] (I j 0) false (s 40) (s 41)),T 43 39 (b .eql (s 42) (B 0)),U 44 36 (p (s 39) (s 43) Ba),lM 45 36 44,lJ 46 45 0,lL 47 45 4 3,T 48 45 (l (.agg 6) (s 47)),⟨S 49,S (45,true),k 176 [s 48]⟩,⟨S 50,S (45,true),k 175 [s 46,s 49]⟩,U 51 36 (p (s 45) (s 50) Ba),lH 52 36 51,M 4 52]
def g54:LFn:=⟨(Q (O aD6) (Q (Q (O aI2) (C (s 14) (Q (O aBb) .ret) Z)) (Q (D 8 aI1 aAX) (Q (O aI0) .ret)))),53,[.slot 4]⟩
theorem aPx:aE Tryz.prog 131=some g54:=Zz
abbrev aIz:LD:=[(E 5 1,[]),(H 6 4 2,[]),(E 7 6,[1]),(M 8 0,[]),(lC 9 17 7 8,[1,2,3]),(G 10 17 9,[1,2,3,4]),(P 11 134 [s 5,s 10],Z6),(M 4 11,Z7)]
def g55:LFn:=⟨(Q (O aBb) (Q (D 8 aIz aAX) .ret)),12,[.slot 4]⟩
theorem aPw:aE Tryz.prog 133=some g55:=Zz
abbrev aIy:LA:=[H 5 0 3,E 6 5,A 7 (b .neq (s 6) (B 1)),M 8 7,lJ 9 8 0,T 10 8 (l (.agg 17) (s 3)),⟨S 11,S (8,true),k 40 [s 10]⟩,⟨S 12,S (8,true),k 175 [s 9,s 11]⟩,lI 13 8 12,M 14 13,lM 15 14 0,U 16 14 (l (.agg 17) (s 3)),⟨S 17,S (14,false),k 131 [s 15,s 16]⟩,lH 18 14 17,M 4 18]
def g56:LFn:=⟨(Q (O aD6) (Q (O aIy) .ret)),19,[.slot 4]⟩
theorem aPv:aE Tryz.prog 134=some g56:=Zz
abbrev aD5:LA:=[lG 3]
abbrev aIx:LA:=[H 4 4 1,E 5 4,M 6 0,lC 7 17 5 6,H 8 0 7,E 9 8,A 10 (b .eql (s 9) (B 1)),M 3 10]
def g57:LFn:=⟨(Q (O aD5) (Q (O aIx) .ret)),11,[.slot 3]⟩
theorem aPu:aE Tryz.prog 135=some g57:=Zz
abbrev aIw:LA:=[G 3 6 1,M 4 0,P 5 139 [s 3,s 4]]
def g58:LFn:=⟨(O aIw),6,[]⟩
theorem aPt:aE Tryz.prog 138=some g58:=Zz
abbrev aIu:LA:=[Y 2 6 0,lG 4]
abbrev aIt:LA:=[H 7 5 2,E 8 7,lP 9 8,A 10 (b .eql (s 9) (B 0))]
abbrev aIs:LA:=[M 11 1,H 12 1 2,G 13 4 12,⟨S 14,N,.callv (s 11) [s 13]⟩,M 4 14]
abbrev aIr:LA:=[H 15 5 2,E 16 15,lP 17 16,lF 18 0]
abbrev aIq:LA:=[lA 19 18 17]
abbrev aIp:LA:=[lC 20 6 16 18,G 21 6 20,⟨S 6,N,x (.agg 6) (c (.agg [(I j 0),(.str ⟨#[]⟩),(I j 0),(I j 0),(.str ⟨#[]⟩),(.sl (.agg 6) .nil [])]))⟩,W 6 6 21]
abbrev aIo:LA:=[G 22 6 6,M 23 1,P 24 139 [s 22,s 23],A 25 (.not (s 24))]
abbrev aIn:LA:=[lB 26 18,M 18 26]
abbrev aIv:aU:=(Q (O aIq) (Q (C (s 19) Z (X 0)) (Q (K 1 (Q (O aIp) (Q (O aIo) (C (s 25) (Q (O aBb) .ret) Z)))) (O aIn))))
def g59:LFn:=⟨(Q (O aIu) (Q (Q (O aIt) (C (s 10) (Q (O aIs) .ret) Z)) (Q (Q (O aIr) (K 0 (R aIv))) (Q (O aFm) .ret)))),27,[.slot 4]⟩
theorem aPs:aE Tryz.prog 139=some g59:=Zz
abbrev aIm:LA:=[M 3 0,A 4 (b .geq (s 3) (c (.int .i32 97))),M 5 4,lJ 6 5 0,T 7 5 (b .leq (s 6) (c (.int .i32 122))),lI 8 5 7,M 9 8,lM 10 9 0,U 11 9 (b .geq (s 10) (c (.int .i32 48))),lM 12 9 11,lJ 13 12 0,T 14 12 (b .leq (s 13) (c (.int .i32 57))),U 15 9 (p (s 12) (s 14) Ba),lH 16 9 15,M 17 16,lM 18 17 0,U 19 17 (b .eql (s 18) (c (.int .i32 95))),lH 20 17 19,A 21 (.not (s 20)),M 2 21]
def g60:LFn:=⟨(Q (O aBt) (Q (O aIm) .ret)),22,[.slot 2]⟩
theorem aN1:aE Tryz.prog 147=some g60:=Zz
abbrev aD4:LA:=[M 3 0,A 4 (b .geq (s 3) (c (.int .u8 97))),M 5 4,lJ 6 5 0,T 7 5 (b .leq (s 6) (c (.int .u8 122))),lI 8 5 7,M 2 8]
def g61:LFn:=⟨(Q (O aBt) (Q (O aD4) .ret)),9,[.slot 2]⟩
theorem aN0:aE Tryz.prog 148=some g61:=Zz
abbrev aIl:LA:=[M 5 0,M 6 1,P 7 182 [s 5,s 6],A 8 (b .geq (s 7) (B 0)),M 4 8]
def g62:LFn:=⟨(Q (O aBb) (Q (O aIl) .ret)),9,[.slot 4]⟩
theorem aPi:aE Tryz.prog 149=some g62:=Zz
abbrev aIk:LA:=[M 3 0,M 4 0,A 5 (b .neq (s 3) (s 4)),M 2 5]
def g63:LFn:=⟨(Q (O aBt) (Q (O aIk) .ret)),6,[.slot 2]⟩
theorem aPh:aE Tryz.prog 155=some g63:=Zz
abbrev aIj:LA:=[⟨S 1,N,x F (s 0)⟩,A 2 (m (c .aAU))]
abbrev aIi:LA:=[A 3 (.mkfn (.func 185) [] [s 1]),M 2 3]
def g64:LFn:=⟨(Q (O aIj) (Q (O aIi) .ret)),4,[.slot 2]⟩
theorem aPg:aE Tryz.prog 159=some g64:=Zz
abbrev aIh:LA:=[⟨S 4,N,x (.agg 3) (c (.agg [(I j 0),(.str ⟨#[]⟩),(I j 0)]))⟩]
abbrev aIg:LD:=[(M 5 0,[]),(lR 6 5,[0]),(H 7 1 6,[0,1]),(E 8 7,Z3),(M 9 1,[]),(A 10 (b .add (s 8) (s 9)),Z5),(M 11 0,[]),(lR 12 11,[6]),(H 13 0 12,[6,7]),(E 14 13,[6,7,8]),(lP 15 14,[6,7,8,9]),(A 16 (b .geq (s 10) (s 15)),Z11)]
abbrev aIf:LA:=[M 17 0,lR 18 17,H 19 2 18,E 20 19,⟨S 21,N,v (.build [(I j 0),(.str ⟨#[]⟩),(I j 0)] [(2,F,(s 20))])⟩,W 3 4 21]
abbrev aIe:LD:=[(M 22 0,[]),(lR 23 22,[0]),(H 24 0 23,[0,1]),(E 25 24,Z3),(M 26 0,[]),(lR 27 26,[4]),(H 28 1 27,[4,5]),(E 29 28,[4,5,6]),(M 30 1,[]),(A 31 (b .add (s 29) (s 30)),[4,5,6,7,8]),(lC 32 3 25 31,Z10),(G 33 3 32,Z11)]
abbrev aEv:LA:=[W 3 4 33]
def g65:LFn:=⟨(Q (O aIh) (Q (Q (D 12 aIg aAX) (C (s 16) (Q (O aIf) .ret) Z)) (Q (D 12 aIe aEv) .ret))),34,[.cell 4 (.agg 3)]⟩
theorem aPf:aE Tryz.prog 160=some g65:=Zz
abbrev aD3:LA:=[⟨S 4,N,v (m (c (.str ⟨#[]⟩)))⟩]
abbrev aD2:LA:=[M 6 0,P 7 160 [s 6,(B 0)],⟨S 5,N,x (.agg 3) (c (.agg [(I j 0),(.str ⟨#[]⟩),(I j 0)]))⟩,W 3 5 7]
abbrev aId:LA:=[H 8 0 5,E 9 8,M 10 1,A 11 (b .neq (s 9) (s 10))]
abbrev aIc:LA:=[M 12 0,H 13 2 5,E 14 13,P 15 116 [s 12,s 14,(B 2)]]
abbrev aIb:LA:=[M 16 0,lR 17 16,H 18 1 17,E 19 18,lB 20 19,lR 21 16,H 22 1 21,⟨N,N,t F (s 22) (s 20)⟩]
abbrev aIa:LA:=[H 23 1 5,E 24 23,M 4 24]
def g66:LFn:=⟨(Q (O aD3) (Q (O aD2) (Q (Q (O aId) (C (s 11) (Q (O aIc) (Q (O aD3) .ret)) Z)) (Q (O aIb) (Q (O aIa) .ret))))),25,[.slot 4]⟩
theorem aPe:aE Tryz.prog 161=some g66:=Zz
abbrev aIY:LA:=[M 7 0,⟨S 8,N,k 121 [s 7,(c (.str ⟨#[40]⟩))]⟩]
abbrev aIX:LA:=[M 9 0,⟨S 10,N,k 119 [s 9,(c (.str ⟨#[41]⟩))]⟩]
abbrev aIW:LA:=[lF 6 0]
abbrev aIV:LA:=[M 11 0,lR 12 11,H 13 5 12,E 14 13,A 15 (b .eql (s 14) (B 0))]
abbrev aIU:LA:=[M 18 6,M 19 1,A 20 (b .geq (s 18) (s 19))]
abbrev aIT:LA:=[M 21 0,M 22 0,P 23 117 [s 22],P 24 116 [s 21,s 23,(B 3)]]
abbrev aIS:LA:=[M 25 2,M 26 6,⟨S 27,N,.callv (s 25) [s 26]⟩]
abbrev aIR:LA:=[M 28 0,⟨S 29,N,k 119 [s 28,(c (.str ⟨#[44]⟩))]⟩,A 30 (.not (s 29))]
abbrev aIQ:LA:=[M 16 6,lB 17 16,M 6 17]
abbrev aIZ:aU:=(Q (Q (O aIV) (C (s 15) Z (X 0))) (Q (K 1 (Q (Q (O aIU) (C (s 20) (Q (O aIT) (X 0)) Z)) (Q (O aIS) (Q (O aIR) (C (s 30) (X 0) Z))))) (O aIQ)))
abbrev aD1:LA:=[M 31 0,⟨S 32,N,k 121 [s 31,(c (.str ⟨#[41]⟩))]⟩]
def g67:LFn:=⟨(Q (O aIY) (Q (Q (O aIX) (C (s 10) .ret Z)) (Q Z (Q (Q (O aIW) (K 0 (R aIZ))) (O aD1))))),33,[]⟩
theorem aPd:aE Tryz.prog 162=some g67:=Zz
abbrev aIP:LA:=[E 6 1,P 7 160 [s 6,(B 0)],⟨S 4,N,x (.agg 3) (c (.agg [(I j 0),(.str ⟨#[]⟩),(I j 0)]))⟩,W 3 4 7]
abbrev aIO:LD:=[(⟨S 8,N,v (.pslc 4 F (c (.ept (.agg 4) [(.agg [(.str ⟨#[99,111,117,110,116]⟩),(.str ⟨#[115,117,109]⟩),(.str ⟨#[109,105,110]⟩),(.str ⟨#[109,97,120]⟩)])] 0 0)) .none)⟩,[]),(H 9 1 4,[]),(E 10 9,[1]),(P 11 82 [s 8,s 10],Z3),(M 5 11,Z4)]
abbrev aIN:LA:=[H 12 0 4,E 13 12,A 14 (b .neq (s 13) (B 1)),M 15 14,lM 16 15 5,U 17 15 (b .lss (s 16) (B 0)),lH 18 15 17]
abbrev aIM:LD:=[(E 19 2,[]),(E 20 2,[]),(lR 21 20,[1]),(H 22 0 21,[1,2]),(H 23 1 22,[1,2,3]),(E 24 23,[1,2,3,4]),(E 25 1,[]),(P 26 164 [s 25],[6]),(⟨S 27,N,y (.agg 4) [s 26]⟩,[6,7]),(lS 28 4 48 24 27,[1,2,3,4,5,6,7,8]),(lR 29 19,Z10),(H 30 0 29,Z11),(H 31 1 30,Z12)]
abbrev aEt:LA:=[⟨N,N,t F (s 31) (s 28)⟩]
abbrev aIL:LA:=[E 32 2,lR 33 32,H 34 2 33,E 35 34,A 36 (b .gtr (s 35) (B 0))]
abbrev aIK:LA:=[E 37 1,H 38 2 4,E 39 38,P 40 116 [s 37,s 39,(B 2)]]
abbrev aIJ:LD:=[(E 41 2,[]),(E 42 2,[]),(M 43 5,[]),(lB 44 43,[2]),(M 45 0,[]),(lR 46 41,[0,2,3]),(H 47 2 46,[0,2,3,5]),(⟨N,N,t F (s 47) (s 44)⟩,[0,2,3,5,6]),(lR 48 42,Z8),(H 49 3 48,Z9),(⟨N,N,t F (s 49) (s 45)⟩,Z10)]
abbrev aII:LA:=[E 50 1,H 51 1 4,E 52 51,P 53 121 [s 50,s 52]]
abbrev aIH:LA:=[E 54 1,⟨S 55,N,k 121 [s 54,(c (.str ⟨#[40]⟩))]⟩]
abbrev aIG:LD:=[(E 56 2,[]),(E 57 2,[]),(lR 58 57,[1]),(H 59 0 58,[1,2]),(H 60 1 59,[1,2,3]),(E 61 60,[1,2,3,4]),(E 62 1,[]),(P 63 161 [s 62,(B 3)],[6]),(⟨S 64,N,v (.build [(.str ⟨#[]⟩),(I j 0),(I j 0),(.str ⟨#[]⟩)] [(0,F,(s 63))])⟩,[6,7]),(⟨S 65,N,y (.agg 4) [s 64]⟩,[6,7,8]),(lS 66 4 48 61 65,[1,2,3,4,5,6,7,8,9]),(lR 67 56,Z11),(H 68 0 67,Z12),(H 69 1 68,Z13)]
abbrev aEs:LA:=[⟨N,N,t F (s 69) (s 66)⟩]
abbrev aEu:LA:=[E 70 1,⟨S 71,N,k 121 [s 70,(c (.str ⟨#[41]⟩))]⟩]
def g68:LFn:=⟨(Q (O aIP) (Q (D 5 aIO aAX) (Q (Q (O aIN) (C (s 18) (Q (D 13 aIM aEt) .ret) Z)) (Q (Q (O aIL) (C (s 36) (O aIK) Z)) (Q (D 12 aIJ aAX) (Q (O aII) (Q (O aIH) (Q (D 14 aIG aEs) (O aEu))))))))),72,[]⟩
theorem aPc:aE Tryz.prog 163=some g68:=Zz
abbrev aIF:LA:=[⟨S 2,N,x (.agg 4) (c (.agg [(.str ⟨#[]⟩),(I j 0),(I j 0),(.str ⟨#[]⟩)]))⟩]
abbrev aIE:LA:=[lF 3 1]
abbrev aID:LA:=[M 7 0,⟨S 8,N,k 165 [s 7,(c (.str ⟨#[45]⟩))]⟩]
abbrev aIC:LA:=[M 9 0,⟨S 10,N,k 121 [s 9,(c (.str ⟨#[45]⟩))]⟩]
abbrev aIB:LA:=[A 3 (m (B (-1)))]
abbrev aIA:LA:=[M 11 0,P 12 160 [s 11,(B 0)],⟨S 4,N,x (.agg 3) (c (.agg [(I j 0),(.str ⟨#[]⟩),(I j 0)]))⟩,W 3 4 12]
abbrev aH9:LA:=[H 14 0 4,E 15 14,A 16 (b .eql (s 15) (B 4)),M 13 16]
abbrev aH8:LA:=[M 18 0,P 19 161 [s 18,(B 4)],P 20 188 [s 19],M 17 20,lQ 21 17 0,lQ 22 17 1,M 5 21,M 6 22]
abbrev aH7:LA:=[M 23 6,A 24 (e true (.iface true) (s 23) (c .nilIface))]
abbrev aH6:LA:=[M 25 0,H 26 2 4,E 27 26,P 28 116 [s 25,s 27,(B 2)]]
abbrev aEr:LA:=[M 29 3,M 30 5,A 31 (b .mul (s 29) (s 30)),⟨S 32,N,v (.build [(I j 0),(I j 0),(.str ⟨#[]⟩)] [(0,F,(B 1)),(1,F,(s 31))])⟩,⟨S 33,N,v (.build [(.str ⟨#[]⟩),(I j 0),(I j 0),(.str ⟨#[]⟩)] [(1,(.agg 3),(s 32))])⟩,W 4 2 33]
abbrev aEq:LA:=[M 35 3,A 36 (b .lss (s 35) (B 0)),M 34 36]
abbrev aEp:LA:=[H 38 0 4,E 39 38,A 40 (b .eql (s 39) (B 3)),M 37 40]
abbrev aEo:LA:=[M 41 0,P 42 161 [s 41,(B 3)],⟨S 43,N,v (.build [(.str ⟨#[]⟩),(I j 0),(I j 0),(.str ⟨#[]⟩)] [(0,F,(s 42))])⟩,W 4 2 43]
abbrev aEn:LA:=[H 45 0 4,E 46 45,A 47 (b .eql (s 46) (B 2)),M 44 47]
abbrev aEm:LA:=[M 48 0,P 49 161 [s 48,(B 2)],⟨S 50,N,v (.build [(I j 0),(I j 0),(.str ⟨#[]⟩)] [(0,F,(B 2)),(2,F,(s 49))])⟩,⟨S 51,N,v (.build [(.str ⟨#[]⟩),(I j 0),(I j 0),(.str ⟨#[]⟩)] [(1,(.agg 3),(s 50))])⟩,W 4 2 51]
abbrev aEl:LA:=[M 52 0,H 53 2 4,E 54 53,P 55 116 [s 52,s 54,(B 2)]]
abbrev aEk:LA:=[⟨S 56,N,v (.build [(.str ⟨#[]⟩),(I j 0),(I j 0),(.str ⟨#[]⟩)] [])⟩,W 4 2 56]
def g69:LFn:=⟨(Q (O aIF) (Q (O aIE) (Q (Q (O aID) (C (s 8) (Q (O aIC) (O aIB)) Z)) (Q (O aIA) (Q (K 0 (Q (O aH9) (C (s 13) (Q (O aH8) (Q (Q (O aH7) (C (s 24) (O aH6) Z)) (Q (O aEr) .ret))) (Q (O aEq) (C (s 34) Z (Q (O aEp) (C (s 37) (Q (O aEo) .ret) (Q (O aEn) (C (s 44) (Q (O aEm) .ret) Z))))))))) (Q (O aEl) (Q (O aEk) .ret))))))),57,[.cell 2 (.agg 4)]⟩
theorem aPb:aE Tryz.prog 164=some g69:=Zz
abbrev aH5:LA:=[H 8 0 5,E 9 8,A 10 (b .eql (s 9) (B 1)),M 11 10,lO 12 11 0 5,lN 13 11 12,U 14 11 (b .eql (s 13) (B 5)),lH 15 11 14,M 16 15,lL 17 16 1 5,lK 18 16 17,lJ 19 16 1,T 20 16 (b .eql (s 18) (s 19)),lI 21 16 20,M 4 21]
def g70:LFn:=⟨(Q (O aBb) (Q (O aD2) (Q (O aH5) .ret))),22,[.slot 4]⟩
theorem aPP:aE Tryz.prog 165=some g70:=Zz
abbrev aH4:LA:=[⟨S 1,N,x F (s 0)⟩,⟨S 2,N,x (.agg 2) (c (.agg [(.str ⟨#[]⟩),(.sl (.agg 4) .nil [])]))⟩]
abbrev aH3:LA:=[E 4 1,P 5 161 [s 4,(B 2)],⟨S 6,N,v (.build [(.str ⟨#[]⟩),(.sl (.agg 4) .nil [])] [(0,F,(s 5))])⟩,⟨S 3,N,x (.agg 2) (c (.agg [(.str ⟨#[]⟩),(.sl (.agg 4) .nil [])]))⟩,W 2 3 6]
abbrev aH2:LA:=[E 7 1,A 8 (.mkfn (.func 189) [] [s 3,s 1]),P 9 162 [s 7,(B 6),s 8]]
abbrev aH1:LA:=[G 10 2 3,W 2 2 10]
def g71:LFn:=⟨(Q (O aH4) (Q (O aH3) (Q (O aH2) (Q (O aH1) .ret)))),11,[.cell 2 (.agg 2)]⟩
theorem aPO:aE Tryz.prog 166=some g71:=Zz
abbrev aH0:LA:=[M 5 1,lR 6 5,H 7 0 6,⟨N,N,t F (s 7) (B 3)⟩]
abbrev aHz:LA:=[M 8 1,M 9 0,P 10 190 [s 9],lR 11 8,H 12 4 11,W 6 12 10]
abbrev aHy:LA:=[M 13 0,P 14 160 [s 13,(B 0)],⟨S 4,N,x (.agg 3) (c (.agg [(I j 0),(.str ⟨#[]⟩),(I j 0)]))⟩,W 3 4 14]
abbrev aHx:LD:=[(M 15 1,[]),(⟨S 16,N,v (.pslc 6 F (c (.ept (.agg 6) [(.agg [(.str ⟨#[61]⟩),(.str ⟨#[33,61]⟩),(.str ⟨#[60]⟩),(.str ⟨#[60,61]⟩),(.str ⟨#[62]⟩),(.str ⟨#[62,61]⟩)])] 0 0)) .none)⟩,[]),(H 17 1 4,[]),(E 18 17,[2]),(P 19 82 [s 16,s 18],[1,2,3]),(lB 20 19,[1,2,3,4]),(lR 21 15,Z6),(H 22 3 21,Z7)]
abbrev aEj:LA:=[⟨N,N,t F (s 22) (s 20)⟩]
abbrev aHw:LA:=[H 23 0 4,E 24 23,A 25 (b .neq (s 24) (B 5)),M 26 25,lM 27 26 1,U 28 26 (n (s 27)),lO 29 26 3 28,lN 30 26 29,U 31 26 (b .eql (s 30) (B 0)),lH 32 26 31]
abbrev aHv:LA:=[M 33 0,H 34 2 4,E 35 34,P 36 116 [s 33,s 35,(B 2)]]
abbrev aHu:LA:=[M 37 0,H 38 1 4,E 39 38,P 40 121 [s 37,s 39]]
abbrev aHt:LA:=[M 41 1,M 42 0,P 43 190 [s 42],lR 44 41,H 45 10 44,W 6 45 43]
abbrev aHs:LA:=[M 46 0,lR 47 46,H 48 5 47,E 49 48,A 50 (b .eql (s 49) (B 0)),M 51 50,lJ 52 51 1,T 53 51 (n (s 52)),lL 54 51 4 53,T 55 51 (l (.agg 6) (s 54)),⟨S 56,S (51,true),k 128 [s 55]⟩,lJ 57 51 56,lJ 58 57 1,T 59 57 (n (s 58)),lL 60 57 10 59,T 61 57 (l (.agg 6) (s 60)),⟨S 62,S (57,true),k 128 [s 61]⟩,T 63 51 (p (s 57) (s 62) Ba),T 64 51 (.not (s 63)),lI 65 51 64]
abbrev aHr:LA:=[M 66 0,M 67 1,lR 68 67,H 69 16 68,E 70 69,P 71 116 [s 66,s 70,(B 4)]]
def g72:LFn:=⟨(Q (O aH0) (Q (O aHz) (Q (O aHy) (Q (D 8 aHx aEj) (Q (Q (O aHw) (C (s 32) (Q (O aHv) .ret) Z)) (Q (O aHu) (Q (O aHt) (Q (O aHs) (C (s 65) (O aHr) Z))))))))),72,[]⟩
theorem aPN:aE Tryz.prog 167=some g72:=Zz
abbrev aHq:LA:=[Y 2 4 0,lG 3]
abbrev aHp:LA:=[E 4 1,G 5 4 2,⟨S 6,N,.callv (s 4) [s 5]⟩,A 7 (.not (s 6)),M 3 7]
def g73:LFn:=⟨(Q (O aHq) (Q (O aHp) .ret)),8,[.slot 3]⟩
theorem aPM:aE Tryz.prog 169=some g73:=Zz
abbrev aHo:LA:=[M 12 5,A 13 (e false (.iface true) (s 12) (c .nilIface)),M 14 13,lJ 15 14 3,T 16 14 (w (s 15)),T 17 14 (b .eql (s 16) (B 1)),lI 18 14 17,M 19 18,lJ 20 19 3,T 21 19 (i (.agg 3) (s 20) (B 0)),T 22 19 (l (.agg 3) (s 21)),lJ 23 19 0,⟨S 24,S (19,true),v (.build [(I j 0),(.str ⟨#[]⟩),(I j 0)] [(0,F,(B 3)),(1,F,(s 23))])⟩,T 25 19 (e false (.plain (.agg 3) [.int,.str,.int]) (s 22) (s 24)),lI 26 19 25,M 2 26]
def g74:LFn:=⟨(Q (O aBt) (Q (O aD7) (Q (O aHo) .ret))),27,[.slot 2]⟩
theorem aNy:aE Tryz.prog 170=some g74:=Zz
abbrev aHn:LA:=[H 7 0 2,E 8 7,A 9 (b .eql (s 8) (B 0)),M 10 9,lL 11 10 5 2,lK 12 10 11,T 13 10 (w (s 12)),T 14 10 (b .eql (s 13) (B 0)),lI 15 10 14,M 16 15,lL 17 16 1 2,T 18 16 (l (.agg 4) (s 17)),⟨S 19,S (16,true),k 124 [s 18]⟩,lI 20 16 19]
abbrev aHm:LA:=[H 21 0 2,E 22 21,A 23 (b .lss (s 22) (B 1)),M 24 23,lO 25 24 0 2,lN 26 24 25,U 27 24 (b .gtr (s 26) (B 3)),lH 28 24 27,M 29 28,lO 30 29 5 2,lN 31 29 30,U 32 29 (w (s 31)),U 33 29 (b .neq (s 32) (B 2)),lH 34 29 33,M 35 34,lO 36 35 1 2,U 37 35 (l (.agg 4) (s 36)),⟨S 38,S (35,false),v (.build [(.str ⟨#[]⟩),(I j 0),(I j 0),(.str ⟨#[]⟩)] [])⟩,U 39 35 (e true (.plain (.agg 4) [.str,.int,.int,.str]) (s 37) (s 38)),lH 40 35 39,M 41 40,lM 42 41 1,U 43 41 (b .eql (s 42) (B 0)),lH 44 41 43]
abbrev aHl:LD:=[(H 45 5 2,[]),(E 46 45,[0]),(A 47 (i (.agg 6) (s 46) (B 0)),[0,1]),(G 48 6 47,Z3),(M 49 1,[]),(A 50 (b .sub (s 49) (B 1)),[4]),(P 51 172 [s 48,s 50],Z6),(H 52 5 2,[]),(E 53 52,[7]),(A 54 (i (.agg 6) (s 53) (B 1)),[7,8]),(G 55 6 54,[7,8,9]),(M 56 1,[]),(A 57 (b .sub (s 56) (B 1)),[11]),(P 58 172 [s 55,s 57],Z13),(M 5 51,Z14),(M 6 58,Z15)]
abbrev aHk:LA:=[M 59 5,A 60 (b .lss (s 59) (B 0)),M 61 60,lM 62 61 6,U 63 61 (b .lss (s 62) (B 0)),lH 64 61 63]
abbrev aHj:LA:=[M 65 5,M 66 6,A 67 (.mnx true (s 65) (s 66)),A 68 (b .add (B 1) (s 67)),M 4 68]
def g75:LFn:=⟨(Q (O aMM) (Q (Q (O aHn) (C (s 20) (Q (O aBc) .ret) Z)) (Q (Q (O aHm) (C (s 44) (Q (O aDx) .ret) Z)) (Q (D 16 aHl aAX) (Q (Q (O aHk) (C (s 64) (Q (O aDx) .ret) Z)) (Q (O aHj) .ret)))))),69,[.slot 4]⟩
theorem aLd:aE Tryz.prog 172=some g75:=Zz
abbrev aHi:LA:=[Y 1 6 0,⟨S 2,N,v (m (c (.str ⟨#[]⟩)))⟩]
abbrev aHh:LA:=[H 3 0 1,E 4 3,A 5 (b .neq (s 4) (B 0)),M 6 5,lO 7 6 5 1,lN 8 6 7,U 9 6 (w (s 8)),U 10 6 (b .gtr (s 9) (B 0)),lH 11 6 10]
abbrev aD0:LA:=[⟨S 2,N,v (m (c (.str ⟨#[]⟩)))⟩]
abbrev aHg:LA:=[H 12 1 1,H 13 0 12,E 14 13,M 2 14]
def g76:LFn:=⟨(Q (O aHi) (Q (Q (O aHh) (C (s 11) (Q (O aD0) .ret) Z)) (Q (O aHg) .ret))),15,[.slot 2]⟩
theorem aPL:aE Tryz.prog 174=some g76:=Zz
abbrev aHf:LA:=[⟨S 2,N,x F (s 0)⟩,lG 4]
abbrev aHe:LA:=[M 5 1,A 6 (.mkfn (.func 193) [] [s 2]),P 7 192 [s 5,s 6],A 8 (.not (s 7)),M 4 8]
def g77:LFn:=⟨(Q (O aHf) (Q (O aHe) .ret)),9,[.slot 4]⟩
theorem aPK:aE Tryz.prog 175=some g77:=Zz
abbrev aHd:LA:=[G 3 6 1,P 4 89 [s 3],P 5 88 [s 4],P 6 44 [(c (.sl F .nil [])),s 5],M 2 6]
def g78:LFn:=⟨(Q (O aKH) (Q (O aHd) .ret)),7,[.slot 2]⟩
theorem aPJ:aE Tryz.prog 176=some g78:=Zz
abbrev aHc:LA:=[M 5 0,M 6 1,P 7 197 [s 5,s 6,Bb],M 4 7]
def g79:LFn:=⟨(Q (O aBc) (Q (O aHc) .ret)),8,[.slot 4]⟩
theorem aPI:aE Tryz.prog 182=some g79:=Zz
abbrev aHb:LA:=[E 5 1,P 6 186 [s 5,(B 0)],M 3 6]
abbrev aHa:LA:=[M 7 3,E 8 1,A 9 (.slen (s 8)),lA 10 7 9]
abbrev aHZ:LA:=[E 11 1,M 12 3,A 13 (.slcs (s 11) (.some (s 12)) .none),P 14 187 [s 13],⟨S 4,N,x (.agg 3) (c (.agg [(I j 0),(.str ⟨#[]⟩),(I j 0)]))⟩,W 3 4 14]
abbrev aHY:LA:=[M 15 3,H 16 2 4,⟨N,N,t F (s 16) (s 15)⟩]
abbrev aDv:LA:=[H 17 0 4,E 18 17,A 19 (b .eql (s 18) (B 0))]
abbrev aHX:LA:=[M 20 0,M 21 3,⟨S 22,N,v (.build [(I j 0),(.str ⟨#[]⟩),(I j 0)] [(2,F,(s 21))])⟩,A 23 (.mkif 100 (B 2)),⟨S 24,N,.callv (s 20) [s 22,s 23]⟩]
abbrev aHW:LA:=[M 25 0,G 26 3 4,⟨S 27,N,.callv (s 25) [s 26,(c .nilIface)]⟩,A 28 (.not (s 27))]
abbrev aHV:LA:=[E 29 1,M 30 3,H 31 1 4,E 32 31,A 33 (.slen (s 32)),A 34 (b .add (s 30) (s 33)),P 35 186 [s 29,s 34],M 3 35]
abbrev aDw:aU:=(Q (Q (O aHa) (C (s 10) Z (X 0))) (K 1 (Q (O aHZ) (Q (O aHY) (Q (Q (O aDv) (C (s 19) (Q (O aHX) .ret) Z)) (Q (Q (O aHW) (C (s 28) .ret Z)) (O aHV)))))))
def g80:LFn:=⟨(Q (O aHb) (K 0 (R aDw))),36,[]⟩
theorem aPB:aE Tryz.prog 185=some g80:=Zz
abbrev aHT:LA:=[M 9 1,M 10 0,A 11 (.slen (s 10)),lA 12 9 11]
abbrev aHS:LA:=[M 13 0,M 14 1,A 15 (.sidx .none (s 13) (s 14)),M 5 15]
abbrev aHR:LA:=[M 18 5,⟨S 19,N,k 198 [(c (.str ⟨#[9,10,13,32]⟩)),s 18]⟩,A 20 (b .geq (s 19) (B 0)),M 17 20]
abbrev aHQ:LA:=[M 21 1,lB 22 21,M 1 22]
abbrev aHP:LA:=[M 24 5,A 25 (b .eql (s 24) (c (.int .u8 37))),M 23 25]
abbrev aHO:LA:=[M 27 0,M 28 1,A 29 (.slcs (s 27) (.some (s 28)) .none),⟨S 30,N,k 199 [s 29,(c (.str ⟨#[10]⟩))]⟩,M 26 30,lQ 31 26 0,lQ 32 26 1,lQ 33 26 2,M 6 31,M 7 32,M 8 33]
abbrev aHN:LA:=[M 34 1,M 35 6,A 36 (.slen (s 35)),A 37 (b .add (s 34) (s 36)),M 1 37]
abbrev aHM:LA:=[M 16 1,M 4 16]
abbrev aHU:aU:=(Q (Q (O aHT) (C (s 12) Z (X 0))) (K 1 (Q (O aHS) (K 2 (Q (O aHR) (C (s 17) (O aHQ) (Q (O aHP) (C (s 23) (Q (O aHO) (O aHN)) (Q (O aHM) .ret)))))))))
abbrev aHL:LA:=[M 38 1,M 4 38]
def g81:LFn:=⟨(Q (O aBc) (Q (K 0 (R aHU)) (Q (O aHL) .ret))),39,[.slot 4]⟩
theorem aPA:aE Tryz.prog 186=some g81:=Zz
abbrev aHJ:LA:=[⟨S 2,N,x (.agg 3) (c (.agg [(I j 0),(.str ⟨#[]⟩),(I j 0)]))⟩]
abbrev aHI:LA:=[M 6 0,P 7 200 [s 6],M 3 7]
abbrev aHH:LA:=[M 8 3,A 9 (b .gtr (s 8) (B 0)),M 10 9,lJ 11 10 0,T 12 10 (.sidx .none (s 11) (B 0)),T 13 10 (b .neq (s 12) (c (.int .u8 95))),lI 14 10 13]
abbrev aHG:LD:=[(M 15 0,[]),(M 16 3,[]),(A 17 (.slcs (s 15) .none (.some (s 16))),[0,1]),(P 18 201 [s 17],Z3),(M 19 0,[]),(M 20 3,[]),(A 21 (.slcs (s 19) .none (.some (s 20))),[4,5]),(⟨S 22,N,v (.build [(I j 0),(.str ⟨#[]⟩),(I j 0)] [(0,F,(s 18)),(1,F,(s 21))])⟩,Z7)]
abbrev aEh:LA:=[W 3 2 22]
abbrev aHF:LA:=[⟨S 23,N,v (l (.agg 14) (c (.ept (.agg 14) [(.agg [(.str ⟨#[58,45]⟩),(.str ⟨#[33,61]⟩),(.str ⟨#[60,61]⟩),(.str ⟨#[62,61]⟩),(.str ⟨#[40]⟩),(.str ⟨#[41]⟩),(.str ⟨#[44]⟩),(.str ⟨#[46]⟩),(.str ⟨#[61]⟩),(.str ⟨#[60]⟩),(.str ⟨#[62]⟩),(.str ⟨#[43]⟩),(.str ⟨#[45]⟩),(.str ⟨#[42]⟩)])] 0 0)))⟩,lF 24 0]
abbrev aHE:LA:=[A 25 (b .lss (s 24) (B 14))]
abbrev aHD:LA:=[A 26 (.sidx (.some 14) (s 23) (s 24)),M 5 26]
abbrev aHC:LA:=[M 27 0,M 28 5,P 29 202 [s 27,s 28]]
abbrev aHB:LA:=[M 30 5,⟨S 31,N,v (.build [(I j 0),(.str ⟨#[]⟩),(I j 0)] [(0,F,(B 5)),(1,F,(s 30))])⟩,W 3 2 31]
abbrev aHA:LA:=[lB 32 24,M 24 32]
abbrev aHK:aU:=(Q (O aHE) (Q (C (s 25) Z (X 0)) (Q (K 1 (Q (O aHD) (Q (O aHC) (C (s 29) (Q (O aHB) .ret) Z)))) (O aHA))))
abbrev aEi:LA:=[⟨S 33,N,v (.build [(I j 0),(.str ⟨#[]⟩),(I j 0)] [])⟩,W 3 2 33]
def g82:LFn:=⟨(Q (O aHJ) (Q (Q (O aHI) (Q (O aHH) (C (s 14) (Q (D 8 aHG aEh) .ret) Z))) (Q (Q (O aHF) (K 0 (R aHK))) (Q (O aEi) .ret)))),34,[.cell 2 (.agg 3)]⟩
theorem aO9:aE Tryz.prog 187=some g82:=Zz
abbrev aG9:LA:=[lF 2 0,A 3 (m (c .nilIface))]
abbrev aG8:LA:=[M 7 0,P 8 203 [s 7],M 6 8,lQ 9 6 0,lQ 10 6 1,M 4 9,M 5 10]
abbrev aG7:LA:=[M 11 5,A 12 (e true (.iface true) (s 11) (c .nilIface))]
abbrev aG6:LA:=[M 13 4,M 14 0,M 15 5,⟨S 16,N,k 204 [(c (.str ⟨#[65,116,111,105]⟩)),s 14,(B 0),(B 0),s 15]⟩,M 2 13,M 3 16]
abbrev aG5:LA:=[M 17 4,M 2 17,A 3 (m (c .nilIface))]
def g83:LFn:=⟨(Q (O aG9) (Q (O aG8) (Q (Q (O aG7) (C (s 12) (Q (O aG6) .ret) Z)) (Q (O aG5) .ret)))),18,[.slot 2,.slot 3]⟩
theorem aKG:aE Tryz.prog 188=some g83:=Zz
abbrev aG4:LD:=[(H 4 1 1,[]),(E 5 4,[0]),(E 6 2,[]),(P 7 164 [s 6],[2]),(⟨S 8,N,y (.agg 4) [s 7]⟩,[2,3]),(lS 9 4 48 5 8,Z5),(H 10 1 1,Z6)]
abbrev aEg:LA:=[⟨N,N,t F (s 10) (s 9)⟩]
def g84:LFn:=⟨(D 7 aG4 aEg),11,[]⟩
theorem aO8:aE Tryz.prog 189=some g84:=Zz
abbrev aCp:LA:=[⟨S 2,N,x (.agg 6) (c (.agg [(I j 0),(.str ⟨#[]⟩),(I j 0),(I j 0),(.str ⟨#[]⟩),(.sl (.agg 6) .nil [])]))⟩]
abbrev aG2:LA:=[M 4 0,P 5 205 [s 4],⟨S 3,N,x (.agg 6) (c (.agg [(I j 0),(.str ⟨#[]⟩),(I j 0),(I j 0),(.str ⟨#[]⟩),(.sl (.agg 6) .nil [])]))⟩,W 6 3 5]
abbrev aG1:LA:=[M 8 0,⟨S 9,N,k 119 [s 8,(c (.str ⟨#[43]⟩))]⟩,M 7 9]
abbrev aG0:LD:=[(G 10 6 3,[]),(M 11 0,[]),(P 12 205 [s 11],[1]),(⟨S 13,N,y (.agg 6) [s 10,s 12]⟩,Z3),(⟨S 14,N,v (.build [(I j 0),(.str ⟨#[]⟩),(I j 0),(I j 0),(.str ⟨#[]⟩),(.sl (.agg 6) .nil [])] [(0,F,(B 1)),(5,F,(s 13))])⟩,Z4)]
abbrev aEf:LA:=[W 6 3 14]
abbrev aGz:LA:=[M 16 0,⟨S 17,N,k 119 [s 16,(c (.str ⟨#[45]⟩))]⟩,M 15 17]
abbrev aGy:LD:=[(G 18 6 3,[]),(M 19 0,[]),(P 20 205 [s 19],[1]),(⟨S 21,N,y (.agg 6) [s 18,s 20]⟩,Z3),(⟨S 22,N,v (.build [(I j 0),(.str ⟨#[]⟩),(I j 0),(I j 0),(.str ⟨#[]⟩),(.sl (.agg 6) .nil [])] [(0,F,(B 2)),(5,F,(s 21))])⟩,Z4)]
abbrev aEe:LA:=[W 6 3 22]
abbrev aGx:LA:=[G 6 6 3,W 6 2 6]
abbrev aG3:aU:=(K 1 (K 2 (Q (O aG1) (C (s 7) (D 5 aG0 aEf) (Q (O aGz) (C (s 15) (D 5 aGy aEe) (Q (O aGx) .ret)))))))
def g85:LFn:=⟨(Q (O aCp) (Q (O aG2) (K 0 (R aG3)))),23,[.cell 2 (.agg 6)]⟩
theorem aO7:aE Tryz.prog 190=some g85:=Zz
abbrev aGw:LA:=[E 4 1,M 5 0,A 6 (.mget F [.str] (I j 0) false (s 4) (s 5)),A 7 (b .eql (s 6) (B 0)),M 3 7]
def g86:LFn:=⟨(Q (O aD5) (Q (O aGw) .ret)),8,[.slot 3]⟩
theorem aO6:aE Tryz.prog 193=some g86:=Zz
abbrev aGv:LA:=[M 5 0,M 6 1,P 7 207 [s 5,s 6],M 4 7]
def g87:LFn:=⟨(Q (O aBc) (Q (O aGv) .ret)),8,[.slot 4]⟩
theorem aO5:aE Tryz.prog 198=some g87:=Zz
abbrev aDz:LA:=[⟨S 4,N,v (m (c (.str ⟨#[]⟩)))⟩,⟨S 5,N,v (m (c (.str ⟨#[]⟩)))⟩,lG 6]
abbrev aGu:LA:=[M 7 0,M 8 1,P 9 208 [s 7,s 8],lQ 10 9 0,lQ 11 9 1,lQ 12 9 2,M 4 10,M 5 11,M 6 12]
def g88:LFn:=⟨(Q (O aDz) (Q (O aGu) .ret)),13,[.slot 4,.slot 5,.slot 6]⟩
theorem aO4:aE Tryz.prog 199=some g88:=Zz
abbrev aGs:LA:=[lF 3 0]
abbrev aGr:LA:=[M 4 3,M 5 0,A 6 (.slen (s 5)),lA 7 4 6,M 8 7,lJ 9 8 0,lJ 10 8 3,T 11 8 (.sidx .none (s 9) (s 10)),⟨S 12,S (8,true),k 209 [s 11]⟩,lJ 13 8 12,lM 14 13 0,lM 15 13 3,U 16 13 (.sidx .none (s 14) (s 15)),⟨S 17,S (13,false),k 210 [s 16]⟩,T 18 8 (p (s 13) Bb (s 17)),lJ 19 8 18,lM 20 19 0,lM 21 19 3,U 22 19 (.sidx .none (s 20) (s 21)),⟨S 23,S (19,false),k 211 [s 22]⟩,T 24 8 (p (s 19) Bb (s 23)),lJ 25 8 24,lM 26 25 0,lM 27 25 3,U 28 25 (.sidx .none (s 26) (s 27)),U 29 25 (b .eql (s 28) (c (.int .u8 95))),T 30 8 (p (s 25) Bb (s 29)),lI 31 8 30]
abbrev aGq:LA:=[M 32 3,lB 33 32,M 3 33]
abbrev aGt:aU:=(Q (Q (O aGr) (C (s 31) Z (X 0))) (K 1 (O aGq)))
abbrev aGp:LA:=[M 34 3,M 2 34]
def g89:LFn:=⟨(Q (O aB7) (Q (O aGs) (Q (K 0 (R aGt)) (Q (O aGp) .ret)))),35,[.slot 2]⟩
theorem aO3:aE Tryz.prog 200=some g89:=Zz
abbrev aGo:LA:=[⟨S 6,N,v (.pslc 8 F (c (.ept (.agg 8) [(.agg [(.str ⟨#[114,101,108]⟩),(.str ⟨#[105,110,116]⟩),(.str ⟨#[115,121,109]⟩),(.str ⟨#[110,111,116]⟩),(.str ⟨#[99,111,117,110,116]⟩),(.str ⟨#[115,117,109]⟩),(.str ⟨#[109,105,110]⟩),(.str ⟨#[109,97,120]⟩)])] 0 0)) .none)⟩,M 7 0,P 8 41 [s 6,s 7],M 5 8]
abbrev aGn:LA:=[M 10 0,P 11 98 [s 10],M 9 11]
abbrev aGm:LA:=[M 13 0,A 14 (.sidx .none (s 13) (B 0)),P 15 210 [s 14],M 16 15,lJ 17 16 0,T 18 16 (.slen (s 17)),T 19 16 (b .leq (s 18) (B 32)),lI 20 16 19,M 12 20]
abbrev aGl:LA:=[M 22 0,P 23 188 [s 22],M 21 23,lQ 24 21 0,lQ 25 21 1,M 3 24,M 4 25]
abbrev aGk:LA:=[M 26 4,A 27 (e false (.iface true) (s 26) (c .nilIface)),M 28 27,lJ 29 28 3,T 30 28 (b .leq (s 29) (B 2147483647)),lI 31 28 30,M 32 31,lJ 33 32 3,⟨S 34,S (32,true),k 212 [s 33]⟩,lJ 35 32 0,T 36 32 (b .eql (s 34) (s 35)),lI 37 32 36]
abbrev aGj:LA:=[lF 2 4]
def g90:LFn:=⟨(Q (O aB7) (Q (K 0 (Q (O aGo) (C (s 5) (Q (O aF9) .ret) (Q (O aGn) (C (s 9) (Q (O aF8) .ret) (Q (O aGm) (C (s 12) (Q (O aF7) .ret) Z))))))) (Q (Q (O aGl) (Q (O aGk) (C (s 37) (Q (O aGj) .ret) Z))) (Q (O aB7) .ret)))),38,[.slot 2]⟩
theorem aEW:aE Tryz.prog 201=some g90:=Zz
abbrev aGi:LA:=[M 5 0,M 6 1,P 7 213 [s 5,s 6],M 4 7]
def g91:LFn:=⟨(Q (O aBb) (Q (O aGi) .ret)),8,[.slot 4]⟩
theorem aO1:aE Tryz.prog 202=some g91:=Zz
abbrev aGh:LA:=[A 10 (m (c .nilIface))]
abbrev aGg:LA:=[M 11 4]
abbrev aGf:LA:=[A 13 (.mkif 290 (B 2)),A 14 (e false (.iface false) (s 11) (s 13)),M 12 14]
abbrev aGe:LA:=[M 15 0,M 16 1,P 17 215 [s 15,s 16],A 18 (.mkif 294 (s 17)),M 10 18]
abbrev aGd:LA:=[A 20 (.mkif 290 (B 1)),A 21 (e false (.iface false) (s 11) (s 20)),M 19 21]
abbrev aGc:LA:=[M 22 0,M 23 1,P 24 216 [s 22,s 23],A 25 (.mkif 294 (s 24)),M 10 25]
abbrev aGb:LA:=[A 27 (.mkif 290 (B 3)),A 28 (e false (.iface false) (s 11) (s 27)),M 26 28]
abbrev aGa:LA:=[M 29 0,M 30 1,M 31 2,P 32 217 [s 29,s 30,s 31],A 33 (.mkif 294 (s 32)),M 10 33]
abbrev aGZ:LA:=[A 35 (.mkif 290 (B 4)),A 36 (e false (.iface false) (s 11) (s 35)),M 34 36]
abbrev aGY:LA:=[M 37 0,M 38 1,M 39 3,P 40 218 [s 37,s 38,s 39],A 41 (.mkif 294 (s 40)),M 10 41]
abbrev aEd:LA:=[M 42 4,M 10 42]
def g92:LFn:=⟨(Q (O aGh) (Q (Q (O aGg) (K 0 (Q (O aGf) (C (s 12) (Q (O aGe) .ret) (Q (O aGd) (C (s 19) (Q (O aGc) .ret) (Q (O aGb) (C (s 26) (Q (O aGa) .ret) (Q (O aGZ) (C (s 34) (Q (O aGY) .ret) Z)))))))))) (Q (O aEd) .ret))),43,[.slot 10]⟩
theorem aO0:aE Tryz.prog 204=some g92:=Zz
abbrev aGW:LA:=[M 4 0,P 5 219 [s 4],⟨S 3,N,x (.agg 6) (c (.agg [(I j 0),(.str ⟨#[]⟩),(I j 0),(I j 0),(.str ⟨#[]⟩),(.sl (.agg 6) .nil [])]))⟩,W 6 3 5]
abbrev aGV:LA:=[M 6 0,⟨S 7,N,k 119 [s 6,(c (.str ⟨#[42]⟩))]⟩]
abbrev aGU:LD:=[(G 8 6 3,[]),(M 9 0,[]),(P 10 219 [s 9],[1]),(⟨S 11,N,y (.agg 6) [s 8,s 10]⟩,Z3),(⟨S 12,N,v (.build [(I j 0),(.str ⟨#[]⟩),(I j 0),(I j 0),(.str ⟨#[]⟩),(.sl (.agg 6) .nil [])] [(0,F,(B 3)),(5,F,(s 11))])⟩,Z4)]
abbrev aEc:LA:=[W 6 3 12]
abbrev aGX:aU:=(Q (Q (O aGV) (C (s 7) Z (X 0))) (K 1 (D 5 aGU aEc)))
abbrev aGT:LA:=[G 13 6 3,W 6 2 13]
def g93:LFn:=⟨(Q (O aCp) (Q (O aGW) (Q (K 0 (R aGX)) (Q (O aGT) .ret)))),14,[.cell 2 (.agg 6)]⟩
theorem aOz:aE Tryz.prog 205=some g93:=Zz
abbrev aGS:LA:=[M 8 0,M 9 1,P 10 222 [s 8,s 9],M 7 10]
abbrev aGR:LD:=[(M 13 0,[]),(M 14 7,[]),(A 15 (.slcs (s 13) .none (.some (s 14))),[0,1]),(M 16 0,[]),(M 17 7,[]),(M 18 1,[]),(A 19 (.slen (s 18)),[5]),(A 20 (b .add (s 17) (s 19)),[4,5,6]),(A 21 (.slcs (s 16) (.some (s 20)) .none),[3,4,5,6,7]),(M 4 15,Z3),(M 5 21,Z10),(A 6 (m Bb),Z11)]
abbrev aGQ:LA:=[M 22 0,M 4 22,⟨S 5,N,v (m (c (.str ⟨#[]⟩)))⟩,lG 6]
def g94:LFn:=⟨(Q (O aDz) (Q (Q (O aGS) (Q (O aFn) (C (s 12) (Q (D 12 aGR aAX) .ret) Z))) (Q (O aGQ) .ret))),23,[.slot 4,.slot 5,.slot 6]⟩
theorem aNs:aE Tryz.prog 208=some g94:=Zz
def g95:LFn:=⟨(Q (O aBt) (Q (O aD4) .ret)),9,[.slot 2]⟩
theorem aOy:aE Tryz.prog 209=some g95:=Zz
abbrev aGP:LA:=[M 3 0,A 4 (b .geq (s 3) (c (.int .u8 65))),M 5 4,lJ 6 5 0,T 7 5 (b .leq (s 6) (c (.int .u8 90))),lI 8 5 7,M 2 8]
def g96:LFn:=⟨(Q (O aBt) (Q (O aGP) .ret)),9,[.slot 2]⟩
theorem aOx:aE Tryz.prog 210=some g96:=Zz
abbrev aGO:LA:=[M 3 0,A 4 (b .geq (s 3) (c (.int .u8 48))),M 5 4,lJ 6 5 0,T 7 5 (b .leq (s 6) (c (.int .u8 57))),lI 8 5 7,M 2 8]
def g97:LFn:=⟨(Q (O aBt) (Q (O aGO) .ret)),9,[.slot 2]⟩
theorem aOw:aE Tryz.prog 211=some g97:=Zz
abbrev aGN:LA:=[M 3 0,P 4 223 [s 3],M 2 4]
def g98:LFn:=⟨(Q (O aD0) (Q (O aGN) .ret)),5,[.slot 2]⟩
theorem aOv:aE Tryz.prog 212=some g98:=Zz
abbrev aGM:LA:=[M 5 0,A 6 (.slen (s 5)),M 7 1,A 8 (.slen (s 7)),A 9 (b .geq (s 6) (s 8)),M 10 9,lJ 11 10 0,lJ 12 10 1,T 13 10 (.slen (s 12)),T 14 10 (.slcs (s 11) .none (.some (s 13))),lJ 15 10 1,T 16 10 (b .eql (s 14) (s 15)),lI 17 10 16,M 4 17]
def g99:LFn:=⟨(Q (O aBb) (Q (O aGM) .ret)),18,[.slot 4]⟩
theorem aOu:aE Tryz.prog 213=some g99:=Zz
abbrev aDy:LA:=[A 6 (m (c .nilPtr))]
abbrev aGL:LA:=[M 7 0,M 8 1,P 9 225 [s 8],M 10 2,P 11 212 [s 10],⟨S 12,N,v (b .add (c (.str ⟨#[105,110,118,97,108,105,100,32,98,97,115,101,32]⟩)) (s 11))⟩,P 13 226 [s 12],⟨S 14,N,v (.build [(.str ⟨#[]⟩),(.str ⟨#[]⟩),.nilIface] [(0,F,(s 7)),(1,F,(s 9)),(2,F,(s 13))])⟩,Y 15 3 14,M 6 15]
def aOC:LFn:=⟨(Q (O aDy) (Q (O aGL) .ret)),16,[.slot 6]⟩
theorem aNM:aE Tryz.prog 217=some aOC:=Zz
abbrev aGK:LA:=[M 7 0,M 8 1,P 9 225 [s 8],M 10 2,P 11 212 [s 10],⟨S 12,N,v (b .add (c (.str ⟨#[105,110,118,97,108,105,100,32,98,105,116,32,115,105,122,101,32]⟩)) (s 11))⟩,P 13 226 [s 12],⟨S 14,N,v (.build [(.str ⟨#[]⟩),(.str ⟨#[]⟩),.nilIface] [(0,F,(s 7)),(1,F,(s 9)),(2,F,(s 13))])⟩,Y 15 3 14,M 6 15]
def aOB:LFn:=⟨(Q (O aDy) (Q (O aGK) .ret)),16,[.slot 6]⟩
theorem aNL:aE Tryz.prog 218=some aOB:=Zz
abbrev aGJ:LA:=[M 4 0,⟨S 5,N,k 165 [s 4,(c (.str ⟨#[40]⟩))]⟩,A 6 (.not (s 5))]
abbrev aGI:LA:=[M 7 0,P 8 164 [s 7],⟨S 9,N,v (.build [(I j 0),(.str ⟨#[]⟩),(I j 0),(I j 0),(.str ⟨#[]⟩),(.sl (.agg 6) .nil [])] [(1,(.agg 4),(s 8))])⟩,W 6 2 9]
abbrev aGH:LA:=[M 10 0,lR 11 10,H 12 3 11,E 13 12,A 14 (b .geq (s 13) (B 20))]
abbrev aGG:LA:=[M 15 0,M 16 0,P 17 117 [s 16],P 18 116 [s 15,s 17,(B 4)]]
abbrev aGF:LA:=[⟨S 19,N,v (.build [(I j 0),(.str ⟨#[]⟩),(I j 0),(I j 0),(.str ⟨#[]⟩),(.sl (.agg 6) .nil [])] [])⟩,W 6 2 19]
abbrev aGE:LA:=[M 20 0,lR 21 20,H 22 3 21,E 23 22,lB 24 23,lR 25 20,H 26 3 25,⟨N,N,t F (s 26) (s 24)⟩]
abbrev aGD:LA:=[M 27 0,⟨S 28,N,k 121 [s 27,(c (.str ⟨#[40]⟩))]⟩]
abbrev aGC:LA:=[M 29 0,P 30 190 [s 29],⟨S 3,N,x (.agg 6) (c (.agg [(I j 0),(.str ⟨#[]⟩),(I j 0),(I j 0),(.str ⟨#[]⟩),(.sl (.agg 6) .nil [])]))⟩,W 6 3 30]
abbrev aEb:LA:=[M 33 0,lR 34 33,H 35 3 34,E 36 35,A 37 (b .sub (s 36) (B 1)),lR 38 33,H 39 3 38,⟨N,N,t F (s 39) (s 37)⟩]
abbrev aEa:LA:=[G 40 6 3,W 6 2 40]
def aOA:LFn:=⟨(Q (O aCp) (Q (Q (O aGJ) (C (s 6) (Q (O aGI) .ret) Z)) (Q (Q (O aGH) (C (s 14) (Q (O aGG) (Q (O aGF) .ret)) Z)) (Q (O aGE) (Q (O aGD) (Q (O aGC) (Q (O aD1) (Q (O aEb) (Q (O aEa) .ret))))))))),41,[.cell 2 (.agg 6)]⟩
theorem aNK:aE Tryz.prog 219=some aOA:=Zz
abbrev aGB:LA:=[A 2 (m (c .nilIface))]
abbrev aGA:LA:=[M 3 0,⟨S 4,N,v (.build [(.str ⟨#[]⟩)] [(0,F,(s 3))])⟩,Y 5 1 4,A 6 (.mkif 311 (s 5)),M 2 6]
def aN9:LFn:=⟨(Q (O aGB) (Q (O aGA) .ret)),7,[.slot 2]⟩
theorem aNJ:aE Tryz.prog 226=some aN9:=Zz
end L
end Go.Proofs.YtgbiopfghdilnaaGreatDoor
