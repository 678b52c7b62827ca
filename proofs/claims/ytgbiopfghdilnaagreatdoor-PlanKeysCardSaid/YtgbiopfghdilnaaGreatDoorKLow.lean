/-
The functions of the code,lowered:printed by a program,checked by the kernel. No conditions.
-/
import Derived.Test.YtgbiopfghdilnaaGreatDoorKcb
import Derived.Test.YtgbiopfghdilnaaGreatDoorProg
namespace Go.Proofs.YtgbiopfghdilnaaGreatDoor
open Go.RowKit
open aI renaming slot→s,const→c
open aR renaming move→m,load→l,fldA→f,bin→b,eq→e,idxA→i,pick→p,ext→q,nilCheck→n,len→w
open LOp renaming val→v,call→k,box→x,bslice→y,append→a,store→t
open aU renaming seq→Q,ops→O,cond→C,block→K,loop→R,skip→Z,exit→X,draw→D
open Sh renaming leaf→F
open V renaming int→I
open Go.IntKind renaming i64→j
open Option renaming some→S,none→N
namespace L
abbrev A(n:Nat)(x:aR):aA:=⟨S n,N,v x⟩
abbrev M(n i:Nat):=A n (m (s i))
abbrev E(n i:Nat):=A n (l F (s i))
abbrev G(n k i:Nat):=A n (l (.agg k) (s i))
abbrev H(n k i:Nat):=A n (f k (s i))
abbrev W(k i o:Nat):aA:=⟨N,N,t (.agg k) (s i) (s o)⟩
abbrev Y(n k i:Nat):aA:=⟨S n,N,x (.agg k) (s i)⟩
abbrev P(n i:Nat)(x:List aI):aA:=⟨S n,N,k i x⟩
abbrev T(n i:Nat)(x:aR):aA:=⟨S n,S (i,true),v x⟩
abbrev U(n i:Nat)(x:aR):aA:=⟨S n,S (i,false),v x⟩
abbrev B(n:Int):=c (I j n)
abbrev Ba:=c (.bool false)
abbrev Bb:=c (.bool true)
abbrev Z3:List Nat:=[0,1,2]
abbrev Z4:List Nat:=[0,1,2,3]
abbrev Z5:List Nat:=[0,1,2,3,4]
abbrev Z6:List Nat:=[0,1,2,3,4,5]
abbrev Z7:List Nat:=[0,1,2,3,4,5,6]
abbrev Z8:List Nat:=[0,1,2,3,4,5,6,7]
abbrev Z9:List Nat:=[0,1,2,3,4,5,6,7,8]
abbrev Z10:List Nat:=[0,1,2,3,4,5,6,7,8,9]
abbrev Z11:List Nat:=[0,1,2,3,4,5,6,7,8,9,10]
abbrev Z12:List Nat:=[0,1,2,3,4,5,6,7,8,9,10,11]
abbrev Z13:List Nat:=[0,1,2,3,4,5,6,7,8,9,10,11,12]
abbrev Z14:List Nat:=[0,1,2,3,4,5,6,7,8,9,10,11,12,13]
abbrev Z15:List Nat:=[0,1,2,3,4,5,6,7,8,9,10,11,12,13,14]
abbrev Z16:List Nat:=[0,1,2,3,4,5,6,7,8,9,10,11,12,13,14,15]
abbrev Z17:List Nat:=[0,1,2,3,4,5,6,7,8,9,10,11,12,13,14,15,16]
abbrev Z18:List Nat:=[0,1,2,3,4,5,6,7,8,9,10,11,12,13,14,15,16,17]
abbrev Z22:List Nat:=[0,1,2,3,4,5,6,7,8,9,10,11,12,13,14,15,16,17,18,19,20,21]
abbrev LA:=List aA
abbrev LD:=List (aA×List Nat)
abbrev lA(n i o:Nat):=A n (b .lss (s i) (s o))
abbrev lB(n i:Nat):=A n (b .add (s i) (B 1))
abbrev lC(n k o z:Nat):=A n (i (.agg k) (s o) (s z))
abbrev lE(n o z:Nat):=A n (i F (s o) (s z))
abbrev lF(n:Nat)(z:Int):=A n (m (B z))
abbrev lG(n:Nat):=A n (m Ba)
abbrev lH(n i o:Nat):=A n (p (s i) Bb (s o))
abbrev lI(n i o:Nat):=A n (p (s i) (s o) Ba)
abbrev lJ(n i o:Nat):=T n i (m (s o))
abbrev lK(n i o:Nat):=T n i (l F (s o))
abbrev lL(n i k o:Nat):=T n i (f k (s o))
abbrev lM(n i o:Nat):=U n i (m (s o))
abbrev lN(n i o:Nat):=U n i (l F (s o))
abbrev lO(n i k o:Nat):=U n i (f k (s o))
abbrev lP(n i:Nat):=A n (w (s i))
abbrev lQ(n i o:Nat):=A n (q (s i) o)
abbrev lR(o i:Nat):=A o (n (s i))
abbrev lS(n k z i o:Nat):aA:=⟨S n,N,a (.agg k) z (s i) (s o)⟩
attribute[go_sem] A M E G H W Y P T U B Ba Bb Z3 Z4 Z5 Z6 Z7 Z8 Z9 Z10 Z11 Z12 Z13 Z14 Z15 Z16 Z17 Z18 Z22 lA lB lC lE lF lG lH lI lJ lK lL lM lN lO lP lQ lR lS
abbrev aVC:LA:=[Y 3 6 0,Y 5 2 2,lG 6]
abbrev aVB:LA:=[P 16 7 [],A 17 (.not (s 16))]
abbrev aSi:LA:=[lG 6]
abbrev aVA:LA:=[G 18 6 3,P 19 8 [s 18,(B 300)],A 20 (b .lss (s 19) (B 0)),M 21 20,U 22 21 (.idxP 2 F (s 5) (B 0)),lN 23 21 22,U 24 21 (.idxP 2 F (s 5) (B 1)),lN 25 21 24,⟨S 26,S (21,false),y F [s 23,s 25]⟩,⟨S 27,S (21,false),k 20 [s 26]⟩,lH 28 21 27]
abbrev aQl:LA:=[A 6 (m Bb)]
abbrev aU9:LA:=[G 30 6 3,P 31 9 [s 30],M 29 31,lQ 32 29 0,lQ 33 29 1,⟨S 7,N,x (.agg 7) (c (.agg [(.str ⟨#[]⟩),(.sl (.agg 4) .nil []),(I j 0),(I j 0),(.sl (.agg 17) .nil []),(I j 0),(.sl (.agg 5) .nil [])]))⟩,W 7 7 32,M 8 33]
abbrev aU8:LA:=[M 34 8,A 35 (e true (.iface true) (s 34) (c .nilIface))]
abbrev aU7:LA:=[H 36 6 7,E 37 36,lP 38 37,A 39 (b .eql (s 38) (B 0)),M 6 39]
abbrev aU6:LD:=[(⟨S 40,N,y (.agg 3) []⟩,[]),(A 41 (.idxP 2 F (s 5) (B 0)),[]),(E 42 41,[1]),(lS 43 3 32 40 42,Z3),(A 44 (.idxP 2 F (s 5) (B 1)),[]),(E 45 44,[4]),(lS 46 3 32 43 45,Z6),(lP 47 46,Z7),(lF 48 0,[])]
abbrev aAe:LA:=[]
abbrev aU5:LA:=[lA 49 48 47]
abbrev aQw:LA:=[lC 50 3 46 48,G 51 3 50,⟨S 10,N,x (.agg 3) (c (.agg [(I j 0),(I j 0),(.str ⟨#[]⟩)]))⟩,W 3 10 51]
abbrev aQv:LA:=[G 52 3 10,⟨S 53,N,y (.agg 3) [s 52]⟩,P 54 21 [s 53],A 55 (.not (s 54))]
abbrev aQu:LA:=[lB 56 48,M 48 56]
abbrev aVD:aU:=(Q (O aU5) (Q (C (s 49) Z (X 0)) (Q (K 1 (Q (O aQw) (Q (O aQv) (C (s 55) (Q (O aQl) .ret) Z)))) (O aQu))))
abbrev aQt:LA:=[G 58 7 7,M 59 1,A 60 (.idxP 2 F (s 5) (B 0)),E 61 60,A 62 (.idxP 2 F (s 5) (B 1)),E 63 62,P 64 22 [s 58,s 59,s 61,s 63],M 57 64,lQ 65 57 0,lQ 66 57 1,lQ 67 57 2,M 11 65,M 12 66,M 8 67]
abbrev aQs:LA:=[M 68 8,A 69 (e true (.iface true) (s 68) (c .nilIface)),M 70 69,lM 71 70 12,U 72 70 (.not (s 71)),lH 73 70 72]
abbrev aQr:LA:=[M 74 11,lP 75 74,A 76 (b .eql (s 75) (B 0)),M 6 76]
abbrev aQq:LD:=[(M 77 11,[]),(lP 78 77,[0]),(A 79 (.idxP 2 F (s 5) (B 0)),[]),(E 80 79,[2]),(lP 81 80,[2,3]),(lA 82 78 81,Z5),(M 83 82,Z6),(lM 84 83 11,Z7),(U 85 83 (.idxP 2 F (s 5) (B 0)),Z7),(lN 86 83 85,[0,1,2,3,4,5,6,8]),(U 87 83 (w (s 86)),[0,1,2,3,4,5,6,8,9]),(U 88 83 (.slc (.agg 3) (s 84) .none (.some (s 87)) .none),Z11),(U 89 83 (.idxP 2 F (s 5) (B 0)),Z7),(lN 90 83 89,[0,1,2,3,4,5,6,12]),(⟨S 91,S (83,false),k 23 [s 88,s 90]⟩,Z14),(U 92 83 (.not (s 91)),Z15),(lH 93 83 92,Z16),(M 94 93,Z17),(lM 95 94 1,Z18),(U 96 94 (b .lss (s 95) (B 0)),[0,1,2,3,4,5,6,7,8,9,10,11,12,13,14,15,16,17,18]),(lH 97 94 96,[0,1,2,3,4,5,6,7,8,9,10,11,12,13,14,15,16,17,18,19]),(M 98 97,[0,1,2,3,4,5,6,7,8,9,10,11,12,13,14,15,16,17,18,19,20]),(lM 99 98 1,Z22),(lO 100 98 6 7,Z22),(lN 101 98 100,[0,1,2,3,4,5,6,7,8,9,10,11,12,13,14,15,16,17,18,19,20,21,23]),(U 102 98 (w (s 101)),[0,1,2,3,4,5,6,7,8,9,10,11,12,13,14,15,16,17,18,19,20,21,23,24]),(U 103 98 (b .geq (s 99) (s 102)),[0,1,2,3,4,5,6,7,8,9,10,11,12,13,14,15,16,17,18,19,20,21,22,23,24,25]),(lH 104 98 103,[0,1,2,3,4,5,6,7,8,9,10,11,12,13,14,15,16,17,18,19,20,21,22,23,24,25,26])]
abbrev aQp:LA:=[H 105 6 7,E 106 105,M 107 1,lC 108 5 106 107,H 109 0 108,E 110 109,A 111 (b .neq (s 110) (B 1))]
abbrev aQo:LA:=[G 113 7 7,M 114 1,A 115 (.idxP 2 F (s 5) (B 0)),E 116 115,P 117 24 [s 113,s 114,s 116],M 112 117,lQ 118 112 0,lQ 119 112 1,M 13 118,M 8 119]
abbrev aQn:LA:=[G 121 7 7,M 122 1,A 123 (.idxP 2 F (s 5) (B 1)),E 124 123,P 125 25 [s 121,s 122,s 124],M 120 125,lQ 126 120 0,lQ 127 120 1,M 14 126,M 15 127]
abbrev aQm:LA:=[M 128 8,A 129 (e false (.iface true) (s 128) (c .nilIface)),M 130 129,lJ 131 130 15,T 132 130 (e false (.iface true) (s 131) (c .nilIface)),lI 133 130 132,M 134 133,lJ 135 134 13,lJ 136 134 14,⟨S 137,S (134,true),k 26 [s 135,s 136]⟩,T 138 134 (b .eql (s 137) (B 0)),lI 139 134 138,M 6 139]
def g0:LFn:=⟨(Q (O aVC) (Q (Q (O aVB) (C (s 17) (Q (O aSi) .ret) Z)) (Q (Q (O aVA) (C (s 28) (Q (O aQl) .ret) Z)) (Q (O aU9) (Q (Q (O aU8) (C (s 35) (Q (O aU7) .ret) Z)) (Q (Q (D 9 aU6 aAe) (K 0 (R aVD))) (Q (O aQt) (Q (Q (O aQs) (C (s 73) (Q (O aQr) .ret) Z)) (Q (Q (D 28 aQq aAe) (C (s 104) (Q (O aSi) .ret) Z)) (Q (Q (O aQp) (C (s 111) (Q (O aQl) .ret) Z)) (Q (O aQo) (Q (O aQn) (Q (O aQm) .ret))))))))))))),140,[.slot 6]⟩
theorem g0z:aD Tryz.prog 5=some g0:=Zz
abbrev aUm:LA:=[lG 0]
abbrev aUl:LA:=[⟨S 7,N,k 33 [(c (.str ⟨#[112,40,88,44,32,90,41,32,58,45,32,101,40,88,44,32,89,41,44,32,101,40,89,44,32,90,41,46]⟩))]⟩,M 6 7,lQ 8 6 0,lQ 9 6 1,lQ 10 6 2,⟨S 1,N,x (.agg 6) (c (.agg [(.str ⟨#[]⟩),(.sl (.agg 4) .nil []),(I j 0),(I j 0),(.sl (.agg 17) .nil []),(I j 0)]))⟩,W 6 1 8,M 2 9,M 3 10]
abbrev aUk:LA:=[G 12 6 1,P 13 9 [s 12],M 11 13,lQ 14 11 0,lQ 15 11 1,⟨S 4,N,x (.agg 7) (c (.agg [(.str ⟨#[]⟩),(.sl (.agg 4) .nil []),(I j 0),(I j 0),(.sl (.agg 17) .nil []),(I j 0),(.sl (.agg 5) .nil [])]))⟩,W 7 4 14,M 5 15]
abbrev aUj:LA:=[M 16 3,A 17 (e false (.iface true) (s 16) (c .nilIface)),M 18 17,lJ 19 18 5,T 20 18 (e false (.iface true) (s 19) (c .nilIface)),lI 21 18 20,M 22 21,lL 23 22 6 4,lK 24 22 23,T 25 22 (w (s 24)),T 26 22 (b .eql (s 25) (B 2)),lI 27 22 26,M 28 27,lL 29 28 6 4,lK 30 28 29,T 31 28 (i (.agg 5) (s 30) (B 1)),lL 32 28 4 31,lK 33 28 32,⟨S 34,S (28,true),y F [(B 0)]⟩,⟨S 35,S (28,true),k 18 [s 33,s 34]⟩,lI 36 28 35,M 37 36,lL 38 37 6 4,lK 39 37 38,T 40 37 (i (.agg 5) (s 39) (B 1)),lL 41 37 2 40,lK 42 37 41,⟨S 43,S (37,true),y F [(c (.str ⟨#[88]⟩)),(c (.str ⟨#[89]⟩))]⟩,⟨S 44,S (37,true),k 11 [s 42,s 43]⟩,lI 45 37 44,M 46 45,T 47 46 (l (.agg 7) (s 4)),⟨S 48,S (46,true),k 13 [s 47]⟩,⟨S 49,S (46,true),y F [(c (.str ⟨#[88]⟩)),(c (.str ⟨#[89]⟩)),(c (.str ⟨#[90]⟩))]⟩,⟨S 50,S (46,true),k 11 [s 48,s 49]⟩,lI 51 46 50,M 0 51]
def g1:LFn:=⟨(Q (O aUm) (Q (O aUl) (Q (O aUk) (Q (O aUj) .ret)))),52,[.slot 0]⟩
theorem g1z:aD Tryz.prog 7=some g1:=Zz
abbrev aOy:LA:=[Y 2 6 0,lF 4 0]
abbrev aUZ:LA:=[H 7 0 2,G 8 2 7,M 9 1,P 10 34 [s 8,s 9],M 1 10]
abbrev aUY:LA:=[H 11 4 2,E 12 11,lP 13 12,lF 14 0]
abbrev aUX:LA:=[lA 15 14 13]
abbrev aUW:LA:=[lC 16 17 12 14,G 17 17 16,⟨S 6,N,x (.agg 17) (c (.agg [(I j 0),(.str ⟨#[]⟩),(.sl (.agg 4) .nil []),(I j 0),(I j 0),(.str ⟨#[]⟩),(I j 0),(I j 0),(.str ⟨#[]⟩),(.sl (.agg 6) .nil []),(I j 0),(.str ⟨#[]⟩),(I j 0),(I j 0),(.str ⟨#[]⟩),(.sl (.agg 6) .nil []),(I j 0)]))⟩,W 17 6 17]
abbrev aUV:LA:=[M 18 1,A 19 (b .lss (s 18) (B 0))]
abbrev aED:LA:=[A 4 (m (B (-1)))]
abbrev aUU:LD:=[(H 20 10 6,[]),(G 21 6 20,[0]),(H 22 4 6,[]),(G 23 6 22,[2]),(H 24 1 6,[]),(G 25 2 24,[4]),(M 26 1,[]),(P 27 34 [s 25,s 26],[4,5,6]),(P 28 35 [s 23,s 27],[2,3,4,5,6,7]),(P 29 35 [s 21,s 28],Z9)]
abbrev aOx:LA:=[M 1 29]
abbrev aUT:LA:=[lB 30 14,M 14 30]
abbrev aUa:aU:=(Q (O aUX) (Q (C (s 15) Z (X 0)) (Q (K 1 (Q (O aUW) (Q (Q (O aUV) (C (s 19) (Q (O aED) .ret) Z)) (D 10 aUU aOx)))) (O aUT))))
abbrev aUS:LA:=[M 31 1,M 4 31]
def g2:LFn:=⟨(Q (O aOy) (Q (O aUZ) (Q (Q (O aUY) (K 0 (R aUa))) (Q (O aUS) .ret)))),32,[.slot 4]⟩
theorem g2z:aD Tryz.prog 8=some g2:=Zz
abbrev aUF:LA:=[Y 1 6 0,⟨S 2,N,x (.agg 7) (c (.agg [(.str ⟨#[]⟩),(.sl (.agg 4) .nil []),(I j 0),(I j 0),(.sl (.agg 17) .nil []),(I j 0),(.sl (.agg 5) .nil [])]))⟩,A 3 (m (c .nilIface))]
abbrev aUE:LA:=[G 13 6 1,P 14 36 [s 13],A 15 (.not (s 14)),M 12 15]
abbrev aUD:LA:=[⟨S 16,N,v (.build [(.str ⟨#[]⟩),(.sl (.agg 4) .nil []),(I j 0),(I j 0),(.sl (.agg 17) .nil []),(I j 0),(.sl (.agg 5) .nil [])] [])⟩,A 17 (.mkif 100 (B 2)),W 7 2 16,M 3 17]
abbrev aUC:LA:=[G 19 6 1,P 20 37 [s 19],lP 21 20,A 22 (b .gtr (s 21) (B 0)),M 18 22]
abbrev aUB:LA:=[⟨S 23,N,v (.build [(.str ⟨#[]⟩),(.sl (.agg 4) .nil []),(I j 0),(I j 0),(.sl (.agg 17) .nil []),(I j 0),(.sl (.agg 5) .nil [])] [])⟩,A 24 (.mkif 100 (B 8)),W 7 2 23,M 3 24]
abbrev aUA:LA:=[G 25 6 1,⟨S 26,N,v (.build [(.str ⟨#[]⟩),(.sl (.agg 4) .nil []),(I j 0),(I j 0),(.sl (.agg 17) .nil []),(I j 0),(.sl (.agg 5) .nil [])] [(0,(.agg 6),(s 25))])⟩,⟨S 4,N,x (.agg 7) (c (.agg [(.str ⟨#[]⟩),(.sl (.agg 4) .nil []),(I j 0),(I j 0),(.sl (.agg 17) .nil []),(I j 0),(.sl (.agg 5) .nil [])]))⟩,W 7 4 26]
abbrev aSe:LA:=[A 5 (m (c (.sl F .nil [])))]
abbrev aT9:LA:=[G 27 6 1,P 28 10 [s 27],lP 29 28,lF 30 0]
abbrev aT8:LA:=[lA 31 30 29]
abbrev aT7:LA:=[lE 32 28 30,E 33 32,M 7 33]
abbrev aOc:LA:=[H 34 4 1,E 35 34,M 36 7,lC 37 17 35 36,G 38 17 37,⟨S 8,N,x (.agg 17) (c (.agg [(I j 0),(.str ⟨#[]⟩),(.sl (.agg 4) .nil []),(I j 0),(I j 0),(.str ⟨#[]⟩),(I j 0),(I j 0),(.str ⟨#[]⟩),(.sl (.agg 6) .nil []),(I j 0),(.str ⟨#[]⟩),(I j 0),(I j 0),(.str ⟨#[]⟩),(.sl (.agg 6) .nil []),(I j 0)]))⟩,W 17 8 38]
abbrev aOb:LA:=[G 39 17 8,P 40 38 [s 39],M 41 7,M 42 5,M 43 5,P 44 39 [s 43],A 45 (.build [(I j 0),(I j 0),(.sl F .nil []),(.sl F .nil []),(.sl F .nil [])] [(0,F,(s 40)),(1,F,(s 41)),(2,F,(s 42)),(3,F,(s 44))]),⟨S 9,N,x (.agg 5) (c (.agg [(I j 0),(I j 0),(.sl F .nil []),(.sl F .nil []),(.sl F .nil [])]))⟩,W 5 9 45]
abbrev aOa:LA:=[G 46 17 8,P 47 40 [s 46],lP 48 47,lF 49 0]
abbrev aGg:LA:=[lA 50 49 48]
abbrev aOZ:LA:=[lE 51 47 49,E 52 51,M 11 52]
abbrev aOY:LA:=[M 53 5,M 54 11,P 55 41 [s 53,s 54],A 56 (.not (s 55))]
abbrev aOX:LA:=[H 57 3 9,E 58 57,M 59 11,⟨S 60,N,y F [s 59]⟩,⟨S 61,N,a F 16 (s 58) (s 60)⟩,H 62 3 9,⟨N,N,t F (s 62) (s 61)⟩]
abbrev aOW:LA:=[lB 63 49,M 49 63]
abbrev aUH:aU:=(Q (O aGg) (Q (C (s 50) Z (X 3)) (Q (K 4 (Q (O aOZ) (Q (O aOY) (C (s 56) (O aOX) Z)))) (O aOW))))
abbrev aOV:LA:=[H 64 0 9,E 65 64,A 66 (b .neq (s 65) (B 3))]
abbrev aOU:LA:=[H 67 1 8,G 68 2 67,M 69 5,P 70 42 [s 68,s 69],H 71 4 9,⟨N,N,t F (s 71) (s 70)⟩]
abbrev aOT:LA:=[H 72 6 4,E 73 72,G 74 5 9,⟨S 75,N,y (.agg 5) [s 74]⟩,lS 76 5 88 73 75,H 77 6 4,⟨N,N,t F (s 77) (s 76)⟩]
abbrev aOS:LA:=[H 78 3 9,E 79 78,M 5 79]
abbrev aOR:LA:=[lB 80 30,M 30 80]
abbrev aUG:aU:=(Q (O aT8) (Q (C (s 31) Z (X 1)) (Q (K 2 (Q (O aT7) (Q (O aOc) (Q (O aOb) (Q (Q (O aOa) (K 3 (R aUH))) (Q (Q (O aOV) (C (s 66) (O aOU) Z)) (Q (O aOT) (O aOS)))))))) (O aOR))))
abbrev aOQ:LA:=[G 81 7 4,W 7 2 81,A 3 (m (c .nilIface))]
def g3:LFn:=⟨(Q (O aUF) (Q (K 0 (Q (O aUE) (C (s 12) (Q (O aUD) .ret) (Q (O aUC) (C (s 18) (Q (O aUB) .ret) Z))))) (Q (O aUA) (Q (O aSe) (Q (Q (O aT9) (K 1 (R aUG))) (Q (O aOQ) .ret)))))),82,[.cell 2 (.agg 7),.slot 3]⟩
theorem g3z:aD Tryz.prog 9=some g3:=Zz
abbrev aMS:LA:=[Y 1 6 0,A 2 (m (c (.sl F .nil [])))]
abbrev aTy:LA:=[⟨S 3,N,x F (c (.sl F .nil []))⟩]
abbrev aTx:LA:=[G 5 6 1,P 6 43 [s 5]]
abbrev aTw:LA:=[M 4 7]
abbrev aTv:LA:=[E 9 3,M 10 4,⟨S 11,N,y F [s 10]⟩,⟨S 12,N,a F 8 (s 9) (s 11)⟩,⟨N,N,t F (s 3) (s 12)⟩]
abbrev aTz:aU:=(K 1 (O aTv))
abbrev aTu:LA:=[E 13 3,M 2 13]
def g4:LFn:=⟨(Q (O aMS) (Q (O aTy) (Q (Q (O aTx) (K 0 (.range (s 6) [7,8] (O aTw) aTz))) (Q (O aTu) .ret)))),14,[.slot 2]⟩
theorem g4z:aD Tryz.prog 10=some g4:=Zz
abbrev aBH:LA:=[lG 4]
abbrev aNK:LA:=[M 6 0,lP 7 6,M 8 1,lP 9 8,A 10 (b .neq (s 7) (s 9))]
abbrev aGL:LA:=[M 11 0,lP 12 11,lF 13 0]
abbrev aEm:LA:=[lA 14 13 12]
abbrev aNJ:LA:=[M 15 13,M 5 15]
abbrev aSX:LD:=[(M 16 0,[]),(M 17 5,[]),(lE 18 16 17,[0,1]),(E 19 18,Z3),(M 20 1,[]),(M 21 5,[]),(lE 22 20 21,[4,5]),(E 23 22,[4,5,6]),(A 24 (b .neq (s 19) (s 23)),Z8)]
abbrev aNI:LA:=[lB 25 13,M 13 25]
abbrev aTm:aU:=(Q (O aEm) (Q (C (s 14) Z (X 0)) (Q (K 1 (Q (O aNJ) (Q (D 9 aSX aAe) (C (s 24) (Q (O aBH) .ret) Z)))) (O aNI))))
abbrev aFu:LA:=[A 4 (m Bb)]
def g5:LFn:=⟨(Q (O aBH) (Q (Q (O aNK) (C (s 10) (Q (O aBH) .ret) Z)) (Q (Q (O aGL) (K 0 (R aTm))) (Q (O aFu) .ret)))),26,[.slot 4]⟩
theorem g5z:aD Tryz.prog 11=some g5:=Zz
abbrev aTa:LA:=[H 6 0 1,H 7 1 6,E 8 7,P 9 44 [(c (.sl F .nil [])),s 8],M 3 9]
abbrev aTZ:LA:=[H 10 4 1,E 11 10,lP 12 11,lF 13 0]
abbrev aTY:LA:=[lC 15 17 11 13,G 16 17 15,⟨S 5,N,x (.agg 17) (c (.agg [(I j 0),(.str ⟨#[]⟩),(.sl (.agg 4) .nil []),(I j 0),(I j 0),(.str ⟨#[]⟩),(I j 0),(I j 0),(.str ⟨#[]⟩),(.sl (.agg 6) .nil []),(I j 0),(.str ⟨#[]⟩),(I j 0),(I j 0),(.str ⟨#[]⟩),(.sl (.agg 6) .nil []),(I j 0)]))⟩,W 17 5 16]
abbrev aTX:LA:=[M 17 3,G 18 17 5,P 19 45 [s 18],P 20 44 [s 17,s 19],M 3 20]
abbrev aTW:LA:=[lB 21 13,M 13 21]
abbrev aTb:aU:=(Q (O aEm) (Q (C (s 14) Z (X 0)) (Q (K 1 (Q (O aTY) (O aTX))) (O aTW))))
abbrev aTV:LA:=[M 22 3,M 2 22]
def g6:LFn:=⟨(Q (O aMS) (Q (O aTa) (Q (Q (O aTZ) (K 0 (R aTb))) (Q (O aTV) .ret)))),23,[.slot 2]⟩
theorem g6z:aD Tryz.prog 12=some g6:=Zz
abbrev aRy:LA:=[Y 1 7 0,A 2 (m (c (.sl F .nil [])))]
abbrev aRx:LA:=[H 3 6 1,E 4 3,lP 5 4,A 6 (b .eql (s 5) (B 0))]
abbrev aRw:LA:=[A 2 (m (c (.sl F .nil [])))]
abbrev aRv:LA:=[H 7 6 1,E 8 7,H 9 6 1,E 10 9,lP 11 10,A 12 (b .sub (s 11) (B 1)),lC 13 5 8 12,H 14 3 13,E 15 14,P 16 39 [s 15],M 2 16]
def g7:LFn:=⟨(Q (O aRy) (Q (Q (O aRx) (C (s 6) (Q (O aRw) .ret) Z)) (Q (O aRv) .ret))),17,[.slot 2]⟩
theorem g7z:aD Tryz.prog 13=some g7:=Zz
abbrev aRb:aU:=(Q (O aEm) (Q (C (s 14) Z (X 0)) (Q (K 1 (Q (O aNJ) (Q (D 9 aSX aAe) (C (s 24) (Q (O aBH) .ret) Z)))) (O aNI))))
def g8:LFn:=⟨(Q (O aBH) (Q (Q (O aNK) (C (s 10) (Q (O aBH) .ret) Z)) (Q (Q (O aGL) (K 0 (R aRb))) (Q (O aFu) .ret)))),26,[.slot 4]⟩
theorem g8z:aD Tryz.prog 18=some g8:=Zz
abbrev aAt:LA:=[lG 2]
abbrev aI6:LA:=[lF 3 0]
abbrev aRY:LA:=[M 8 0,lP 9 8,lF 10 0]
abbrev aRX:LA:=[lA 11 10 9]
abbrev aRW:LA:=[lE 12 8 10,E 13 12,M 5 13]
abbrev aRV:LA:=[M 14 5,lP 15 14,A 16 (b .gtr (s 15) (B 50))]
abbrev aI1:LA:=[A 2 (m Bb)]
abbrev aRU:LA:=[M 17 5,lP 18 17,lF 19 0]
abbrev aRT:LA:=[lA 20 19 18]
abbrev aRS:LA:=[lC 21 3 17 19,G 22 3 21,⟨S 7,N,x (.agg 3) (c (.agg [(I j 0),(I j 0),(.str ⟨#[]⟩)]))⟩,W 3 7 22]
abbrev aI5:LA:=[M 23 3,H 24 2 7,E 25 24,A 26 (.slen (s 25)),A 27 (b .add (s 23) (s 26)),M 3 27]
abbrev aI4:LA:=[M 28 3,A 29 (b .gtr (s 28) (B 2000))]
abbrev aI3:LA:=[lB 30 19,M 19 30]
abbrev aRa:aU:=(Q (O aRT) (Q (C (s 20) Z (X 2)) (Q (K 3 (Q (O aRS) (Q (O aI5) (Q (O aI4) (C (s 29) (Q (O aI1) .ret) Z))))) (O aI3))))
abbrev aI2:LA:=[lB 31 10,M 10 31]
abbrev aRZ:aU:=(Q (O aRX) (Q (C (s 11) Z (X 0)) (Q (K 1 (Q (O aRW) (Q (Q (O aRV) (C (s 16) (Q (O aI1) .ret) Z)) (Q (O aRU) (K 2 (R aRa)))))) (O aI2))))
def g9:LFn:=⟨(Q (O aAt) (Q (O aI6) (Q (Q (O aRY) (K 0 (R aRZ))) (Q (O aAt) .ret)))),32,[.slot 2]⟩
theorem g9z:aD Tryz.prog 20=some g9:=Zz
abbrev aRR:LA:=[A 3 (m (c (.fn (.func 53) [] [])))]
abbrev aRQ:LA:=[M 4 0,lP 5 4,A 6 (b .leq (s 5) (B 6)),M 7 6,lJ 8 7 0,lJ 9 7 3,⟨S 10,S (7,true),k 55 [s 8,s 9]⟩,T 11 7 (.not (s 10)),lI 12 7 11,M 2 12]
def g10:LFn:=⟨(Q (O aAt) (Q (O aRR) (Q (O aRQ) .ret))),13,[.slot 2]⟩
theorem aVi:aD Tryz.prog 21=some g10:=Zz
abbrev aRP:LA:=[Y 4 7 0,A 8 (m (c (.sl (.agg 3) .nil []))),lG 9,A 10 (m (c .nilIface))]
abbrev aRO:LA:=[G 19 7 4,M 20 1,P 21 56 [s 19,s 20],M 18 21,lQ 22 18 0,lQ 23 18 1,lQ 24 18 2,⟨S 11,N,x (.agg 5) (c (.agg [(I j 0),(I j 0),(.sl F .nil []),(.sl F .nil []),(.sl F .nil [])]))⟩,⟨S 12,N,x (.agg 17) (c (.agg [(I j 0),(.str ⟨#[]⟩),(.sl (.agg 4) .nil []),(I j 0),(I j 0),(.str ⟨#[]⟩),(I j 0),(I j 0),(.str ⟨#[]⟩),(.sl (.agg 6) .nil []),(I j 0),(.str ⟨#[]⟩),(I j 0),(I j 0),(.str ⟨#[]⟩),(.sl (.agg 6) .nil []),(I j 0)]))⟩,W 5 11 22,W 17 12 23,M 13 24]
abbrev aRN:LA:=[M 25 13,A 26 (e true (.iface true) (s 25) (c .nilIface))]
abbrev aRM:LA:=[M 27 13,A 8 (m (c (.sl (.agg 3) .nil []))),lG 9,M 10 27]
abbrev aRL:LA:=[H 29 2 11,E 30 29,M 31 2,P 32 57 [s 30,s 31],M 28 32,lQ 33 28 0,lQ 34 28 1,M 14 33,M 13 34]
abbrev aRK:LA:=[M 35 13,A 36 (e true (.iface true) (s 35) (c .nilIface))]
abbrev aRJ:LA:=[M 37 13,A 8 (m (c (.sl (.agg 3) .nil []))),lG 9,M 10 37]
abbrev aRI:LA:=[M 38 14,M 15 38,lG 16]
abbrev aRH:LA:=[H 39 0 11,E 40 39]
abbrev aRG:LA:=[A 49 (b .eql (s 40) (B 1)),M 48 49]
abbrev aHm:LA:=[H 51 1 12,G 52 2 51,M 53 3,M 54 14,P 55 58 [s 52,s 53,s 54],M 50 55,lQ 56 50 0,lQ 57 50 1,M 15 56,M 16 57]
abbrev aHl:LA:=[A 59 (b .eql (s 40) (B 2)),M 58 59]
abbrev aHk:LA:=[A 17 (m (c (.sl (.agg 3) .nil [])))]
abbrev aHj:LA:=[H 61 1 12,G 62 2 61,M 63 14,P 64 59 [s 62,s 63],M 60 64,lQ 65 60 0,lQ 66 60 1,M 17 65,M 13 66]
abbrev aHi:LA:=[M 67 17,M 68 3,P 69 26 [s 67,s 68],A 70 (b .neq (s 69) (B 0)),M 16 70]
abbrev aHh:LA:=[G 42 17 12,M 43 14,P 44 60 [s 42,s 43],M 41 44,lQ 45 41 0,lQ 46 41 1,lQ 47 41 2,M 15 45,M 16 46,M 13 47]
abbrev aHg:LA:=[M 71 13,A 72 (e true (.iface true) (s 71) (c .nilIface)),M 73 72,lM 74 73 16,U 75 73 (.not (s 74)),lH 76 73 75]
abbrev aHf:LA:=[M 77 13,A 8 (m (c (.sl (.agg 3) .nil []))),lG 9,M 10 77]
abbrev aHe:LA:=[H 78 3 11,E 79 78,M 80 15,P 81 61 [s 79,s 80],M 8 81,A 9 (m Bb),A 10 (m (c .nilIface))]
def g11:LFn:=⟨(Q (O aRP) (Q (O aRO) (Q (Q (O aRN) (C (s 26) (Q (O aRM) .ret) Z)) (Q (O aRL) (Q (Q (O aRK) (C (s 36) (Q (O aRJ) .ret) Z)) (Q (O aRI) (Q (Q (O aRH) (K 0 (Q (O aRG) (C (s 48) (O aHm) (Q (O aHl) (C (s 58) (Q (O aHk) (Q (O aHj) (O aHi))) (O aHh))))))) (Q (Q (O aHg) (C (s 76) (Q (O aHf) .ret) Z)) (Q (O aHe) .ret))))))))),82,[.slot 8,.slot 9,.slot 10]⟩
theorem aVa:aD Tryz.prog 22=some g11:=Zz
abbrev aRF:LA:=[M 5 0,M 6 1,P 7 29 [s 5,s 6],M 4 7]
def g12:LFn:=⟨(Q (O aBH) (Q (O aRF) .ret)),8,[.slot 4]⟩
theorem aVU:aD Tryz.prog 23=some g12:=Zz
abbrev aHF:LA:=[Y 3 7 0,A 6 (m (c (.sl (.agg 3) .nil []))),A 7 (m (c .nilIface))]
abbrev aRD:LA:=[G 18 7 3,M 19 1,P 20 56 [s 18,s 19],M 17 20,lQ 21 17 0,lQ 22 17 1,lQ 23 17 2,⟨S 8,N,x (.agg 5) (c (.agg [(I j 0),(I j 0),(.sl F .nil []),(.sl F .nil []),(.sl F .nil [])]))⟩,⟨S 9,N,x (.agg 17) (c (.agg [(I j 0),(.str ⟨#[]⟩),(.sl (.agg 4) .nil []),(I j 0),(I j 0),(.str ⟨#[]⟩),(I j 0),(I j 0),(.str ⟨#[]⟩),(.sl (.agg 6) .nil []),(I j 0),(.str ⟨#[]⟩),(I j 0),(I j 0),(.str ⟨#[]⟩),(.sl (.agg 6) .nil []),(I j 0)]))⟩,W 5 8 21,W 17 9 22,M 10 23]
abbrev aRC:LA:=[M 24 10,A 25 (e true (.iface true) (s 24) (c .nilIface)),M 26 25,lO 27 26 0 8,lN 28 26 27,U 29 26 (b .eql (s 28) (B 3)),lH 30 26 29]
abbrev aRB:LA:=[A 31 (.mkif 100 (B 1)),A 6 (m (c (.sl (.agg 3) .nil []))),M 7 31]
abbrev aRA:LA:=[H 33 2 8,E 34 33,M 35 2,P 36 57 [s 34,s 35],M 32 36,lQ 37 32 0,lQ 38 32 1,M 11 37,M 10 38]
abbrev aQ9:LA:=[M 39 10,A 40 (e true (.iface true) (s 39) (c .nilIface))]
abbrev aQ8:LA:=[M 41 10,A 6 (m (c (.sl (.agg 3) .nil []))),M 7 41]
abbrev aQ7:LA:=[H 42 4 8,E 43 42,lP 44 43,⟨S 45,N,.mkz (.agg 3) 32 (s 44) .top⟩,M 12 45]
abbrev aQ6:LA:=[H 46 4 8,E 47 46,lP 48 47,lF 49 0]
abbrev aHE:LA:=[lE 51 47 49,E 52 51,M 14 52]
abbrev aHD:LA:=[H 54 1 9,H 55 1 54,E 56 55,M 57 14,lC 58 4 56 57,G 59 4 58,M 60 11,P 61 62 [s 59,s 60],M 53 61,lQ 62 53 0,lQ 63 53 1,⟨S 15,N,x (.agg 3) (c (.agg [(I j 0),(I j 0),(.str ⟨#[]⟩)]))⟩,W 3 15 62,M 16 63]
abbrev aHC:LA:=[M 64 16,A 65 (e true (.iface true) (s 64) (c .nilIface))]
abbrev aHB:LA:=[M 66 16,A 6 (m (c (.sl (.agg 3) .nil []))),M 7 66]
abbrev aHA:LA:=[M 67 12,G 68 3 15,⟨S 69,N,y (.agg 3) [s 68]⟩,lS 70 3 32 67 69,M 12 70]
abbrev aG9:LA:=[lB 71 49,M 49 71]
abbrev aRE:aU:=(Q (O aGg) (Q (C (s 50) Z (X 0)) (Q (K 1 (Q (O aHE) (Q (O aHD) (Q (Q (O aHC) (C (s 65) (Q (O aHB) .ret) Z)) (O aHA))))) (O aG9))))
abbrev aG8:LA:=[M 72 12,M 6 72,A 7 (m (c .nilIface))]
def g13:LFn:=⟨(Q (O aHF) (Q (O aRD) (Q (Q (O aRC) (C (s 30) (Q (O aRB) .ret) Z)) (Q (O aRA) (Q (Q (O aQ9) (C (s 40) (Q (O aQ8) .ret) Z)) (Q (O aQ7) (Q (Q (O aQ6) (K 0 (R aRE))) (Q (O aG8) .ret)))))))),73,[.slot 6,.slot 7]⟩
theorem aVT:aD Tryz.prog 24=some g13:=Zz
abbrev aQ5:LA:=[G 12 7 3,M 13 1,P 14 56 [s 12,s 13],M 11 14,lQ 15 11 0,lQ 16 11 1,lQ 17 11 2,⟨S 8,N,x (.agg 5) (c (.agg [(I j 0),(I j 0),(.sl F .nil []),(.sl F .nil []),(.sl F .nil [])]))⟩,⟨S 9,N,x (.agg 17) (c (.agg [(I j 0),(.str ⟨#[]⟩),(.sl (.agg 4) .nil []),(I j 0),(I j 0),(.str ⟨#[]⟩),(I j 0),(I j 0),(.str ⟨#[]⟩),(.sl (.agg 6) .nil []),(I j 0),(.str ⟨#[]⟩),(I j 0),(I j 0),(.str ⟨#[]⟩),(.sl (.agg 6) .nil []),(I j 0)]))⟩,W 5 8 15,W 17 9 16,M 10 17]
abbrev aQ4:LA:=[M 19 10,A 20 (e true (.iface true) (s 19) (c .nilIface)),M 21 20,lO 22 21 0 8,lN 23 21 22,U 24 21 (b .neq (s 23) (B 1)),lH 25 21 24,M 18 25]
abbrev aQ3:LA:=[A 26 (.mkif 100 (B 1)),A 6 (m (c (.sl (.agg 3) .nil []))),M 7 26]
abbrev aQ2:LA:=[M 28 2,lP 29 28,H 30 1 9,H 31 1 30,E 32 31,lP 33 32,A 34 (b .neq (s 29) (s 33)),M 27 34]
abbrev aQ1:LA:=[A 35 (.mkif 100 (B 6)),A 6 (m (c (.sl (.agg 3) .nil []))),M 7 35]
abbrev aQ0:LA:=[M 36 2,H 37 4 8,E 38 37,P 39 63 [s 36,s 38],lQ 40 39 0,lQ 41 39 1,M 6 40,M 7 41]
def g14:LFn:=⟨(Q (O aHF) (Q (O aQ5) (Q (K 0 (Q (O aQ4) (C (s 18) (Q (O aQ3) .ret) (Q (O aQ2) (C (s 27) (Q (O aQ1) .ret) Z))))) (Q (O aQ0) .ret)))),42,[.slot 6,.slot 7]⟩
theorem aVS:aD Tryz.prog 25=some g14:=Zz
abbrev aBX:LA:=[lF 4 0]
abbrev aQz:LA:=[M 5 0,M 6 1,P 7 64 [s 5,s 6,(c (.fn (.func 65) [] []))],M 4 7]
def g15:LFn:=⟨(Q (O aBX) (Q (O aQz) .ret)),8,[.slot 4]⟩
theorem aVR:aD Tryz.prog 26=some g15:=Zz
abbrev aQx:LD:=[(M 16 0,[]),(M 17 5,[]),(lC 18 3 16 17,[0,1]),(G 19 3 18,Z3),(M 20 1,[]),(M 21 5,[]),(lC 22 3 20 21,[4,5]),(G 23 3 22,[4,5,6]),(A 24 (e true (.plain (.agg 3) [.int,.int,.str]) (s 19) (s 23)),Z8)]
abbrev aQy:aU:=(Q (O aEm) (Q (C (s 14) Z (X 0)) (Q (K 1 (Q (O aNJ) (Q (D 9 aQx aAe) (C (s 24) (Q (O aBH) .ret) Z)))) (O aNI))))
def g16:LFn:=⟨(Q (O aBH) (Q (Q (O aNK) (C (s 10) (Q (O aBH) .ret) Z)) (Q (Q (O aGL) (K 0 (R aQy))) (Q (O aFu) .ret)))),26,[.slot 4]⟩
theorem aVQ:aD Tryz.prog 29=some g16:=Zz
abbrev aQk:LA:=[⟨S 2,N,x (.agg 6) (c (.agg [(.str ⟨#[]⟩),(.sl (.agg 4) .nil []),(I j 0),(I j 0),(.sl (.agg 17) .nil []),(I j 0)]))⟩,lF 3 0,A 4 (m (c .nilIface))]
abbrev aQj:LA:=[M 5 0,P 6 74 [s 5,(c (.fn (.func 75) [] []))],lQ 7 6 0,lQ 8 6 1,lQ 9 6 2,W 6 2 7,M 3 8,M 4 9]
def g17:LFn:=⟨(Q (O aQk) (Q (O aQj) .ret)),10,[.cell 2 (.agg 6),.slot 3,.slot 4]⟩
theorem aVP:aD Tryz.prog 33=some g17:=Zz
abbrev aQh:LA:=[Y 2 2 0,lF 4 0]
abbrev aQg:LA:=[M 7 1,H 8 0 2,E 9 8,A 10 (.slen (s 9)),A 11 (b .quo (s 10) (B 50)),A 12 (b .add (B 1) (s 11)),A 13 (b .sub (s 7) (s 12)),M 1 13]
abbrev aQf:LA:=[H 14 1 2,E 15 14,lP 16 15,lF 17 0]
abbrev aQe:LA:=[lA 18 17 16]
abbrev aQd:LA:=[lC 19 4 15 17,G 20 4 19,⟨S 6,N,x (.agg 4) (c (.agg [(.str ⟨#[]⟩),(I j 0),(I j 0),(.str ⟨#[]⟩)]))⟩,W 4 6 20]
abbrev aQc:LA:=[M 21 1,H 22 0 6,E 23 22,A 24 (.slen (s 23)),H 25 1 6,H 26 2 25,E 27 26,A 28 (.slen (s 27)),A 29 (b .add (s 24) (s 28)),A 30 (b .quo (s 29) (B 50)),A 31 (b .add (B 1) (s 30)),A 32 (b .sub (s 21) (s 31)),M 1 32]
abbrev aQb:LA:=[M 33 1,A 34 (b .lss (s 33) (B 0))]
abbrev aQa:LA:=[lB 35 17,M 17 35]
abbrev aQi:aU:=(Q (O aQe) (Q (C (s 18) Z (X 0)) (Q (K 1 (Q (O aQd) (Q (O aQc) (Q (O aQb) (C (s 34) (Q (O aED) .ret) Z))))) (O aQa))))
abbrev aQZ:LA:=[M 36 1,M 4 36]
def g18:LFn:=⟨(Q (O aQh) (Q (O aQg) (Q (Q (O aQf) (K 0 (R aQi))) (Q (O aQZ) .ret)))),37,[.slot 4]⟩
theorem aVO:aD Tryz.prog 34=some g18:=Zz
abbrev aQX:LA:=[M 7 1,H 8 1 2,H 9 0 8,E 10 9,A 11 (.slen (s 10)),H 12 1 2,H 13 1 12,H 14 2 13,E 15 14,A 16 (.slen (s 15)),A 17 (b .add (s 11) (s 16)),A 18 (b .quo (s 17) (B 50)),A 19 (b .add (B 1) (s 18)),A 20 (b .sub (s 7) (s 19)),M 1 20]
abbrev aQW:LA:=[H 21 5 2,E 22 21,lP 23 22,lF 24 0]
abbrev aG7:LA:=[lA 25 24 23]
abbrev aQV:LA:=[lC 26 6 22 24,G 27 6 26,⟨S 6,N,x (.agg 6) (c (.agg [(I j 0),(.str ⟨#[]⟩),(I j 0),(I j 0),(.str ⟨#[]⟩),(.sl (.agg 6) .nil [])]))⟩,W 6 6 27]
abbrev aQU:LA:=[M 28 1,A 29 (b .lss (s 28) (B 0))]
abbrev aQT:LA:=[G 30 6 6,M 31 1,P 32 35 [s 30,s 31],M 1 32]
abbrev aQS:LA:=[lB 33 24,M 24 33]
abbrev aQY:aU:=(Q (O aG7) (Q (C (s 25) Z (X 0)) (Q (K 1 (Q (O aQV) (Q (Q (O aQU) (C (s 29) (Q (O aED) .ret) Z)) (O aQT)))) (O aQS))))
abbrev aQR:LA:=[M 34 1,M 4 34]
def g19:LFn:=⟨(Q (O aOy) (Q (O aQX) (Q (Q (O aQW) (K 0 (R aQY))) (Q (O aQR) .ret)))),35,[.slot 4]⟩
theorem aVN:aD Tryz.prog 35=some g19:=Zz
abbrev aDk:LA:=[Y 1 6 0,lG 2]
abbrev aQQ:LA:=[H 3 0 1,G 4 2 3,P 5 76 [s 4],M 6 5,T 7 6 (l (.agg 6) (s 1)),⟨S 8,S (6,true),k 77 [s 7]⟩,lI 9 6 8,M 10 9,lL 11 10 4 1,lK 12 10 11,T 13 10 (w (s 12)),T 14 10 (b .leq (s 13) (B 8)),lI 15 10 14,M 16 15,lL 17 16 4 1,lK 18 16 17,⟨S 19,S (16,true),k 78 [s 18,(c (.fn (.func 79) [] []))]⟩,lI 20 16 19,M 2 20]
def g20:LFn:=⟨(Q (O aDk) (Q (O aQQ) .ret)),21,[.slot 2]⟩
theorem aVM:aD Tryz.prog 36=some g20:=Zz
abbrev aQP:LD:=[(G 3 6 1,[]),(G 4 6 1,[]),(P 5 81 [s 4],[1]),(P 6 80 [s 3,s 5,Ba],Z3),(M 2 6,Z4)]
def g21:LFn:=⟨(Q (O aMS) (Q (D 5 aQP aAe) .ret)),7,[.slot 2]⟩
theorem aVL:aD Tryz.prog 37=some g21:=Zz
abbrev aQO:LA:=[Y 1 17 0,lF 2 0]
abbrev aEr:LA:=[H 3 0 1,E 4 3]
abbrev aEq:LA:=[A 6 (b .eql (s 4) (B 1)),M 5 6]
abbrev aG6:LA:=[lF 2 1]
abbrev aQN:LA:=[A 8 (b .eql (s 4) (B 2)),M 7 8]
abbrev aG5:LA:=[lF 2 2]
abbrev aG4:LA:=[lF 2 3]
def g22:LFn:=⟨(Q (O aQO) (Q (Q (O aEr) (K 0 (Q (O aEq) (C (s 5) (Q (O aG6) .ret) (Q (O aQN) (C (s 7) (Q (O aG5) .ret) Z)))))) (Q (O aG4) .ret))),9,[.slot 2]⟩
theorem aVK:aD Tryz.prog 38=some g22:=Zz
abbrev aQM:LA:=[Y 1 17 0,A 2 (m (c (.sl F .nil [])))]
abbrev aQL:LA:=[G 3 17 1,P 4 45 [s 3],P 5 44 [(c (.sl F .nil [])),s 4],M 2 5]
def g23:LFn:=⟨(Q (O aQM) (Q (O aQL) .ret)),6,[.slot 2]⟩
theorem aVJ:aD Tryz.prog 40=some g23:=Zz
abbrev aQK:LA:=[M 5 0,M 6 1,P 7 82 [s 5,s 6],A 8 (b .geq (s 7) (B 0)),M 4 8]
def g24:LFn:=⟨(Q (O aBH) (Q (O aQK) .ret)),9,[.slot 4]⟩
theorem aSj:aD Tryz.prog 41=some g24:=Zz
abbrev aQI:LA:=[Y 2 2 0,A 4 (m (c (.sl F .nil [])))]
abbrev aQH:LA:=[H 8 1 2,E 9 8,lP 10 9,lF 11 0]
abbrev aQG:LA:=[lA 12 11 10]
abbrev aQF:LA:=[M 13 11,lC 14 4 9 11,G 15 4 14,⟨S 7,N,x (.agg 4) (c (.agg [(.str ⟨#[]⟩),(I j 0),(I j 0),(.str ⟨#[]⟩)]))⟩,M 6 13,W 4 7 15]
abbrev aQE:LA:=[H 16 0 7,E 17 16,⟨S 18,N,v (b .eql (s 17) (c (.str ⟨#[]⟩)))⟩,M 19 18,lM 20 19 1,lO 21 19 0 7,lN 22 19 21,⟨S 23,S (19,false),k 41 [s 20,s 22]⟩,lH 24 19 23]
abbrev aQD:LA:=[M 25 5,M 26 6,⟨S 27,N,y F [s 26]⟩,⟨S 28,N,a F 8 (s 25) (s 27)⟩,M 5 28]
abbrev aQC:LA:=[lB 29 11,M 11 29]
abbrev aQJ:aU:=(Q (O aQG) (Q (C (s 12) Z (X 0)) (Q (K 1 (Q (O aQF) (Q (O aQE) (C (s 24) (O aQD) Z)))) (O aQC))))
abbrev aQB:LA:=[M 30 5,M 4 30]
def g25:LFn:=⟨(Q (O aQI) (Q (O aSe) (Q (Q (O aQH) (K 0 (R aQJ))) (Q (O aQB) .ret)))),31,[.slot 4]⟩
theorem aVI:aD Tryz.prog 42=some g25:=Zz
abbrev aG3:LA:=[Y 1 6 0,A 2 (m (c .aAW))]
abbrev aQA:LA:=[A 3 (.mkfn (.func 83) [] [s 1]),M 2 3]
def g26:LFn:=⟨(Q (O aG3) (Q (O aQA) .ret)),4,[.slot 2]⟩
theorem aVH:aD Tryz.prog 43=some g26:=Zz
abbrev aEp:LA:=[A 4 (m (c (.sl F .nil [])))]
abbrev aP8:LA:=[M 7 1,lP 8 7,lF 9 0]
abbrev aP7:LA:=[lA 10 9 8]
abbrev aP6:LA:=[lC 11 4 7 9,G 12 4 11,⟨S 6,N,x (.agg 4) (c (.agg [(.str ⟨#[]⟩),(I j 0),(I j 0),(.str ⟨#[]⟩)]))⟩,W 4 6 12]
abbrev aP5:LA:=[H 13 0 6,E 14 13,⟨S 15,N,v (b .neq (s 14) (c (.str ⟨#[]⟩)))⟩,M 16 15,lJ 17 16 0,lL 18 16 0 6,lK 19 16 18,⟨S 20,S (16,true),k 41 [s 17,s 19]⟩,T 21 16 (.not (s 20)),lI 22 16 21]
abbrev aP4:LA:=[M 23 0,H 24 0 6,E 25 24,⟨S 26,N,y F [s 25]⟩,⟨S 27,N,a F 16 (s 23) (s 26)⟩,M 0 27]
abbrev aP3:LA:=[lB 28 9,M 9 28]
abbrev aP9:aU:=(Q (O aP7) (Q (C (s 10) Z (X 0)) (Q (K 1 (Q (O aP6) (Q (O aP5) (C (s 22) (O aP4) Z)))) (O aP3))))
abbrev aP2:LA:=[M 29 0,M 4 29]
def g27:LFn:=⟨(Q (O aEp) (Q (Q (O aP8) (K 0 (R aP9))) (Q (O aP2) .ret))),30,[.slot 4]⟩
theorem aVG:aD Tryz.prog 44=some g27:=Zz
abbrev aP1:LA:=[Y 1 17 0,A 2 (m (c (.sl (.agg 4) .nil [])))]
abbrev aP0:LD:=[(H 3 1 1,[]),(H 4 1 3,[0]),(E 5 4,[0,1]),(H 6 4 1,[]),(G 7 6 6,[3]),(P 8 89 [s 7],[3,4]),(P 9 88 [s 8],[3,4,5]),(H 10 10 1,[]),(G 11 6 10,[7]),(P 12 89 [s 11],[3,4,5,6,7,8]),(P 13 88 [s 12],[3,4,5,6,7,8,9]),(⟨S 14,N,y F [s 5,s 9,s 13]⟩,Z11),(P 15 87 [s 14],Z12),(M 2 15,Z13)]
def g28:LFn:=⟨(Q (O aP1) (Q (D 14 aP0 aAe) .ret)),16,[.slot 2]⟩
theorem aVF:aD Tryz.prog 45=some g28:=Zz
abbrev aG2:LA:=[Y 1 3 0,lG 2]
abbrev aPy:LA:=[G 3 3 1,P 4 54 [s 3],A 5 (.not (s 4)),M 2 5]
def g29:LFn:=⟨(Q (O aG2) (Q (O aPy) .ret)),6,[.slot 2]⟩
theorem aVE:aD Tryz.prog 53=some g29:=Zz
abbrev aPx:LA:=[H 7 2 1,E 8 7,⟨S 9,N,v (b .eql (s 8) (c (.str ⟨#[]⟩)))⟩,M 10 9,lL 11 10 1 1,lK 12 10 11,⟨S 13,S (10,true),k 97 [s 12]⟩,lI 14 10 13,M 2 14]
abbrev aPw:LA:=[A 16 (b .eql (s 4) (B 2)),M 15 16]
abbrev aPv:LA:=[H 17 1 1,E 18 17,A 19 (b .eql (s 18) (B 0)),M 20 19,lL 21 20 2 1,lK 22 20 21,⟨S 23,S (20,true),k 98 [s 22]⟩,lI 24 20 23,M 2 24]
def g30:LFn:=⟨(Q (O aG2) (Q (Q (O aEr) (K 0 (Q (O aEq) (C (s 5) (Q (O aPx) .ret) (Q (O aPw) (C (s 15) (Q (O aPv) .ret) Z)))))) (Q (O aAt) .ret))),25,[.slot 2]⟩
theorem aSh:aD Tryz.prog 54=some g30:=Zz
abbrev aPu:LA:=[Y 2 7 0,⟨S 4,N,x (.agg 5) (c (.agg [(I j 0),(I j 0),(.sl F .nil []),(.sl F .nil []),(.sl F .nil [])]))⟩,⟨S 5,N,x (.agg 17) (c (.agg [(I j 0),(.str ⟨#[]⟩),(.sl (.agg 4) .nil []),(I j 0),(I j 0),(.str ⟨#[]⟩),(I j 0),(I j 0),(.str ⟨#[]⟩),(.sl (.agg 6) .nil []),(I j 0),(.str ⟨#[]⟩),(I j 0),(I j 0),(.str ⟨#[]⟩),(.sl (.agg 6) .nil []),(I j 0)]))⟩,A 6 (m (c .nilIface))]
abbrev aPt:LA:=[M 7 1,A 8 (b .lss (s 7) (B 0)),M 9 8,lM 10 9 1,lO 11 9 6 2,lN 12 9 11,U 13 9 (w (s 12)),U 14 9 (b .geq (s 10) (s 13)),lH 15 9 14]
abbrev aPs:LA:=[A 16 (.build [(I j 0),(I j 0),(.sl F .nil []),(.sl F .nil []),(.sl F .nil [])] []),⟨S 17,N,v (.build [(I j 0),(.str ⟨#[]⟩),(.sl (.agg 4) .nil []),(I j 0),(I j 0),(.str ⟨#[]⟩),(I j 0),(I j 0),(.str ⟨#[]⟩),(.sl (.agg 6) .nil []),(I j 0),(.str ⟨#[]⟩),(I j 0),(I j 0),(.str ⟨#[]⟩),(.sl (.agg 6) .nil []),(I j 0)] [])⟩,A 18 (.mkif 100 (B 1)),W 5 4 16,W 17 5 17,M 6 18]
abbrev aEE:LD:=[(H 19 6 2,[]),(E 20 19,[0]),(M 21 1,[]),(lC 22 5 20 21,Z3),(G 23 5 22,Z4),(H 24 0 2,[]),(H 25 4 24,[5]),(E 26 25,[5,6]),(H 27 6 2,[]),(E 28 27,[8]),(M 29 1,[]),(lC 30 5 28 29,[8,9,10]),(H 31 1 30,[8,9,10,11]),(E 32 31,[8,9,10,11,12]),(lC 33 17 26 32,[5,6,7,8,9,10,11,12,13]),(G 34 17 33,[5,6,7,8,9,10,11,12,13,14]),(W 5 4 23,Z5),(W 17 5 34,Z17),(A 6 (m (c .nilIface)),Z18)]
def g31:LFn:=⟨(Q (O aPu) (Q (Q (O aPt) (C (s 15) (Q (O aPs) .ret) Z)) (Q (D 20 aEE aAe) .ret))),35,[.cell 4 (.agg 5),.cell 5 (.agg 17),.slot 6]⟩
theorem aU4:aD Tryz.prog 56=some g31:=Zz
abbrev aPq:LA:=[A 4 (m (c .aAH)),A 5 (m (c .nilIface))]
abbrev aPp:LA:=[M 9 0,lP 10 9,M 11 1,lP 12 11,A 13 (b .neq (s 10) (s 12))]
abbrev aPo:LA:=[A 14 (.mkif 100 (B 6)),A 4 (m (c .aAH)),M 5 14]
abbrev aPn:LA:=[⟨S 15,N,.mp (.mk)⟩,M 6 15]
abbrev aPm:LA:=[M 16 0,lP 17 16,lF 18 0]
abbrev aG1:LA:=[lA 19 18 17]
abbrev aPl:LA:=[M 20 18,lE 21 16 18,E 22 21,M 7 20,M 8 22]
abbrev aPk:LA:=[M 23 6,M 24 8,M 25 1,M 26 7,lC 27 3 25 26,G 28 3 27,⟨N,N,.mp (.put F [.str] (s 23) (s 24) (s 28))⟩]
abbrev aPj:LA:=[lB 29 18,M 18 29]
abbrev aPr:aU:=(Q (O aG1) (Q (C (s 19) Z (X 0)) (Q (K 1 (Q (O aPl) (O aPk))) (O aPj))))
abbrev aPi:LA:=[M 30 6,M 4 30,A 5 (m (c .nilIface))]
def g32:LFn:=⟨(Q (O aPq) (Q (Q (O aPp) (C (s 13) (Q (O aPo) .ret) Z)) (Q (O aPn) (Q (Q (O aPm) (K 0 (R aPr))) (Q (O aPi) .ret))))),31,[.slot 4,.slot 5]⟩
theorem aU3:aD Tryz.prog 57=some g32:=Zz
abbrev aPg:LA:=[Y 3 2 0,A 6 (m (c .aAH)),lG 7]
abbrev aPf:LA:=[H 13 1 3,E 14 13,lP 15 14,M 16 1,lP 17 16,A 18 (b .neq (s 15) (s 17))]
abbrev aGv:LA:=[A 6 (m (c .aAH)),lG 7]
abbrev aPe:LA:=[M 19 2,P 20 100 [s 19],M 8 20]
abbrev aPd:LA:=[H 21 1 3,E 22 21,lP 23 22,lF 24 0]
abbrev aPc:LA:=[M 26 24,lC 27 4 22 24,G 28 4 27,⟨S 10,N,x (.agg 4) (c (.agg [(.str ⟨#[]⟩),(I j 0),(I j 0),(.str ⟨#[]⟩)]))⟩,M 9 26,W 4 10 28]
abbrev aPb:LA:=[H 29 1 10,G 30 3 29,⟨S 11,N,x (.agg 3) (c (.agg [(I j 0),(I j 0),(.str ⟨#[]⟩)]))⟩,W 3 11 30,A 12 (m Bb)]
abbrev aPa:LA:=[H 31 0 10,E 32 31,⟨S 33,N,v (b .neq (s 32) (c (.str ⟨#[]⟩)))⟩]
abbrev aPZ:LA:=[M 35 8,H 36 0 10,E 37 36,⟨S 38,N,v (.mget F [.str] (.agg [(I j 0),(I j 0),(.str ⟨#[]⟩)]) true (s 35) (s 37))⟩,M 34 38,lQ 39 34 0,lQ 40 34 1,W 3 11 39,M 12 40]
abbrev aG0:LA:=[M 42 12,A 43 (.not (s 42)),M 41 43]
abbrev aGz:LD:=[(M 44 8,[]),(H 45 0 10,[]),(E 46 45,[1]),(M 47 1,[]),(M 48 9,[]),(lC 49 3 47 48,[3,4]),(G 50 3 49,[3,4,5])]
abbrev aEo:LA:=[⟨N,N,.mp (.put F [.str] (s 44) (s 46) (s 50))⟩]
abbrev aGy:LD:=[(G 52 3 11,[]),(M 53 1,[]),(M 54 9,[]),(lC 55 3 53 54,[1,2]),(G 56 3 55,[1,2,3]),(A 57 (e true (.plain (.agg 3) [.int,.int,.str]) (s 52) (s 56)),Z5),(M 51 57,Z6)]
abbrev aGx:LA:=[lB 58 24,M 24 58]
abbrev aPh:aU:=(Q (O aG7) (Q (C (s 25) Z (X 0)) (Q (K 1 (Q (O aPc) (Q (O aPb) (Q (Q (O aPa) (C (s 33) (O aPZ) Z)) (K 2 (Q (O aG0) (C (s 41) (D 7 aGz aEo) (Q (D 7 aGy aAe) (C (s 51) (Q (O aGv) .ret) Z))))))))) (O aGx))))
abbrev aGw:LA:=[M 59 8,M 6 59,A 7 (m Bb)]
def g33:LFn:=⟨(Q (O aPg) (Q (Q (O aPf) (C (s 18) (Q (O aGv) .ret) Z)) (Q (O aPe) (Q (Q (O aPd) (K 0 (R aPh))) (Q (O aGw) .ret))))),60,[.slot 6,.slot 7]⟩
theorem aU2:aD Tryz.prog 58=some g33:=Zz
abbrev aPX:LA:=[Y 2 2 0,A 4 (m (c (.sl (.agg 3) .nil []))),A 5 (m (c .nilIface))]
abbrev aPW:LA:=[H 11 1 2,E 12 11,lP 13 12,A 14 (b .gtr (s 13) (B 6))]
abbrev aPV:LA:=[A 15 (.mkif 100 (B 6)),A 4 (m (c (.sl (.agg 3) .nil []))),M 5 15]
abbrev aPU:LA:=[H 16 1 2,E 17 16,lP 18 17,⟨S 19,N,.mkz (.agg 3) 32 (s 18) .top⟩,M 6 19]
abbrev aPT:LA:=[H 20 1 2,E 21 20,lP 22 21,lF 23 0]
abbrev aPS:LA:=[lA 24 23 22]
abbrev aPR:LA:=[lC 25 4 21 23,G 26 4 25,⟨S 8,N,x (.agg 4) (c (.agg [(.str ⟨#[]⟩),(I j 0),(I j 0),(.str ⟨#[]⟩)]))⟩,W 4 8 26]
abbrev aPQ:LA:=[G 28 4 8,M 29 1,P 30 62 [s 28,s 29],M 27 30,lQ 31 27 0,lQ 32 27 1,⟨S 9,N,x (.agg 3) (c (.agg [(I j 0),(I j 0),(.str ⟨#[]⟩)]))⟩,W 3 9 31,M 10 32]
abbrev aPP:LA:=[M 33 10,A 34 (e true (.iface true) (s 33) (c .nilIface))]
abbrev aPO:LA:=[M 35 10,A 4 (m (c (.sl (.agg 3) .nil []))),M 5 35]
abbrev aGu:LA:=[M 36 6,G 37 3 9,⟨S 38,N,y (.agg 3) [s 37]⟩,lS 39 3 32 36 38,M 6 39]
abbrev aGt:LA:=[lB 40 23,M 23 40]
abbrev aPY:aU:=(Q (O aPS) (Q (C (s 24) Z (X 0)) (Q (K 1 (Q (O aPR) (Q (O aPQ) (Q (Q (O aPP) (C (s 34) (Q (O aPO) .ret) Z)) (O aGu))))) (O aGt))))
abbrev aCx:LA:=[M 41 6,M 4 41,A 5 (m (c .nilIface))]
def g34:LFn:=⟨(Q (O aPX) (Q (Q (O aPW) (C (s 14) (Q (O aPV) .ret) Z)) (Q (O aPU) (Q (Q (O aPT) (K 0 (R aPY))) (Q (O aCx) .ret))))),42,[.slot 4,.slot 5]⟩
theorem aU1:aD Tryz.prog 59=some g34:=Zz
abbrev aPN:LA:=[Y 2 17 0,A 4 (m (c .aAH)),lG 5,A 6 (m (c .nilIface))]
abbrev aPM:LA:=[G 11 17 2,P 12 101 [s 11],A 13 (.not (s 12))]
abbrev aPL:LA:=[A 14 (.mkif 100 (B 2)),A 4 (m (c .aAH)),lG 5,M 6 14]
abbrev aPK:LD:=[(H 15 4 2,[]),(G 16 6 15,[0]),(M 17 1,[]),(P 18 102 [s 16,s 17],Z3),(H 19 10 2,[]),(G 20 6 19,[4]),(M 21 1,[]),(P 22 102 [s 20,s 21],Z7),(M 7 18,Z8),(M 8 22,Z9)]
abbrev aPJ:LA:=[H 24 3 2,E 25 24,A 26 (b .eql (s 25) (B 1)),M 27 26,lJ 28 27 7,⟨S 29,S (27,true),v (b .neq (s 28) (c (.str ⟨#[]⟩)))⟩,lI 30 27 29,M 23 30]
abbrev aPI:LA:=[M 31 1,M 32 7,H 33 10 2,G 34 6 33,P 35 103 [s 31,s 32,s 34],lQ 36 35 0,lQ 37 35 1,lQ 38 35 2,M 4 36,M 5 37,M 6 38]
abbrev aPH:LA:=[H 40 3 2,E 41 40,A 42 (b .eql (s 41) (B 1)),M 43 42,lJ 44 43 8,⟨S 45,S (43,true),v (b .neq (s 44) (c (.str ⟨#[]⟩)))⟩,lI 46 43 45,M 39 46]
abbrev aPG:LA:=[M 47 1,M 48 8,H 49 4 2,G 50 6 49,P 51 103 [s 47,s 48,s 50],lQ 52 51 0,lQ 53 51 1,lQ 54 51 2,M 4 52,M 5 53,M 6 54]
abbrev aPF:LA:=[G 56 17 2,M 57 1,P 58 104 [s 56,s 57],M 55 58,lQ 59 55 0,lQ 60 55 1,M 9 59,M 10 60]
abbrev aPE:LA:=[M 61 10,A 62 (e true (.iface true) (s 61) (c .nilIface)),M 63 62,lM 64 63 9,U 65 63 (.not (s 64)),lH 66 63 65]
abbrev aGs:LA:=[M 67 10,A 4 (m (c .aAH)),lG 5,M 6 67]
abbrev aGr:LA:=[M 68 1,P 69 100 [s 68],M 4 69,A 5 (m Bb),A 6 (m (c .nilIface))]
def g35:LFn:=⟨(Q (O aPN) (Q (Q (O aPM) (C (s 13) (Q (O aPL) .ret) Z)) (Q (D 10 aPK aAe) (Q (K 0 (Q (O aPJ) (C (s 23) (Q (O aPI) .ret) (Q (O aPH) (C (s 39) (Q (O aPG) .ret) Z))))) (Q (O aPF) (Q (Q (O aPE) (C (s 66) (Q (O aGs) .ret) Z)) (Q (O aGr) .ret))))))),70,[.slot 4,.slot 5,.slot 6]⟩
theorem aU0:aD Tryz.prog 60=some g35:=Zz
abbrev aPC:LA:=[A 4 (m (c (.sl (.agg 3) .nil [])))]
abbrev aPB:LA:=[M 8 0,lP 9 8,⟨S 10,N,.mkz (.agg 3) 32 (s 9) .top⟩,M 5 10]
abbrev aGq:LA:=[lE 15 11 13,E 16 15,M 7 16]
abbrev aPA:LA:=[M 17 5,M 18 1,M 19 7,⟨S 20,N,v (.mget F [.str] (.agg [(I j 0),(I j 0),(.str ⟨#[]⟩)]) false (s 18) (s 19))⟩,⟨S 21,N,y (.agg 3) [s 20]⟩,lS 22 3 32 17 21,M 5 22]
abbrev aO9:LA:=[lB 23 13,M 13 23]
abbrev aPD:aU:=(Q (O aEm) (Q (C (s 14) Z (X 0)) (Q (K 1 (Q (O aGq) (O aPA))) (O aO9))))
abbrev aO8:LA:=[M 24 5,M 4 24]
def g36:LFn:=⟨(Q (O aPC) (Q (O aPB) (Q (Q (O aGL) (K 0 (R aPD))) (Q (O aO8) .ret)))),25,[.slot 4]⟩
theorem aUz:aD Tryz.prog 61=some g36:=Zz
abbrev aO7:LA:=[Y 2 4 0,⟨S 4,N,x (.agg 3) (c (.agg [(I j 0),(I j 0),(.str ⟨#[]⟩)]))⟩,A 5 (m (c .nilIface))]
abbrev aO6:LA:=[H 8 0 2,E 9 8,⟨S 10,N,v (b .eql (s 9) (c (.str ⟨#[]⟩)))⟩]
abbrev aO5:LA:=[H 11 1 2,G 12 3 11,P 13 54 [s 12],A 14 (.not (s 13))]
abbrev aO4:LA:=[⟨S 15,N,v (.build [(I j 0),(I j 0),(.str ⟨#[]⟩)] [])⟩,A 16 (.mkif 100 (B 2)),W 3 4 15,M 5 16]
abbrev aO3:LA:=[H 17 1 2,G 18 3 17,W 3 4 18,A 5 (m (c .nilIface))]
abbrev aO2:LA:=[M 20 1,H 21 0 2,E 22 21,⟨S 23,N,v (.mget F [.str] (.agg [(I j 0),(I j 0),(.str ⟨#[]⟩)]) true (s 20) (s 22))⟩,M 19 23,lQ 24 19 0,lQ 25 19 1,⟨S 6,N,x (.agg 3) (c (.agg [(I j 0),(I j 0),(.str ⟨#[]⟩)]))⟩,W 3 6 24,M 7 25]
abbrev aO1:LA:=[M 26 7,A 27 (.not (s 26)),M 28 27,U 29 28 (l (.agg 3) (s 6)),⟨S 30,S (28,false),k 54 [s 29]⟩,U 31 28 (.not (s 30)),lH 32 28 31]
abbrev aO0:LA:=[⟨S 33,N,v (.build [(I j 0),(I j 0),(.str ⟨#[]⟩)] [])⟩,A 34 (.mkif 100 (B 13)),W 3 4 33,M 5 34]
abbrev aOz:LA:=[G 35 3 6,W 3 4 35,A 5 (m (c .nilIface))]
def g37:LFn:=⟨(Q (O aO7) (Q (Q (O aO6) (C (s 10) (Q (Q (O aO5) (C (s 14) (Q (O aO4) .ret) Z)) (Q (O aO3) .ret)) Z)) (Q (O aO2) (Q (Q (O aO1) (C (s 32) (Q (O aO0) .ret) Z)) (Q (O aOz) .ret))))),36,[.cell 4 (.agg 3),.slot 5]⟩
theorem aUy:aD Tryz.prog 62=some g37:=Zz
abbrev aOu:LA:=[A 4 (m (c (.sl (.agg 3) .nil []))),A 5 (m (c .nilIface))]
abbrev aOt:LA:=[M 11 1,lP 12 11,lF 13 0]
abbrev aOs:LA:=[M 17 7,A 18 (b .lss (s 17) (B 0)),M 19 18,lM 20 19 7,lM 21 19 0,U 22 19 (w (s 21)),U 23 19 (b .geq (s 20) (s 22)),lH 24 19 23]
abbrev aOr:LA:=[A 25 (.mkif 100 (B 1)),A 4 (m (c (.sl (.agg 3) .nil []))),M 5 25]
abbrev aOq:LA:=[lB 26 13,M 13 26]
abbrev aOw:aU:=(Q (O aEm) (Q (C (s 14) Z (X 0)) (Q (K 1 (Q (O aGq) (Q (O aOs) (C (s 24) (Q (O aOr) .ret) Z)))) (O aOq))))
abbrev aOp:LA:=[M 27 1,lP 28 27,A 29 (b .gtr (s 28) (B 6))]
abbrev aOo:LA:=[A 30 (.mkif 100 (B 6)),A 4 (m (c (.sl (.agg 3) .nil []))),M 5 30]
abbrev aOn:LA:=[M 31 1,lP 32 31,⟨S 33,N,.mkz (.agg 3) 32 (s 32) (.agg [(I j 0),(I j 0),(.str ⟨#[]⟩)])⟩,M 8 33]
abbrev aGp:LA:=[M 34 1,lP 35 34,lF 36 0]
abbrev aGo:LA:=[lA 37 36 35]
abbrev aGn:LA:=[M 38 36,lE 39 34 36,E 40 39,M 9 38,M 10 40]
abbrev aGm:LA:=[M 41 8,M 42 9,M 43 0,M 44 10,lC 45 3 43 44,G 46 3 45,lC 47 3 41 42,W 3 47 46]
abbrev aGl:LA:=[lB 48 36,M 36 48]
abbrev aOv:aU:=(Q (O aGo) (Q (C (s 37) Z (X 2)) (Q (K 3 (Q (O aGn) (O aGm))) (O aGl))))
abbrev aGk:LA:=[M 49 8,M 4 49,A 5 (m (c .nilIface))]
def g38:LFn:=⟨(Q (O aOu) (Q (Q (O aOt) (K 0 (R aOw))) (Q (Q (O aOp) (C (s 29) (Q (O aOo) .ret) Z)) (Q (O aOn) (Q (Q (O aGp) (K 2 (R aOv))) (Q (O aGk) .ret)))))),50,[.slot 4,.slot 5]⟩
theorem aUx:aD Tryz.prog 63=some g38:=Zz
abbrev aEn:LA:=[lF 6 0]
abbrev aOl:LA:=[M 15 13,lC 16 3 11 13,G 17 3 16,⟨S 8,N,x (.agg 3) (c (.agg [(I j 0),(I j 0),(.str ⟨#[]⟩)]))⟩,M 7 15,W 3 8 17]
abbrev aOk:LA:=[M 18 7,M 19 1,lP 20 19,A 21 (b .geq (s 18) (s 20))]
abbrev aOj:LA:=[lF 6 1]
abbrev aOi:LA:=[M 22 1,M 23 7,lC 24 3 22 23,G 25 3 24,⟨S 9,N,x (.agg 3) (c (.agg [(I j 0),(I j 0),(.str ⟨#[]⟩)]))⟩,W 3 9 25]
abbrev aOh:LA:=[M 26 2,G 27 3 8,G 28 3 9,⟨S 29,N,.callv (s 26) [s 27,s 28]⟩,M 10 29]
abbrev aOg:LA:=[M 30 10,A 31 (b .neq (s 30) (B 0))]
abbrev aOf:LA:=[M 32 10,M 6 32]
abbrev aGj:LA:=[lB 33 13,M 13 33]
abbrev aOm:aU:=(Q (O aEm) (Q (C (s 14) Z (X 0)) (Q (K 1 (Q (O aOl) (Q (Q (O aOk) (C (s 21) (Q (O aOj) .ret) Z)) (Q (O aOi) (Q (O aOh) (Q (O aOg) (C (s 31) (Q (O aOf) .ret) Z))))))) (O aGj))))
abbrev aGi:LA:=[M 34 0,lP 35 34,M 36 1,lP 37 36,lA 38 35 37]
abbrev aGh:LA:=[A 6 (m (B (-1)))]
def g39:LFn:=⟨(Q (O aEn) (Q (Q (O aGL) (K 0 (R aOm))) (Q (Q (O aGi) (C (s 38) (Q (O aGh) .ret) Z)) (Q (O aEn) .ret)))),39,[.slot 6]⟩
theorem aUw:aD Tryz.prog 64=some g39:=Zz
abbrev aOe:LA:=[Y 2 3 0,Y 3 3 1,lF 4 0]
abbrev aOd:LD:=[(H 5 0 2,[]),(E 6 5,[0]),(H 7 0 3,[]),(E 8 7,[2]),(P 9 106 [s 6,s 8],Z4),(H 10 1 2,[]),(E 11 10,[5]),(H 12 1 3,[]),(E 13 12,[7]),(P 14 107 [s 11,s 13],Z9),(H 15 2 2,[]),(E 16 15,[10]),(H 17 2 3,[]),(E 18 17,[12]),(P 19 108 [s 16,s 18],Z14),(⟨S 20,N,y F [s 9,s 14,s 19]⟩,Z15),(P 21 105 [s 20],Z16),(M 4 21,Z17)]
def g40:LFn:=⟨(Q (O aOe) (Q (D 18 aOd aAe) .ret)),22,[.slot 4]⟩
theorem aUv:aD Tryz.prog 65=some g40:=Zz
abbrev aOP:LA:=[⟨S 4,N,x (.agg 6) (c (.agg [(.str ⟨#[]⟩),(.sl (.agg 4) .nil []),(I j 0),(I j 0),(.sl (.agg 17) .nil []),(I j 0)]))⟩,lF 5 0,A 6 (m (c .nilIface))]
abbrev aOO:LA:=[⟨S 7,N,x (.agg 6) (c (.agg [(.str ⟨#[]⟩),(.sl (.agg 4) .nil []),(I j 0),(I j 0),(.sl (.agg 17) .nil []),(I j 0)]))⟩]
abbrev aON:LA:=[M 14 0,P 15 115 [s 14],M 13 15,lQ 16 13 0,lQ 17 13 1,lQ 18 13 2,M 8 16,M 9 17,M 10 18]
abbrev aOM:LA:=[M 19 10,A 20 (e true (.iface true) (s 19) (c .nilIface))]
abbrev aOL:LA:=[G 21 6 7,M 22 9,M 23 10,W 6 4 21,M 5 22,M 6 23]
abbrev aOK:LA:=[M 24 8,M 25 0,A 26 (.slen (s 25)),A 27 (.build [(.sl (.agg 3) .nil []),(I j 0),(I j 0),(I j 0),(I j 0),(I j 0)] [(0,F,(s 24)),(2,F,(s 26))]),Y 28 6 27,M 11 28]
abbrev aOJ:LA:=[M 29 1,M 30 11,⟨S 31,N,.callv (s 29) [s 30]⟩,⟨S 12,N,x (.agg 6) (c (.agg [(.str ⟨#[]⟩),(.sl (.agg 4) .nil []),(I j 0),(I j 0),(.sl (.agg 17) .nil []),(I j 0)]))⟩,W 6 12 31]
abbrev aOI:LD:=[(M 32 11,[]),(lR 33 32,[0]),(H 34 1 33,[0,1]),(E 35 34,Z3),(M 36 11,[]),(lR 37 36,[4]),(H 38 0 37,[4,5]),(E 39 38,[4,5,6]),(lP 40 39,[4,5,6,7]),(lA 41 35 40,Z9)]
abbrev aOH:LA:=[M 42 11,M 43 11,P 44 117 [s 43],P 45 116 [s 42,s 44,(B 2)]]
abbrev aOG:LA:=[M 46 11,lR 47 46,H 48 5 47,E 49 48,A 50 (b .neq (s 49) (B 0))]
abbrev aGf:LD:=[(G 51 6 7,[]),(M 52 11,[]),(lR 53 52,[1]),(H 54 4 53,[1,2]),(E 55 54,[1,2,3]),(M 56 11,[]),(lR 57 56,[5]),(H 58 5 57,[5,6]),(E 59 58,[5,6,7]),(A 60 (.mkif 100 (s 59)),[5,6,7,8]),(W 6 4 51,[0]),(M 5 55,[0,1,2,3,4,10]),(M 6 60,Z12)]
abbrev aGe:LA:=[G 61 6 12,W 6 4 61,lF 5 0,A 6 (m (c .nilIface))]
def g41:LFn:=⟨(Q (O aOP) (Q (O aOO) (Q (O aON) (Q (Q (O aOM) (C (s 20) (Q (O aOL) .ret) Z)) (Q (O aOK) (Q (O aOJ) (Q (Q (D 10 aOI aAe) (C (s 41) (O aOH) Z)) (Q (Q (O aOG) (C (s 50) (Q (D 14 aGf aAe) .ret) Z)) (Q (O aGe) .ret))))))))),62,[.cell 4 (.agg 6),.slot 5,.slot 6]⟩
theorem aUu:aD Tryz.prog 74=some g41:=Zz
abbrev aOE:LA:=[⟨S 2,N,x (.agg 6) (c (.agg [(.str ⟨#[]⟩),(.sl (.agg 4) .nil []),(I j 0),(I j 0),(.sl (.agg 17) .nil []),(I j 0)]))⟩]
abbrev aOD:LA:=[M 5 0,P 6 117 [s 5],⟨S 7,N,v (.build [(.str ⟨#[]⟩),(.sl (.agg 4) .nil []),(I j 0),(I j 0),(.sl (.agg 17) .nil []),(I j 0)] [(5,F,(s 6))])⟩,⟨S 3,N,x (.agg 6) (c (.agg [(.str ⟨#[]⟩),(.sl (.agg 4) .nil []),(I j 0),(I j 0),(.sl (.agg 17) .nil []),(I j 0)]))⟩,W 6 3 7]
abbrev aOC:LA:=[M 8 0,P 9 118 [s 8,s 3]]
abbrev aOB:LA:=[M 10 0,⟨S 11,N,k 119 [s 10,(c (.str ⟨#[58,45]⟩))]⟩]
abbrev aOA:LA:=[M 12 4,M 13 12,lJ 14 13 0,T 15 13 (n (s 14)),lL 16 13 5 15,lK 17 13 16,T 18 13 (b .eql (s 17) (B 0)),lI 19 13 18]
abbrev aN9:LA:=[H 22 4 3,E 23 22,lP 24 23,A 25 (b .geq (s 24) (B 8))]
abbrev aN8:LA:=[M 26 0,M 27 0,P 28 117 [s 27],P 29 116 [s 26,s 28,(B 3)]]
abbrev aN7:LD:=[(H 30 4 3,[]),(E 31 30,[0]),(M 32 0,[]),(P 33 120 [s 32],[2]),(⟨S 34,N,y (.agg 17) [s 33]⟩,[2,3]),(lS 35 17 224 31 34,Z5),(H 36 4 3,Z6)]
abbrev aGb:LA:=[⟨N,N,t F (s 36) (s 35)⟩]
abbrev aN6:LA:=[M 20 0,⟨S 21,N,k 119 [s 20,(c (.str ⟨#[44]⟩))]⟩,M 4 21]
abbrev aOF:aU:=(Q (Q (O aOA) (C (s 19) Z (X 0))) (Q (K 1 (Q (Q (O aN9) (C (s 25) (Q (O aN8) (X 0)) Z)) (D 7 aN7 aGb))) (O aN6)))
abbrev aGd:LA:=[M 37 0,⟨S 38,N,k 121 [s 37,(c (.str ⟨#[46]⟩))]⟩]
abbrev aGc:LA:=[G 39 6 3,W 6 2 39]
def g42:LFn:=⟨(Q (O aOE) (Q (O aOD) (Q (O aOC) (Q (Q (O aOB) (C (s 11) (Q (O aFu) (K 0 (R aOF))) Z)) (Q (O aGd) (Q (O aGc) .ret)))))),40,[.cell 2 (.agg 6)]⟩
theorem aUt:aD Tryz.prog 75=some g42:=Zz
abbrev aN5:LA:=[Y 1 2 0,lG 2]
abbrev aN4:LA:=[H 3 0 1,E 4 3,P 5 122 [s 4],M 6 5,lL 7 6 1 1,lK 8 6 7,T 9 6 (w (s 8)),T 10 6 (b .leq (s 9) (B 6)),lI 11 6 10,M 12 11,lL 13 12 1 1,lK 14 12 13,⟨S 15,S (12,true),k 123 [s 14,(c (.fn (.func 124) [] []))]⟩,lI 16 12 15,M 2 16]
def g43:LFn:=⟨(Q (O aN5) (Q (O aN4) .ret)),17,[.slot 2]⟩
theorem aUs:aD Tryz.prog 76=some g43:=Zz
abbrev aN3:LA:=[H 3 2 1,E 4 3,A 5 (b .eql (s 4) (B 0))]
abbrev aN2:LA:=[H 6 3 1,E 7 6,A 8 (b .eql (s 7) (B 0)),M 2 8]
abbrev aN1:LA:=[H 9 2 1,E 10 9,A 11 (b .lss (s 10) (B 0)),M 12 11,lO 13 12 2 1,lN 14 12 13,U 15 12 (b .gtr (s 14) (B 4)),lH 16 12 15,M 17 16,lO 18 17 3 1,lN 19 17 18,U 20 17 (b .lss (s 19) (B 0)),lH 21 17 20,M 22 21,lO 23 22 3 1,lN 24 22 23,lO 25 22 0 1,lO 26 22 1 25,lN 27 22 26,U 28 22 (w (s 27)),U 29 22 (b .geq (s 24) (s 28)),lH 30 22 29]
abbrev aN0:LA:=[H 31 0 1,H 32 1 31,E 33 32,H 34 3 1,E 35 34,lC 36 4 33 35,H 37 0 36,E 38 37,⟨S 39,N,v (b .neq (s 38) (c (.str ⟨#[]⟩)))⟩,M 2 39]
def g44:LFn:=⟨(Q (O aDk) (Q (Q (O aN3) (C (s 5) (Q (O aN2) .ret) Z)) (Q (Q (O aN1) (C (s 30) (Q (O aAt) .ret) Z)) (Q (O aN0) .ret)))),40,[.slot 2]⟩
theorem aUr:aD Tryz.prog 77=some g44:=Zz
abbrev aGa:LA:=[⟨S 3,N,x F (s 1)⟩,lG 4]
abbrev aNz:LA:=[M 5 0,A 6 (.mkfn (.func 126) [] [s 3]),P 7 125 [s 5,s 6],A 8 (.not (s 7)),M 4 8]
def g45:LFn:=⟨(Q (O aGa) (Q (O aNz) .ret)),9,[.slot 4]⟩
theorem aUq:aD Tryz.prog 78=some g45:=Zz
abbrev aGZ:LA:=[Y 1 17 0,lG 2]
abbrev aNy:LA:=[A 7 (b .eql (s 4) (B 2)),M 5 7]
abbrev aNx:LA:=[H 8 1 1,G 9 2 8,P 10 76 [s 9],M 11 10,lL 12 11 3 1,lK 13 11 12,T 14 11 (b .eql (s 13) (B 0)),lI 15 11 14,M 16 15,lL 17 16 4 1,T 18 16 (l (.agg 6) (s 17)),⟨S 19,S (16,true),k 127 [s 18]⟩,lI 20 16 19,M 21 20,lL 22 21 10 1,T 23 21 (l (.agg 6) (s 22)),⟨S 24,S (21,true),k 127 [s 23]⟩,lI 25 21 24,M 2 25]
abbrev aNw:LA:=[A 27 (b .eql (s 4) (B 3)),M 26 27]
abbrev aNv:LA:=[H 28 1 1,H 29 0 28,E 30 29,⟨S 31,N,v (b .eql (s 30) (c (.str ⟨#[]⟩)))⟩,M 32 31,lL 33 32 1 1,lL 34 32 1 33,lK 35 32 34,T 36 32 (w (s 35)),T 37 32 (b .eql (s 36) (B 0)),lI 38 32 37,M 39 38,lL 40 39 3 1,lK 41 39 40,T 42 39 (b .geq (s 41) (B 1)),lI 43 39 42,M 44 43,lL 45 44 3 1,lK 46 44 45,T 47 44 (b .leq (s 46) (B 6)),lI 48 44 47,M 49 48,lL 50 49 4 1,T 51 49 (l (.agg 6) (s 50)),⟨S 52,S (49,true),k 128 [s 51]⟩,lI 53 49 52,M 54 53,lL 55 54 10 1,T 56 54 (l (.agg 6) (s 55)),⟨S 57,S (54,true),k 128 [s 56]⟩,lI 58 54 57,M 2 58]
def g46:LFn:=⟨(Q (O aGZ) (Q (Q (O aEr) (K 0 (Q (Q (O aEq) (C (s 5) Z (O aNy))) (C (s 5) (Q (O aNx) .ret) (Q (O aNw) (C (s 26) (Q (O aNv) .ret) Z)))))) (Q (O aAt) .ret))),59,[.slot 2]⟩
theorem aUp:aD Tryz.prog 79=some g46:=Zz
abbrev aNu:LA:=[Y 3 6 0,⟨S 4,N,x F (s 1)⟩,⟨S 5,N,x F (s 2)⟩,A 6 (m (c (.sl F .nil [])))]
abbrev aNt:LA:=[G 7 6 3,P 8 12 [s 7],A 9 (.mkfn (.func 130) [] [s 4,s 5]),P 10 129 [s 8,s 9],M 6 10]
def g47:LFn:=⟨(Q (O aNu) (Q (O aNt) .ret)),11,[.slot 6]⟩
theorem aUo:aD Tryz.prog 80=some g47:=Zz
abbrev aNp:LA:=[Y 1 6 0,A 2 (m (c .aAH))]
abbrev aGY:LA:=[⟨S 8,N,.mp (.mk)⟩,M 3 8]
abbrev aGS:LA:=[H 9 4 1,E 10 9,lP 11 10,lF 12 0]
abbrev aGR:LA:=[lA 13 12 11]
abbrev aNo:LA:=[lC 14 17 10 12,G 15 17 14,⟨S 5,N,x (.agg 17) (c (.agg [(I j 0),(.str ⟨#[]⟩),(.sl (.agg 4) .nil []),(I j 0),(I j 0),(.str ⟨#[]⟩),(I j 0),(I j 0),(.str ⟨#[]⟩),(.sl (.agg 6) .nil []),(I j 0),(.str ⟨#[]⟩),(I j 0),(I j 0),(.str ⟨#[]⟩),(.sl (.agg 6) .nil []),(I j 0)]))⟩,W 17 5 15]
abbrev aNn:LA:=[H 16 0 5,E 17 16,A 18 (b .eql (s 17) (B 1))]
abbrev aNm:LA:=[M 19 3,G 20 17 5,P 21 40 [s 20],P 22 86 [s 19,s 21]]
abbrev aNl:LA:=[lB 23 12,M 12 23]
abbrev aNs:aU:=(Q (O aGR) (Q (C (s 13) Z (X 0)) (Q (K 1 (Q (O aNo) (Q (O aNn) (C (s 18) (O aNm) Z)))) (O aNl))))
abbrev aNk:LA:=[H 24 4 1,E 25 24,lP 26 25,lF 27 0]
abbrev aNj:LA:=[lA 28 27 26]
abbrev aGX:LA:=[lC 29 17 25 27,G 30 17 29,⟨S 7,N,x (.agg 17) (c (.agg [(I j 0),(.str ⟨#[]⟩),(.sl (.agg 4) .nil []),(I j 0),(I j 0),(.str ⟨#[]⟩),(I j 0),(I j 0),(.str ⟨#[]⟩),(.sl (.agg 6) .nil []),(I j 0),(.str ⟨#[]⟩),(I j 0),(I j 0),(.str ⟨#[]⟩),(.sl (.agg 6) .nil []),(I j 0)]))⟩,W 17 7 30]
abbrev aGW:LA:=[M 31 3,G 32 17 7,P 33 131 [s 31,s 32]]
abbrev aGV:LA:=[M 34 3,G 35 17 7,P 36 40 [s 35],P 37 86 [s 34,s 36]]
abbrev aGU:LA:=[lB 38 27,M 27 38]
abbrev aNr:aU:=(Q (O aNj) (Q (C (s 28) Z (X 4)) (Q (K 5 (Q (O aGX) (Q (O aGW) (C (s 33) (Q (O aGV) (X 3)) Z)))) (O aGU))))
abbrev aGT:LA:=[M 39 3,M 2 39]
abbrev aNq:aU:=(K 3 (Q (Q (O aNk) (K 4 (R aNr))) (Q (O aGT) .ret)))
def g48:LFn:=⟨(Q (O aNp) (Q (O aGY) (Q (Q (O aGS) (K 0 (R aNs))) (Q Z (K 2 (R aNq)))))),40,[.slot 2]⟩
theorem aUn:aD Tryz.prog 81=some g48:=Zz
abbrev aNh:LA:=[M 6 0,lP 7 6,lF 8 0]
abbrev aGQ:LA:=[lA 9 8 7]
abbrev aNg:LA:=[M 10 8,M 5 10]
abbrev aNf:LA:=[M 11 1,M 12 0,M 13 5,lE 14 12 13,E 15 14,A 16 (b .eql (s 11) (s 15))]
abbrev aNe:LA:=[M 17 5,M 4 17]
abbrev aNd:LA:=[lB 18 8,M 8 18]
abbrev aNi:aU:=(Q (O aGQ) (Q (C (s 9) Z (X 0)) (Q (K 1 (Q (O aNg) (Q (O aNf) (C (s 16) (Q (O aNe) .ret) Z)))) (O aNd))))
def g49:LFn:=⟨(Q (O aBX) (Q (Q (O aNh) (K 0 (R aNi))) (Q (O aED) .ret))),19,[.slot 4]⟩
theorem aPz:aD Tryz.prog 82=some g49:=Zz
abbrev aNa:LA:=[M 14 12,M 5 14]
abbrev aNZ:LA:=[M 15 4,M 16 5,⟨S 17,N,y F [s 16]⟩,⟨S 18,N,a F 8 (s 15) (s 17)⟩,M 4 18]
abbrev aNY:LA:=[lB 19 12,M 12 19]
abbrev aNc:aU:=(Q (O aGR) (Q (C (s 13) Z (X 0)) (Q (K 1 (Q (O aNa) (O aNZ))) (O aNY))))
abbrev aNX:LA:=[M 20 3,G 21 6 1,M 22 4,P 23 84 [s 20,s 21,s 22],M 6 23]
abbrev aNW:LA:=[M 24 6,A 25 (b .lss (s 24) (B 0))]
abbrev aNV:LA:=[M 26 4,M 27 6,lE 28 26 27,E 29 28,M 7 29]
abbrev aGP:LA:=[M 30 4,M 31 6,M 32 6,lB 33 32,P 34 85 [s 30,s 31,s 33],M 4 34]
abbrev aGO:LA:=[M 35 3,H 36 4 1,E 37 36,M 38 7,lC 39 17 37 38,G 40 17 39,P 41 40 [s 40],P 42 86 [s 35,s 41]]
abbrev aGN:LA:=[M 43 0,M 44 7,G 45 6 1,M 46 3,P 47 80 [s 45,s 46,Bb],⟨S 48,N,.callv (s 43) [s 44,s 47]⟩,A 49 (.not (s 48))]
abbrev aNb:aU:=(K 3 (Q (O aNX) (Q (Q (O aNW) (C (s 25) .ret Z)) (Q (O aNV) (Q (O aGP) (Q (O aGO) (Q (O aGN) (C (s 49) .ret Z))))))))
def g50:LFn:=⟨(Q (O aGY) (Q (O aEp) (Q (Q (O aGS) (K 0 (R aNc))) (K 2 (R aNb))))),50,[]⟩
theorem aUi:aD Tryz.prog 83=some g50:=Zz
abbrev aNU:LA:=[⟨S 3,N,x F (s 0)⟩,Y 4 6 1,lF 6 0]
abbrev aNT:LA:=[M 8 2,A 9 (.mkfn (.func 133) [] [s 3,s 4]),P 10 132 [s 8,s 9],M 7 10]
abbrev aGM:LA:=[M 11 7,A 12 (b .geq (s 11) (B 0))]
abbrev aNS:LA:=[M 13 7,M 6 13]
abbrev aNR:LA:=[M 14 2,A 15 (.mkfn (.func 135) [] [s 4]),P 16 132 [s 14,s 15],M 6 16]
def g51:LFn:=⟨(Q (O aNU) (Q (Q (O aNT) (Q (O aGM) (C (s 12) (Q (O aNS) .ret) Z))) (Q (O aNR) .ret))),17,[.slot 6]⟩
theorem aUh:aD Tryz.prog 84=some g51:=Zz
abbrev aNP:LA:=[M 6 1,lP 7 6,lF 8 0]
abbrev aNO:LA:=[lE 10 6 8,E 11 10,M 5 11]
abbrev aNN:LA:=[M 12 0,M 13 5,A 14 (.mget F [.str] (I j 0) false (s 12) (s 13)),lB 15 14,⟨N,N,.mp (.put F [.str] (s 12) (s 13) (s 15))⟩]
abbrev aNM:LA:=[lB 16 8,M 8 16]
abbrev aNQ:aU:=(Q (O aGQ) (Q (C (s 9) Z (X 0)) (Q (K 1 (Q (O aNO) (O aNN))) (O aNM))))
def g52:LFn:=⟨(Q (O aNP) (K 0 (R aNQ))),17,[]⟩
theorem aUg:aD Tryz.prog 86=some g52:=Zz
abbrev aNL:LA:=[A 3 (.mkfn (.func 138) [] [s 1]),M 2 3]
def g53:LFn:=⟨(Q (O aG3) (Q (O aNL) .ret)),4,[.slot 2]⟩
theorem aUf:aD Tryz.prog 89=some g53:=Zz
abbrev aNH:LA:=[M 3 0,A 4 (b .geq (s 3) (B (-2147483647))),M 5 4,lJ 6 5 0,T 7 5 (b .leq (s 6) (B 2147483647)),lI 8 5 7,M 2 8]
def g54:LFn:=⟨(Q (O aAt) (Q (O aNH) .ret)),9,[.slot 2]⟩
theorem aSg:aD Tryz.prog 97=some g54:=Zz
abbrev aNG:LA:=[A 3 (m (c (.fn (.func 147) [] [])))]
abbrev aNF:LA:=[M 4 0,⟨S 5,N,v (b .neq (s 4) (c (.str ⟨#[]⟩)))⟩,M 6 5,lJ 7 6 0,T 8 6 (.slen (s 7)),T 9 6 (b .leq (s 8) (B 32)),lI 10 6 9,M 11 10,lJ 12 11 0,T 13 11 (.sidx .none (s 12) (B 0)),⟨S 14,S (11,true),k 148 [s 13]⟩,lI 15 11 14,M 16 15,lJ 17 16 0,lJ 18 16 3,⟨S 19,S (16,true),k 149 [s 17,s 18]⟩,T 20 16 (.not (s 19)),lI 21 16 20,M 2 21]
def g55:LFn:=⟨(Q (O aAt) (Q (O aNG) (Q (O aNF) .ret))),22,[.slot 2]⟩
theorem aSf:aD Tryz.prog 98=some g55:=Zz
abbrev aNE:LA:=[A 2 (m (c .aAH))]
abbrev aND:LA:=[⟨S 4,N,.mp (.mk)⟩,M 3 4]
abbrev aNC:LA:=[M 5 3,M 6 0,P 7 150 [s 5,s 6]]
abbrev aNB:LA:=[M 8 3,M 2 8]
def g56:LFn:=⟨(Q (O aNE) (Q (O aND) (Q (O aNC) (Q (O aNB) .ret)))),9,[.slot 2]⟩
theorem aUe:aD Tryz.prog 100=some g56:=Zz
abbrev aNA:LA:=[H 3 0 1,E 4 3,A 5 (b .eql (s 4) (B 3)),M 6 5,T 7 6 (l (.agg 17) (s 1)),⟨S 8,S (6,true),k 79 [s 7]⟩,lI 9 6 8,M 2 9]
def g57:LFn:=⟨(Q (O aGZ) (Q (O aNA) .ret)),10,[.slot 2]⟩
theorem aUd:aD Tryz.prog 101=some g57:=Zz
abbrev aM9:LA:=[Y 2 6 0,⟨S 4,N,v (m (c (.str ⟨#[]⟩)))⟩]
abbrev aM8:LA:=[M 8 1,H 9 1 2,H 10 0 9,E 11 10,⟨S 12,N,v (.mget F [.str] (.agg [(I j 0),(I j 0),(.str ⟨#[]⟩)]) true (s 8) (s 11))⟩,M 7 12,lQ 13 7 0,lQ 14 7 1,⟨S 5,N,x (.agg 3) (c (.agg [(I j 0),(I j 0),(.str ⟨#[]⟩)]))⟩,W 3 5 13,M 6 14]
abbrev aM7:LA:=[H 15 0 2,E 16 15,A 17 (b .neq (s 16) (B 0)),M 18 17,lM 19 18 6,lH 20 18 19]
abbrev aEl:LA:=[⟨S 4,N,v (m (c (.str ⟨#[]⟩)))⟩]
abbrev aM6:LA:=[H 21 1 2,H 22 0 21,E 23 22,M 4 23]
def g58:LFn:=⟨(Q (O aM9) (Q (Q (O aM8) (Q (O aM7) (C (s 20) (Q (O aEl) .ret) Z))) (Q (O aM6) .ret))),24,[.slot 4]⟩
theorem aUc:aD Tryz.prog 102=some g58:=Zz
abbrev aMA:LA:=[Y 5 6 2,A 6 (m (c .aAH)),lG 7,A 8 (m (c .nilIface))]
abbrev aL9:LA:=[G 13 6 5,M 14 0,P 15 151 [s 13,s 14],M 12 15,lQ 16 12 0,lQ 17 12 1,⟨S 9,N,x (.agg 3) (c (.agg [(I j 0),(I j 0),(.str ⟨#[]⟩)]))⟩,W 3 9 16,M 10 17]
abbrev aL8:LA:=[M 18 10,A 19 (e true (.iface true) (s 18) (c .nilIface))]
abbrev aL7:LA:=[M 20 10,A 6 (m (c .aAH)),lG 7,M 8 20]
abbrev aL6:LA:=[M 21 0,P 22 100 [s 21],M 11 22]
abbrev aL5:LA:=[M 23 11,M 24 1,G 25 3 9,⟨N,N,.mp (.put F [.str] (s 23) (s 24) (s 25))⟩]
abbrev aL4:LA:=[M 26 11,M 6 26,A 7 (m Bb),A 8 (m (c .nilIface))]
def g59:LFn:=⟨(Q (O aMA) (Q (O aL9) (Q (Q (O aL8) (C (s 19) (Q (O aL7) .ret) Z)) (Q (O aL6) (Q (O aL5) (Q (O aL4) .ret)))))),27,[.slot 6,.slot 7,.slot 8]⟩
theorem aUb:aD Tryz.prog 103=some g59:=Zz
abbrev aL2:LA:=[Y 2 17 0,lG 4,A 5 (m (c .nilIface))]
abbrev aL1:LA:=[G 9 17 2,P 10 101 [s 9],A 11 (.not (s 10))]
abbrev aL0:LA:=[A 12 (.mkif 100 (B 2)),lG 4,M 5 12]
abbrev aLz:LA:=[H 14 4 2,G 15 6 14,M 16 1,P 17 151 [s 15,s 16],M 13 17,lQ 18 13 0,lQ 19 13 1,⟨S 6,N,x (.agg 3) (c (.agg [(I j 0),(I j 0),(.str ⟨#[]⟩)]))⟩,W 3 6 18,M 7 19]
abbrev aLy:LA:=[M 20 7,A 21 (e true (.iface true) (s 20) (c .nilIface))]
abbrev aLx:LA:=[M 22 7,lG 4,M 5 22]
abbrev aLw:LA:=[H 24 10 2,G 25 6 24,M 26 1,P 27 151 [s 25,s 26],M 23 27,lQ 28 23 0,lQ 29 23 1,⟨S 8,N,x (.agg 3) (c (.agg [(I j 0),(I j 0),(.str ⟨#[]⟩)]))⟩,W 3 8 28,M 7 29]
abbrev aLv:LA:=[M 30 7,A 31 (e true (.iface true) (s 30) (c .nilIface))]
abbrev aLu:LA:=[M 32 7,lG 4,M 5 32]
abbrev aLt:LA:=[H 33 3 2,E 34 33,G 35 3 6,G 36 3 8,P 37 152 [s 34,s 35,s 36],lQ 38 37 0,lQ 39 37 1,M 4 38,M 5 39]
def g60:LFn:=⟨(Q (O aL2) (Q (Q (O aL1) (C (s 11) (Q (O aL0) .ret) Z)) (Q (O aLz) (Q (Q (O aLy) (C (s 21) (Q (O aLx) .ret) Z)) (Q (O aLw) (Q (Q (O aLv) (C (s 31) (Q (O aLu) .ret) Z)) (Q (O aLt) .ret))))))),40,[.slot 4,.slot 5]⟩
theorem aUR:aD Tryz.prog 104=some g60:=Zz
abbrev aLs:LA:=[M 7 0,P 8 155 [s 7],M 5 8]
abbrev aLr:LA:=[M 9 1,P 10 155 [s 9],M 6 10]
abbrev aLq:LA:=[M 11 5]
abbrev aLp:LA:=[M 12 6]
abbrev aLo:LA:=[M 13 6]
abbrev aEO:LA:=[lF 4 1]
abbrev aLn:LA:=[M 14 0,M 15 1,lA 16 14 15]
abbrev aFV:LA:=[M 17 0,M 18 1,A 19 (b .gtr (s 17) (s 18))]
def g61:LFn:=⟨(Q (O aBX) (Q (O aLs) (Q (O aLr) (Q (Q (O aLq) (C (s 11) (Q (Q (O aLp) (C (s 12) (Q (O aBX) .ret) Z)) (Q (O aED) .ret)) Z)) (Q (Q (O aLo) (C (s 13) (Q (O aEO) .ret) Z)) (Q (Q (O aLn) (C (s 16) (Q (O aED) .ret) Z)) (Q (Q (O aFV) (C (s 19) (Q (O aEO) .ret) Z)) (Q (O aBX) .ret)))))))),20,[.slot 4]⟩
theorem aUQ:aD Tryz.prog 108=some g61:=Zz
abbrev aLl:LA:=[⟨S 2,N,x F (c (.sl (.agg 3) .nil []))⟩,⟨S 3,N,x F (B 0)⟩,⟨S 4,N,x F (c .nilIface)⟩]
abbrev aLk:LA:=[M 8 0,A 9 (.slen (s 8)),A 10 (b .gtr (s 9) (B 4000))]
abbrev aLj:LA:=[A 11 (.mkif 100 (B 3)),⟨N,N,t F (s 2) (c (.sl (.agg 3) .nil []))⟩,⟨N,N,t F (s 3) (B 4000)⟩,⟨N,N,t F (s 4) (s 11)⟩]
abbrev aLi:LA:=[⟨S 5,N,x F (c (.sl (.agg 3) .nil []))⟩]
abbrev aLh:LA:=[M 12 0,P 13 159 [s 12]]
abbrev aLg:LA:=[⟨S 6,N,x (.agg 3) (c (.agg [(I j 0),(.str ⟨#[]⟩),(I j 0)]))⟩,W 3 6 14]
abbrev aLf:LA:=[M 7 15]
abbrev aLe:LA:=[M 16 7,A 17 (e true (.iface true) (s 16) (c .nilIface))]
abbrev aCD:LD:=[(H 18 2 6,[]),(E 19 18,[0]),(M 20 7,[]),(⟨N,N,t F (s 2) (c (.sl (.agg 3) .nil []))⟩,[]),(⟨N,N,t F (s 3) (s 19)⟩,[0,1,3]),(⟨N,N,t F (s 4) (s 20)⟩,Z5)]
abbrev aCw:LA:=[]
abbrev aLd:LA:=[E 21 5,G 22 3 6,⟨S 23,N,y (.agg 3) [s 22]⟩,lS 24 3 32 21 23,⟨N,N,t F (s 5) (s 24)⟩]
abbrev aLm:aU:=(K 1 (Q (Q (O aLe) (C (s 17) (Q (D 7 aCD aCw) .ret) Z)) (O aLd)))
abbrev aFU:LA:=[E 25 5,⟨N,N,t F (s 2) (s 25)⟩,⟨N,N,t F (s 3) (B 0)⟩,⟨N,N,t F (s 4) (c .nilIface)⟩]
def g62:LFn:=⟨(Q (O aLl) (Q (Q (O aLk) (C (s 10) (Q (O aLj) .ret) Z)) (Q (O aLi) (Q (Q (O aLh) (K 0 (.range (s 13) [14,15] (Q (O aLg) (O aLf)) aLm))) (Q (O aFU) .ret))))),26,[.cell 2 F,.cell 3 F,.cell 4 F]⟩
theorem aUP:aD Tryz.prog 115=some g62:=Zz
abbrev aLc:LA:=[M 6 0,lR 7 6,H 8 5 7,E 9 8,A 10 (b .eql (s 9) (B 0))]
abbrev aLb:LA:=[M 11 0,M 12 0,M 13 1,M 14 2,lR 15 11,H 16 4 15,⟨N,N,t F (s 16) (s 13)⟩,lR 17 12,H 18 5 17,⟨N,N,t F (s 18) (s 14)⟩]
abbrev aLa:LA:=[M 19 0,M 20 0,lR 21 20,H 22 0 21,E 23 22,lP 24 23,lR 25 19,H 26 1 25,⟨N,N,t F (s 26) (s 24)⟩]
def g63:LFn:=⟨(Q (O aLc) (C (s 10) (Q (O aLb) (O aLa)) Z)),27,[]⟩
theorem aUO:aD Tryz.prog 116=some g63:=Zz
abbrev aCE:LA:=[lF 2 0]
abbrev aLZ:LA:=[M 3 0,P 4 160 [s 3,(B 0)],A 5 (.fld F 2 (s 4)),M 2 5]
def g64:LFn:=⟨(Q (O aCE) (Q (O aLZ) .ret)),6,[.slot 2]⟩
theorem aUN:aD Tryz.prog 117=some g64:=Zz
abbrev aLY:LA:=[⟨S 2,N,x F (s 0)⟩,⟨S 3,N,x F (s 1)⟩]
abbrev aLX:LD:=[(E 4 3,[]),(E 5 2,[]),(P 6 161 [s 5,(B 2)],[1]),(lR 7 4,Z3),(H 8 0 7,Z4),(H 9 0 8,Z5)]
abbrev aFT:LA:=[⟨N,N,t F (s 9) (s 6)⟩]
abbrev aLW:LA:=[E 10 2,A 11 (.mkfn (.func 163) [] [s 2,s 3]),P 12 162 [s 10,(B 6),s 11]]
def g65:LFn:=⟨(Q (O aLY) (Q (D 6 aLX aFT) (O aLW))),13,[]⟩
theorem aUM:aD Tryz.prog 118=some g65:=Zz
abbrev aLV:LA:=[M 5 0,M 6 1,P 7 165 [s 5,s 6],A 8 (.not (s 7))]
abbrev aLU:LA:=[M 9 0,lR 10 9,H 11 1 10,E 12 11,lB 13 12,lR 14 9,H 15 1 14,⟨N,N,t F (s 15) (s 13)⟩]
def g66:LFn:=⟨(Q (O aBH) (Q (Q (O aLV) (C (s 8) (Q (O aBH) .ret) Z)) (Q (O aLU) (Q (O aFu) .ret)))),16,[.slot 4]⟩
theorem aUL:aD Tryz.prog 119=some g66:=Zz
abbrev aLT:LA:=[⟨S 2,N,x (.agg 17) (c (.agg [(I j 0),(.str ⟨#[]⟩),(.sl (.agg 4) .nil []),(I j 0),(I j 0),(.str ⟨#[]⟩),(I j 0),(I j 0),(.str ⟨#[]⟩),(.sl (.agg 6) .nil []),(I j 0),(.str ⟨#[]⟩),(I j 0),(I j 0),(.str ⟨#[]⟩),(.sl (.agg 6) .nil []),(I j 0)]))⟩]
abbrev aLS:LA:=[M 5 0,P 6 117 [s 5],⟨S 7,N,v (.build [(I j 0),(.str ⟨#[]⟩),(.sl (.agg 4) .nil []),(I j 0),(I j 0),(.str ⟨#[]⟩),(I j 0),(I j 0),(.str ⟨#[]⟩),(.sl (.agg 6) .nil []),(I j 0),(.str ⟨#[]⟩),(I j 0),(I j 0),(.str ⟨#[]⟩),(.sl (.agg 6) .nil []),(I j 0)] [(0,F,(B 1)),(16,F,(s 6))])⟩,⟨S 3,N,x (.agg 17) (c (.agg [(I j 0),(.str ⟨#[]⟩),(.sl (.agg 4) .nil []),(I j 0),(I j 0),(.str ⟨#[]⟩),(I j 0),(I j 0),(.str ⟨#[]⟩),(.sl (.agg 6) .nil []),(I j 0),(.str ⟨#[]⟩),(I j 0),(I j 0),(.str ⟨#[]⟩),(.sl (.agg 6) .nil []),(I j 0)]))⟩,W 17 3 7]
abbrev aLR:LA:=[M 8 0,P 9 160 [s 8,(B 1)],⟨S 4,N,x (.agg 3) (c (.agg [(I j 0),(.str ⟨#[]⟩),(I j 0)]))⟩,W 3 4 9]
abbrev aLQ:LA:=[M 13 0,⟨S 14,N,k 119 [s 13,(c (.str ⟨#[110,111,116]⟩))]⟩,M 12 14]
abbrev aLP:LA:=[H 15 0 3,⟨N,N,t F (s 15) (B 2)⟩]
abbrev aLO:LA:=[M 16 0,P 17 166 [s 16],H 18 1 3,W 2 18 17]
abbrev aLN:LA:=[M 20 0,P 21 160 [s 20,(B 0)],A 22 (.fld F 0 (s 21)),A 23 (b .eql (s 22) (B 2)),M 24 23,lL 25 24 0 4,lK 26 24 25,T 27 24 (b .eql (s 26) (B 5)),lI 28 24 27,M 29 28,lL 30 29 1 4,lK 31 29 30,⟨S 32,S (29,true),v (b .eql (s 31) (c (.str ⟨#[40]⟩)))⟩,lI 33 29 32,M 19 33]
abbrev aLM:LA:=[M 34 0,P 35 166 [s 34],H 36 1 3,W 2 36 35]
abbrev aLL:LA:=[M 10 0,P 11 167 [s 10,s 3]]
abbrev aLK:LA:=[G 37 17 3,W 17 2 37]
def g67:LFn:=⟨(Q (O aLT) (Q (O aLS) (Q (O aLR) (Q (K 0 (Q (O aLQ) (C (s 12) (Q (O aLP) (O aLO)) (Q (O aLN) (C (s 19) (O aLM) (O aLL)))))) (Q (O aLK) .ret))))),38,[.cell 2 (.agg 17)]⟩
theorem aUK:aD Tryz.prog 120=some g67:=Zz
abbrev aLJ:LA:=[M 4 0,M 5 1,P 6 165 [s 4,s 5],A 7 (.not (s 6))]
abbrev aLI:LA:=[M 8 0,M 9 0,P 10 117 [s 9],P 11 116 [s 8,s 10,(B 2)]]
abbrev aLH:LA:=[M 12 0,lR 13 12,H 14 1 13,E 15 14,lB 16 15,lR 17 12,H 18 1 17,⟨N,N,t F (s 18) (s 16)⟩]
def g68:LFn:=⟨(Q (Q (O aLJ) (C (s 7) (Q (O aLI) .ret) Z)) (O aLH)),19,[]⟩
theorem aUJ:aD Tryz.prog 121=some g68:=Zz
abbrev aEN:LA:=[M 7 0,P 8 115 [s 7],M 6 8,lQ 9 6 0,lQ 10 6 1,lQ 11 6 2,M 3 9,M 4 10,M 5 11]
abbrev aLG:LA:=[M 12 5,A 13 (e false (.iface true) (s 12) (c .nilIface)),M 14 13,lJ 15 14 3,T 16 14 (w (s 15)),T 17 14 (b .eql (s 16) (B 1)),lI 18 14 17,M 19 18,lJ 20 19 3,T 21 19 (i (.agg 3) (s 20) (B 0)),T 22 19 (l (.agg 3) (s 21)),lJ 23 19 0,⟨S 24,S (19,true),v (.build [(I j 0),(.str ⟨#[]⟩),(I j 0)] [(0,F,(B 2)),(1,F,(s 23))])⟩,T 25 19 (e false (.plain (.agg 3) [.int,.str,.int]) (s 22) (s 24)),lI 26 19 25,M 2 26]
def g69:LFn:=⟨(Q (O aAt) (Q (O aEN) (Q (O aLG) .ret))),27,[.slot 2]⟩
theorem aUI:aD Tryz.prog 122=some g69:=Zz
abbrev aLF:LA:=[M 5 0,A 6 (.mkfn (.func 169) [] [s 3]),P 7 168 [s 5,s 6],A 8 (.not (s 7)),M 4 8]
def g70:LFn:=⟨(Q (O aGa) (Q (O aLF) .ret)),9,[.slot 4]⟩
theorem aT6:aD Tryz.prog 123=some g70:=Zz
abbrev aLE:LA:=[Y 1 4 0,lG 2]
abbrev aLD:LA:=[H 3 0 1,E 4 3,⟨S 5,N,v (b .eql (s 4) (c (.str ⟨#[]⟩)))⟩]
abbrev aLC:LA:=[H 6 1 1,G 7 3 6,P 8 54 [s 7],M 2 8]
abbrev aLB:LA:=[H 9 0 1,E 10 9,P 11 170 [s 10],M 12 11,lL 13 12 1 1,T 14 12 (l (.agg 3) (s 13)),⟨S 15,S (12,true),v (.build [(I j 0),(I j 0),(.str ⟨#[]⟩)] [])⟩,T 16 12 (e false (.plain (.agg 3) [.int,.int,.str]) (s 14) (s 15)),lI 17 12 16,M 2 17]
def g71:LFn:=⟨(Q (O aLE) (Q (Q (O aLD) (C (s 5) (Q (O aLC) .ret) Z)) (Q (O aLB) .ret))),18,[.slot 2]⟩
theorem aSd:aD Tryz.prog 124=some g71:=Zz
abbrev aK9:LA:=[Y 2 17 0,lG 3]
abbrev aK8:LA:=[E 4 1,G 5 17 2,⟨S 6,N,.callv (s 4) [s 5]⟩,A 7 (.not (s 6)),M 3 7]
def g72:LFn:=⟨(Q (O aK9) (Q (O aK8) .ret)),8,[.slot 3]⟩
theorem aT5:aD Tryz.prog 126=some g72:=Zz
abbrev aK7:LA:=[H 3 0 1,E 4 3,A 5 (b .eql (s 4) (B 0)),M 6 5,lL 7 6 1 1,T 8 6 (l (.agg 4) (s 7)),⟨S 9,S (6,true),v (.build [(.str ⟨#[]⟩),(I j 0),(I j 0),(.str ⟨#[]⟩)] [])⟩,T 10 6 (e false (.plain (.agg 4) [.str,.int,.int,.str]) (s 8) (s 9)),lI 11 6 10,M 12 11,lL 13 12 5 1,lK 14 12 13,T 15 12 (w (s 14)),T 16 12 (b .eql (s 15) (B 0)),lI 17 12 16,M 2 17]
def g73:LFn:=⟨(Q (O aDk) (Q (O aK7) .ret)),18,[.slot 2]⟩
theorem aT4:aD Tryz.prog 127=some g73:=Zz
abbrev aK6:LA:=[G 3 6 1,P 4 172 [s 3,(B 20)],A 5 (b .geq (s 4) (B 0)),M 2 5]
def g74:LFn:=⟨(Q (O aDk) (Q (O aK6) .ret)),6,[.slot 2]⟩
theorem aSc:aD Tryz.prog 128=some g74:=Zz
abbrev aK4:LA:=[M 8 0,M 9 1,P 10 173 [s 8,s 9],M 5 10]
abbrev aK3:LA:=[M 11 5,A 12 (b .eql (s 11) (B (-1)))]
abbrev aK2:LA:=[M 13 0,M 4 13]
abbrev aK1:LA:=[M 14 5,lB 15 14,M 6 15]
abbrev aK0:LA:=[M 16 6,M 17 0,lP 18 17,lA 19 16 18]
abbrev aKz:LA:=[M 22 0,M 23 6,lE 24 22 23,E 25 24,M 7 25]
abbrev aKy:LA:=[M 26 1,M 27 7,⟨S 28,N,.callv (s 26) [s 27]⟩,A 29 (.not (s 28))]
abbrev aKx:LA:=[M 30 0,M 31 5,M 32 7,lE 33 30 31,⟨N,N,t F (s 33) (s 32)⟩]
abbrev aKw:LA:=[M 34 5,lB 35 34,M 5 35]
abbrev aFS:LA:=[M 20 6,lB 21 20,M 6 21]
abbrev aK5:aU:=(Q (Q (O aK0) (C (s 19) Z (X 0))) (Q (K 1 (Q (O aKz) (Q (O aKy) (C (s 29) (Q (O aKx) (O aKw)) Z)))) (O aFS)))
abbrev aFR:LA:=[M 36 0,M 37 5,A 38 (.slc F (s 36) (.some (s 37)) .none .none),⟨N,N,.clear F (s 38) (.str ⟨#[]⟩)⟩]
abbrev aFQ:LA:=[M 39 0,M 40 5,A 41 (.slc F (s 39) .none (.some (s 40)) .none),M 4 41]
def g75:LFn:=⟨(Q (O aEp) (Q (O aK4) (Q (Q (O aK3) (C (s 12) (Q (O aK2) .ret) Z)) (Q (Q (O aK1) (K 0 (R aK5))) (Q (O aFR) (Q (O aFQ) .ret)))))),42,[.slot 4]⟩
theorem aSb:aD Tryz.prog 129=some g75:=Zz
abbrev aKv:LA:=[E 5 1,M 6 0,A 7 (.mget F [.str] (I j 0) false (s 5) (s 6)),A 8 (b .gtr (s 7) (B 0)),E 9 2,A 10 (e true (.plain F [.bool]) (s 8) (s 9)),M 4 10]
def g76:LFn:=⟨(Q (O aBH) (Q (O aKv) .ret)),11,[.slot 4]⟩
theorem aT3:aD Tryz.prog 130=some g76:=Zz
abbrev aEM:LA:=[Y 3 17 1,lG 4]
abbrev aKu:LA:=[H 7 0 3,E 8 7,A 9 (b .neq (s 8) (B 3)),M 10 9,lO 11 10 3 3,lN 12 10 11,U 13 10 (b .neq (s 12) (B 1)),lH 14 10 13]
abbrev aKt:LD:=[(H 15 4 3,[]),(G 16 6 15,[0]),(P 17 174 [s 16],[0,1]),(H 18 10 3,[]),(G 19 6 18,[3]),(P 20 174 [s 19],Z5),(M 5 17,Z6),(M 6 20,Z7)]
abbrev aKs:LA:=[M 21 5,⟨S 22,N,v (b .neq (s 21) (c (.str ⟨#[]⟩)))⟩,M 23 22,lJ 24 23 0,lJ 25 23 5,T 26 23 (.mget F [.str] (I j 0) false (s 24) (s 25)),T 27 23 (b .eql (s 26) (B 0)),lI 28 23 27,M 29 28,lJ 30 29 0,lL 31 29 10 3,T 32 29 (l (.agg 6) (s 31)),⟨S 33,S (29,true),k 176 [s 32]⟩,⟨S 34,S (29,true),k 175 [s 30,s 33]⟩,lI 35 29 34,M 36 35,lM 37 36 6,⟨S 38,S (36,false),v (b .neq (s 37) (c (.str ⟨#[]⟩)))⟩,lM 39 36 38,lJ 40 39 0,lJ 41 39 6,T 42 39 (.mget F [.str] (I j 0) false (s 40) (s 41)),T 43 39 (b .eql (s 42) (B 0)),U 44 36 (p (s 39) (s 43) Ba),lM 45 36 44,lJ 46 45 0,lL 47 45 4 3,T 48 45 (l (.agg 6) (s 47)),⟨S 49,S (45,true),k 176 [s 48]⟩,⟨S 50,S (45,true),k 175 [s 46,s 49]⟩,U 51 36 (p (s 45) (s 50) Ba),lH 52 36 51,M 4 52]
def g77:LFn:=⟨(Q (O aEM) (Q (Q (O aKu) (C (s 14) (Q (O aBH) .ret) Z)) (Q (D 8 aKt aAe) (Q (O aKs) .ret)))),53,[.slot 4]⟩
theorem aT2:aD Tryz.prog 131=some g77:=Zz
abbrev aKr:LD:=[(E 5 1,[]),(H 6 4 2,[]),(E 7 6,[1]),(M 8 0,[]),(lC 9 17 7 8,[1,2,3]),(G 10 17 9,[1,2,3,4]),(P 11 134 [s 5,s 10],Z6),(M 4 11,Z7)]
def g78:LFn:=⟨(Q (O aBH) (Q (D 8 aKr aAe) .ret)),12,[.slot 4]⟩
theorem aT1:aD Tryz.prog 133=some g78:=Zz
abbrev aKq:LA:=[H 5 0 3,E 6 5,A 7 (b .neq (s 6) (B 1)),M 8 7,lJ 9 8 0,T 10 8 (l (.agg 17) (s 3)),⟨S 11,S (8,true),k 40 [s 10]⟩,⟨S 12,S (8,true),k 175 [s 9,s 11]⟩,lI 13 8 12,M 14 13,lM 15 14 0,U 16 14 (l (.agg 17) (s 3)),⟨S 17,S (14,false),k 131 [s 15,s 16]⟩,lH 18 14 17,M 4 18]
def g79:LFn:=⟨(Q (O aEM) (Q (O aKq) .ret)),19,[.slot 4]⟩
theorem aT0:aD Tryz.prog 134=some g79:=Zz
abbrev aEL:LA:=[lG 3]
abbrev aKp:LA:=[H 4 4 1,E 5 4,M 6 0,lC 7 17 5 6,H 8 0 7,E 9 8,A 10 (b .eql (s 9) (B 1)),M 3 10]
def g80:LFn:=⟨(Q (O aEL) (Q (O aKp) .ret)),11,[.slot 3]⟩
theorem aTt:aD Tryz.prog 135=some g80:=Zz
abbrev aKo:LA:=[G 3 6 1,M 4 0,P 5 139 [s 3,s 4]]
def g81:LFn:=⟨(O aKo),6,[]⟩
theorem aTs:aD Tryz.prog 138=some g81:=Zz
abbrev aKm:LA:=[Y 2 6 0,lG 4]
abbrev aKl:LA:=[H 7 5 2,E 8 7,lP 9 8,A 10 (b .eql (s 9) (B 0))]
abbrev aKk:LA:=[M 11 1,H 12 1 2,G 13 4 12,⟨S 14,N,.callv (s 11) [s 13]⟩,M 4 14]
abbrev aKj:LA:=[H 15 5 2,E 16 15,lP 17 16,lF 18 0]
abbrev aKi:LA:=[lC 20 6 16 18,G 21 6 20,⟨S 6,N,x (.agg 6) (c (.agg [(I j 0),(.str ⟨#[]⟩),(I j 0),(I j 0),(.str ⟨#[]⟩),(.sl (.agg 6) .nil [])]))⟩,W 6 6 21]
abbrev aKh:LA:=[G 22 6 6,M 23 1,P 24 139 [s 22,s 23],A 25 (.not (s 24))]
abbrev aKg:LA:=[lB 26 18,M 18 26]
abbrev aKn:aU:=(Q (O aG1) (Q (C (s 19) Z (X 0)) (Q (K 1 (Q (O aKi) (Q (O aKh) (C (s 25) (Q (O aBH) .ret) Z)))) (O aKg))))
def g82:LFn:=⟨(Q (O aKm) (Q (Q (O aKl) (C (s 10) (Q (O aKk) .ret) Z)) (Q (Q (O aKj) (K 0 (R aKn))) (Q (O aFu) .ret)))),27,[.slot 4]⟩
theorem aTr:aD Tryz.prog 139=some g82:=Zz
abbrev aKf:LA:=[M 3 0,A 4 (b .geq (s 3) (c (.int .i32 97))),M 5 4,lJ 6 5 0,T 7 5 (b .leq (s 6) (c (.int .i32 122))),lI 8 5 7,M 9 8,lM 10 9 0,U 11 9 (b .geq (s 10) (c (.int .i32 48))),lM 12 9 11,lJ 13 12 0,T 14 12 (b .leq (s 13) (c (.int .i32 57))),U 15 9 (p (s 12) (s 14) Ba),lH 16 9 15,M 17 16,lM 18 17 0,U 19 17 (b .eql (s 18) (c (.int .i32 95))),lH 20 17 19,A 21 (.not (s 20)),M 2 21]
def g83:LFn:=⟨(Q (O aAt) (Q (O aKf) .ret)),22,[.slot 2]⟩
theorem aSa:aD Tryz.prog 147=some g83:=Zz
abbrev aEK:LA:=[M 3 0,A 4 (b .geq (s 3) (c (.int .u8 97))),M 5 4,lJ 6 5 0,T 7 5 (b .leq (s 6) (c (.int .u8 122))),lI 8 5 7,M 2 8]
def g84:LFn:=⟨(Q (O aAt) (Q (O aEK) .ret)),9,[.slot 2]⟩
theorem aSZ:aD Tryz.prog 148=some g84:=Zz
abbrev aKe:LA:=[M 5 0,M 6 1,P 7 182 [s 5,s 6],A 8 (b .geq (s 7) (B 0)),M 4 8]
def g85:LFn:=⟨(Q (O aBH) (Q (O aKe) .ret)),9,[.slot 4]⟩
theorem aTq:aD Tryz.prog 149=some g85:=Zz
abbrev aKc:LA:=[M 6 1,⟨S 7,N,.mp (.rng (s 6))⟩]
abbrev aKb:LA:=[⟨S 8,N,.mp (.nxt (s 7))⟩,lQ 9 8 0]
abbrev aKa:LA:=[⟨S 10,N,.mp (.key (s 7))⟩,lQ 11 10 0,lQ 12 10 1,⟨S 5,N,x (.agg 3) (c (.agg [(I j 0),(I j 0),(.str ⟨#[]⟩)]))⟩,M 4 11,W 3 5 12]
abbrev aKZ:LA:=[M 13 0,M 14 4,G 15 3 5,⟨N,N,.mp (.put F [.str] (s 13) (s 14) (s 15))⟩]
abbrev aKd:aU:=(Q (O aKb) (Q (C (s 9) Z (X 0)) (K 1 (Q (O aKa) (O aKZ)))))
def g86:LFn:=⟨(Q (O aKc) (K 0 (R aKd))),16,[]⟩
theorem aTp:aD Tryz.prog 150=some g86:=Zz
abbrev aKY:LA:=[Y 2 6 0,⟨S 4,N,x (.agg 3) (c (.agg [(I j 0),(I j 0),(.str ⟨#[]⟩)]))⟩,A 5 (m (c .nilIface))]
abbrev aKX:LA:=[H 9 0 2,E 10 9,A 11 (b .eql (s 10) (B 0))]
abbrev aKW:LA:=[H 12 1 2,G 13 4 12,M 14 1,P 15 62 [s 13,s 14],lQ 16 15 0,lQ 17 15 1,W 3 4 16,M 5 17]
abbrev aKV:LA:=[H 19 5 2,E 20 19,A 21 (i (.agg 6) (s 20) (B 0)),G 22 6 21,M 23 1,P 24 183 [s 22,s 23],M 18 24,lQ 25 18 0,lQ 26 18 1,M 6 25,M 7 26]
abbrev aKU:LA:=[M 27 7,A 28 (e true (.iface true) (s 27) (c .nilIface))]
abbrev aKT:LA:=[⟨S 29,N,v (.build [(I j 0),(I j 0),(.str ⟨#[]⟩)] [])⟩,M 30 7,W 3 4 29,M 5 30]
abbrev aKS:LA:=[H 32 5 2,E 33 32,A 34 (i (.agg 6) (s 33) (B 1)),G 35 6 34,M 36 1,P 37 183 [s 35,s 36],M 31 37,lQ 38 31 0,lQ 39 31 1,M 8 38,M 7 39]
abbrev aKR:LA:=[M 40 7,A 41 (e true (.iface true) (s 40) (c .nilIface))]
abbrev aKQ:LA:=[⟨S 42,N,v (.build [(I j 0),(I j 0),(.str ⟨#[]⟩)] [])⟩,M 43 7,W 3 4 42,M 5 43]
abbrev aKP:LA:=[H 44 0 2,E 45 44]
abbrev aFP:LA:=[A 47 (b .eql (s 45) (B 1)),M 46 47]
abbrev aFO:LA:=[M 48 6,M 49 8,A 50 (b .add (s 48) (s 49)),P 51 184 [s 50],lQ 52 51 0,lQ 53 51 1,W 3 4 52,M 5 53]
abbrev aFN:LA:=[A 55 (b .eql (s 45) (B 2)),M 54 55]
abbrev aFM:LA:=[M 56 6,M 57 8,A 58 (b .sub (s 56) (s 57)),P 59 184 [s 58],lQ 60 59 0,lQ 61 59 1,W 3 4 60,M 5 61]
abbrev aFL:LA:=[M 62 6,M 63 8,A 64 (b .mul (s 62) (s 63)),P 65 184 [s 64],lQ 66 65 0,lQ 67 65 1,W 3 4 66,M 5 67]
def g87:LFn:=⟨(Q (O aKY) (Q (Q (O aKX) (C (s 11) (Q (O aKW) .ret) Z)) (Q (O aKV) (Q (Q (O aKU) (C (s 28) (Q (O aKT) .ret) Z)) (Q (O aKS) (Q (Q (O aKR) (C (s 41) (Q (O aKQ) .ret) Z)) (Q (Q (O aKP) (K 0 (Q (O aFP) (C (s 46) (Q (O aFO) .ret) (Q (O aFN) (C (s 54) (Q (O aFM) .ret) Z)))))) (Q (O aFL) .ret)))))))),68,[.cell 4 (.agg 3),.slot 5]⟩
theorem aSY:aD Tryz.prog 151=some g87:=Zz
abbrev aKO:LA:=[Y 4 3 1,Y 5 3 2,lG 6,A 7 (m (c .nilIface))]
abbrev aKN:LA:=[M 8 0,A 9 (b .lss (s 8) (B 1)),M 10 9,lM 11 10 0,U 12 10 (b .gtr (s 11) (B 6)),lH 13 10 12,M 14 13,U 15 14 (l (.agg 3) (s 4)),⟨S 16,S (14,false),k 54 [s 15]⟩,U 17 14 (.not (s 16)),lH 18 14 17,M 19 18,U 20 19 (l (.agg 3) (s 5)),⟨S 21,S (19,false),k 54 [s 20]⟩,U 22 19 (.not (s 21)),lH 23 19 22]
abbrev aKM:LA:=[A 24 (.mkif 100 (B 2)),lG 6,M 7 24]
abbrev aKL:LA:=[M 25 0,A 26 (b .geq (s 25) (B 3)),M 27 26,lL 28 27 0 4,lK 29 27 28,T 30 27 (b .neq (s 29) (B 1)),lJ 31 27 30,lO 32 31 0 5,lN 33 31 32,U 34 31 (b .neq (s 33) (B 1)),T 35 27 (p (s 31) Bb (s 34)),lI 36 27 35]
abbrev aKK:LA:=[A 37 (.mkif 100 (B 7)),lG 6,M 7 37]
abbrev aKJ:LA:=[M 38 0]
abbrev aKI:LA:=[A 40 (b .eql (s 38) (B 1)),M 39 40]
abbrev aKH:LA:=[G 41 3 4,G 42 3 5,A 43 (e false (.plain (.agg 3) [.int,.int,.str]) (s 41) (s 42)),M 6 43,A 7 (m (c .nilIface))]
abbrev aKG:LA:=[A 45 (b .eql (s 38) (B 2)),M 44 45]
abbrev aKF:LA:=[G 46 3 4,G 47 3 5,A 48 (e true (.plain (.agg 3) [.int,.int,.str]) (s 46) (s 47)),M 6 48,A 7 (m (c .nilIface))]
abbrev aFK:LA:=[A 50 (b .eql (s 38) (B 3)),M 49 50]
abbrev aFJ:LA:=[H 51 1 4,E 52 51,H 53 1 5,E 54 53,lA 55 52 54,M 6 55,A 7 (m (c .nilIface))]
abbrev aFI:LA:=[A 57 (b .eql (s 38) (B 4)),M 56 57]
abbrev aFH:LA:=[H 58 1 4,E 59 58,H 60 1 5,E 61 60,A 62 (b .leq (s 59) (s 61)),M 6 62,A 7 (m (c .nilIface))]
abbrev aFG:LA:=[A 64 (b .eql (s 38) (B 5)),M 63 64]
abbrev aFF:LA:=[H 65 1 4,E 66 65,H 67 1 5,E 68 67,A 69 (b .gtr (s 66) (s 68)),M 6 69,A 7 (m (c .nilIface))]
abbrev aFE:LA:=[H 70 1 4,E 71 70,H 72 1 5,E 73 72,A 74 (b .geq (s 71) (s 73)),M 6 74,A 7 (m (c .nilIface))]
def g88:LFn:=⟨(Q (O aKO) (Q (Q (O aKN) (C (s 23) (Q (O aKM) .ret) Z)) (Q (Q (O aKL) (C (s 36) (Q (O aKK) .ret) Z)) (Q (Q (O aKJ) (K 0 (Q (O aKI) (C (s 39) (Q (O aKH) .ret) (Q (O aKG) (C (s 44) (Q (O aKF) .ret) (Q (O aFK) (C (s 49) (Q (O aFJ) .ret) (Q (O aFI) (C (s 56) (Q (O aFH) .ret) (Q (O aFG) (C (s 63) (Q (O aFF) .ret) Z)))))))))))) (Q (O aFE) .ret))))),75,[.slot 6,.slot 7]⟩
theorem aTo:aD Tryz.prog 152=some g88:=Zz
abbrev aKE:LA:=[M 3 0,M 4 0,A 5 (b .neq (s 3) (s 4)),M 2 5]
def g89:LFn:=⟨(Q (O aAt) (Q (O aKE) .ret)),6,[.slot 2]⟩
theorem aTn:aD Tryz.prog 155=some g89:=Zz
abbrev aKD:LA:=[⟨S 1,N,x F (s 0)⟩,A 2 (m (c .aAW))]
abbrev aKC:LA:=[A 3 (.mkfn (.func 185) [] [s 1]),M 2 3]
def g90:LFn:=⟨(Q (O aKD) (Q (O aKC) .ret)),4,[.slot 2]⟩
theorem aTl:aD Tryz.prog 159=some g90:=Zz
abbrev aKB:LA:=[⟨S 4,N,x (.agg 3) (c (.agg [(I j 0),(.str ⟨#[]⟩),(I j 0)]))⟩]
abbrev aKA:LD:=[(M 5 0,[]),(lR 6 5,[0]),(H 7 1 6,[0,1]),(E 8 7,Z3),(M 9 1,[]),(A 10 (b .add (s 8) (s 9)),Z5),(M 11 0,[]),(lR 12 11,[6]),(H 13 0 12,[6,7]),(E 14 13,[6,7,8]),(lP 15 14,[6,7,8,9]),(A 16 (b .geq (s 10) (s 15)),Z11)]
abbrev aJ9:LA:=[M 17 0,lR 18 17,H 19 2 18,E 20 19,⟨S 21,N,v (.build [(I j 0),(.str ⟨#[]⟩),(I j 0)] [(2,F,(s 20))])⟩,W 3 4 21]
abbrev aJ8:LD:=[(M 22 0,[]),(lR 23 22,[0]),(H 24 0 23,[0,1]),(E 25 24,Z3),(M 26 0,[]),(lR 27 26,[4]),(H 28 1 27,[4,5]),(E 29 28,[4,5,6]),(M 30 1,[]),(A 31 (b .add (s 29) (s 30)),[4,5,6,7,8]),(lC 32 3 25 31,Z10),(G 33 3 32,Z11)]
abbrev aFD:LA:=[W 3 4 33]
def g91:LFn:=⟨(Q (O aKB) (Q (Q (D 12 aKA aAe) (C (s 16) (Q (O aJ9) .ret) Z)) (Q (D 12 aJ8 aFD) .ret))),34,[.cell 4 (.agg 3)]⟩
theorem aTk:aD Tryz.prog 160=some g91:=Zz
abbrev aEJ:LA:=[M 6 0,P 7 160 [s 6,(B 0)],⟨S 5,N,x (.agg 3) (c (.agg [(I j 0),(.str ⟨#[]⟩),(I j 0)]))⟩,W 3 5 7]
abbrev aJ7:LA:=[H 8 0 5,E 9 8,M 10 1,A 11 (b .neq (s 9) (s 10))]
abbrev aJ6:LA:=[M 12 0,H 13 2 5,E 14 13,P 15 116 [s 12,s 14,(B 2)]]
abbrev aJ5:LA:=[M 16 0,lR 17 16,H 18 1 17,E 19 18,lB 20 19,lR 21 16,H 22 1 21,⟨N,N,t F (s 22) (s 20)⟩]
abbrev aJ4:LA:=[H 23 1 5,E 24 23,M 4 24]
def g92:LFn:=⟨(Q (O aEl) (Q (O aEJ) (Q (Q (O aJ7) (C (s 11) (Q (O aJ6) (Q (O aEl) .ret)) Z)) (Q (O aJ5) (Q (O aJ4) .ret))))),25,[.slot 4]⟩
theorem aTj:aD Tryz.prog 161=some g92:=Zz
abbrev aJ2:LA:=[M 7 0,⟨S 8,N,k 121 [s 7,(c (.str ⟨#[40]⟩))]⟩]
abbrev aJ1:LA:=[M 9 0,⟨S 10,N,k 119 [s 9,(c (.str ⟨#[41]⟩))]⟩]
abbrev aJ0:LA:=[M 11 0,lR 12 11,H 13 5 12,E 14 13,A 15 (b .eql (s 14) (B 0))]
abbrev aJz:LA:=[M 18 6,M 19 1,A 20 (b .geq (s 18) (s 19))]
abbrev aJy:LA:=[M 21 0,M 22 0,P 23 117 [s 22],P 24 116 [s 21,s 23,(B 3)]]
abbrev aJx:LA:=[M 25 2,M 26 6,⟨S 27,N,.callv (s 25) [s 26]⟩]
abbrev aJw:LA:=[M 28 0,⟨S 29,N,k 119 [s 28,(c (.str ⟨#[44]⟩))]⟩,A 30 (.not (s 29))]
abbrev aJv:LA:=[M 16 6,lB 17 16,M 6 17]
abbrev aJ3:aU:=(Q (Q (O aJ0) (C (s 15) Z (X 0))) (Q (K 1 (Q (Q (O aJz) (C (s 20) (Q (O aJy) (X 0)) Z)) (Q (O aJx) (Q (O aJw) (C (s 30) (X 0) Z))))) (O aJv)))
abbrev aEI:LA:=[M 31 0,⟨S 32,N,k 121 [s 31,(c (.str ⟨#[41]⟩))]⟩]
def g93:LFn:=⟨(Q (O aJ2) (Q (Q (O aJ1) (C (s 10) .ret Z)) (Q Z (Q (Q (O aEn) (K 0 (R aJ3))) (O aEI))))),33,[]⟩
theorem aTi:aD Tryz.prog 162=some g93:=Zz
abbrev aJu:LA:=[E 6 1,P 7 160 [s 6,(B 0)],⟨S 4,N,x (.agg 3) (c (.agg [(I j 0),(.str ⟨#[]⟩),(I j 0)]))⟩,W 3 4 7]
abbrev aJt:LD:=[(⟨S 8,N,v (.pslc 4 F (c (.ept (.agg 4) [(.agg [(.str ⟨#[99,111,117,110,116]⟩),(.str ⟨#[115,117,109]⟩),(.str ⟨#[109,105,110]⟩),(.str ⟨#[109,97,120]⟩)])] 0 0)) .none)⟩,[]),(H 9 1 4,[]),(E 10 9,[1]),(P 11 82 [s 8,s 10],Z3),(M 5 11,Z4)]
abbrev aJs:LA:=[H 12 0 4,E 13 12,A 14 (b .neq (s 13) (B 1)),M 15 14,lM 16 15 5,U 17 15 (b .lss (s 16) (B 0)),lH 18 15 17]
abbrev aJr:LD:=[(E 19 2,[]),(E 20 2,[]),(lR 21 20,[1]),(H 22 0 21,[1,2]),(H 23 1 22,[1,2,3]),(E 24 23,[1,2,3,4]),(E 25 1,[]),(P 26 164 [s 25],[6]),(⟨S 27,N,y (.agg 4) [s 26]⟩,[6,7]),(lS 28 4 48 24 27,[1,2,3,4,5,6,7,8]),(lR 29 19,Z10),(H 30 0 29,Z11),(H 31 1 30,Z12)]
abbrev aFB:LA:=[⟨N,N,t F (s 31) (s 28)⟩]
abbrev aJq:LA:=[E 32 2,lR 33 32,H 34 2 33,E 35 34,A 36 (b .gtr (s 35) (B 0))]
abbrev aJp:LA:=[E 37 1,H 38 2 4,E 39 38,P 40 116 [s 37,s 39,(B 2)]]
abbrev aJo:LD:=[(E 41 2,[]),(E 42 2,[]),(M 43 5,[]),(lB 44 43,[2]),(M 45 0,[]),(lR 46 41,[0,2,3]),(H 47 2 46,[0,2,3,5]),(⟨N,N,t F (s 47) (s 44)⟩,[0,2,3,5,6]),(lR 48 42,Z8),(H 49 3 48,Z9),(⟨N,N,t F (s 49) (s 45)⟩,Z10)]
abbrev aJn:LA:=[E 50 1,H 51 1 4,E 52 51,P 53 121 [s 50,s 52]]
abbrev aJm:LA:=[E 54 1,⟨S 55,N,k 121 [s 54,(c (.str ⟨#[40]⟩))]⟩]
abbrev aJl:LD:=[(E 56 2,[]),(E 57 2,[]),(lR 58 57,[1]),(H 59 0 58,[1,2]),(H 60 1 59,[1,2,3]),(E 61 60,[1,2,3,4]),(E 62 1,[]),(P 63 161 [s 62,(B 3)],[6]),(⟨S 64,N,v (.build [(.str ⟨#[]⟩),(I j 0),(I j 0),(.str ⟨#[]⟩)] [(0,F,(s 63))])⟩,[6,7]),(⟨S 65,N,y (.agg 4) [s 64]⟩,[6,7,8]),(lS 66 4 48 61 65,[1,2,3,4,5,6,7,8,9]),(lR 67 56,Z11),(H 68 0 67,Z12),(H 69 1 68,Z13)]
abbrev aFA:LA:=[⟨N,N,t F (s 69) (s 66)⟩]
abbrev aFC:LA:=[E 70 1,⟨S 71,N,k 121 [s 70,(c (.str ⟨#[41]⟩))]⟩]
def g94:LFn:=⟨(Q (O aJu) (Q (D 5 aJt aAe) (Q (Q (O aJs) (C (s 18) (Q (D 13 aJr aFB) .ret) Z)) (Q (Q (O aJq) (C (s 36) (O aJp) Z)) (Q (D 12 aJo aAe) (Q (O aJn) (Q (O aJm) (Q (D 14 aJl aFA) (O aFC))))))))),72,[]⟩
theorem aTh:aD Tryz.prog 163=some g94:=Zz
abbrev aJk:LA:=[⟨S 2,N,x (.agg 4) (c (.agg [(.str ⟨#[]⟩),(I j 0),(I j 0),(.str ⟨#[]⟩)]))⟩]
abbrev aJj:LA:=[lF 3 1]
abbrev aJi:LA:=[M 7 0,⟨S 8,N,k 165 [s 7,(c (.str ⟨#[45]⟩))]⟩]
abbrev aJh:LA:=[M 9 0,⟨S 10,N,k 121 [s 9,(c (.str ⟨#[45]⟩))]⟩]
abbrev aJg:LA:=[A 3 (m (B (-1)))]
abbrev aJf:LA:=[M 11 0,P 12 160 [s 11,(B 0)],⟨S 4,N,x (.agg 3) (c (.agg [(I j 0),(.str ⟨#[]⟩),(I j 0)]))⟩,W 3 4 12]
abbrev aJe:LA:=[H 14 0 4,E 15 14,A 16 (b .eql (s 15) (B 4)),M 13 16]
abbrev aJd:LA:=[M 18 0,P 19 161 [s 18,(B 4)],P 20 188 [s 19],M 17 20,lQ 21 17 0,lQ 22 17 1,M 5 21,M 6 22]
abbrev aJc:LA:=[M 23 6,A 24 (e true (.iface true) (s 23) (c .nilIface))]
abbrev aJb:LA:=[M 25 0,H 26 2 4,E 27 26,P 28 116 [s 25,s 27,(B 2)]]
abbrev aE9:LA:=[M 29 3,M 30 5,A 31 (b .mul (s 29) (s 30)),⟨S 32,N,v (.build [(I j 0),(I j 0),(.str ⟨#[]⟩)] [(0,F,(B 1)),(1,F,(s 31))])⟩,⟨S 33,N,v (.build [(.str ⟨#[]⟩),(I j 0),(I j 0),(.str ⟨#[]⟩)] [(1,(.agg 3),(s 32))])⟩,W 4 2 33]
abbrev aE8:LA:=[M 35 3,A 36 (b .lss (s 35) (B 0)),M 34 36]
abbrev aE7:LA:=[H 38 0 4,E 39 38,A 40 (b .eql (s 39) (B 3)),M 37 40]
abbrev aE6:LA:=[M 41 0,P 42 161 [s 41,(B 3)],⟨S 43,N,v (.build [(.str ⟨#[]⟩),(I j 0),(I j 0),(.str ⟨#[]⟩)] [(0,F,(s 42))])⟩,W 4 2 43]
abbrev aE5:LA:=[H 45 0 4,E 46 45,A 47 (b .eql (s 46) (B 2)),M 44 47]
abbrev aE4:LA:=[M 48 0,P 49 161 [s 48,(B 2)],⟨S 50,N,v (.build [(I j 0),(I j 0),(.str ⟨#[]⟩)] [(0,F,(B 2)),(2,F,(s 49))])⟩,⟨S 51,N,v (.build [(.str ⟨#[]⟩),(I j 0),(I j 0),(.str ⟨#[]⟩)] [(1,(.agg 3),(s 50))])⟩,W 4 2 51]
abbrev aE3:LA:=[M 52 0,H 53 2 4,E 54 53,P 55 116 [s 52,s 54,(B 2)]]
abbrev aE2:LA:=[⟨S 56,N,v (.build [(.str ⟨#[]⟩),(I j 0),(I j 0),(.str ⟨#[]⟩)] [])⟩,W 4 2 56]
def g95:LFn:=⟨(Q (O aJk) (Q (O aJj) (Q (Q (O aJi) (C (s 8) (Q (O aJh) (O aJg)) Z)) (Q (O aJf) (Q (K 0 (Q (O aJe) (C (s 13) (Q (O aJd) (Q (Q (O aJc) (C (s 24) (O aJb) Z)) (Q (O aE9) .ret))) (Q (O aE8) (C (s 34) Z (Q (O aE7) (C (s 37) (Q (O aE6) .ret) (Q (O aE5) (C (s 44) (Q (O aE4) .ret) Z))))))))) (Q (O aE3) (Q (O aE2) .ret))))))),57,[.cell 2 (.agg 4)]⟩
theorem aTg:aD Tryz.prog 164=some g95:=Zz
abbrev aJa:LA:=[H 8 0 5,E 9 8,A 10 (b .eql (s 9) (B 1)),M 11 10,lO 12 11 0 5,lN 13 11 12,U 14 11 (b .eql (s 13) (B 5)),lH 15 11 14,M 16 15,lL 17 16 1 5,lK 18 16 17,lJ 19 16 1,T 20 16 (b .eql (s 18) (s 19)),lI 21 16 20,M 4 21]
def g96:LFn:=⟨(Q (O aBH) (Q (O aEJ) (Q (O aJa) .ret))),22,[.slot 4]⟩
theorem aTf:aD Tryz.prog 165=some g96:=Zz
abbrev aJZ:LA:=[⟨S 1,N,x F (s 0)⟩,⟨S 2,N,x (.agg 2) (c (.agg [(.str ⟨#[]⟩),(.sl (.agg 4) .nil [])]))⟩]
abbrev aJY:LA:=[E 4 1,P 5 161 [s 4,(B 2)],⟨S 6,N,v (.build [(.str ⟨#[]⟩),(.sl (.agg 4) .nil [])] [(0,F,(s 5))])⟩,⟨S 3,N,x (.agg 2) (c (.agg [(.str ⟨#[]⟩),(.sl (.agg 4) .nil [])]))⟩,W 2 3 6]
abbrev aJX:LA:=[E 7 1,A 8 (.mkfn (.func 189) [] [s 3,s 1]),P 9 162 [s 7,(B 6),s 8]]
abbrev aJW:LA:=[G 10 2 3,W 2 2 10]
def g97:LFn:=⟨(Q (O aJZ) (Q (O aJY) (Q (O aJX) (Q (O aJW) .ret)))),11,[.cell 2 (.agg 2)]⟩
theorem aTe:aD Tryz.prog 166=some g97:=Zz
abbrev aJV:LA:=[M 5 1,lR 6 5,H 7 0 6,⟨N,N,t F (s 7) (B 3)⟩]
abbrev aJU:LA:=[M 8 1,M 9 0,P 10 190 [s 9],lR 11 8,H 12 4 11,W 6 12 10]
abbrev aJT:LA:=[M 13 0,P 14 160 [s 13,(B 0)],⟨S 4,N,x (.agg 3) (c (.agg [(I j 0),(.str ⟨#[]⟩),(I j 0)]))⟩,W 3 4 14]
abbrev aJS:LD:=[(M 15 1,[]),(⟨S 16,N,v (.pslc 6 F (c (.ept (.agg 6) [(.agg [(.str ⟨#[61]⟩),(.str ⟨#[33,61]⟩),(.str ⟨#[60]⟩),(.str ⟨#[60,61]⟩),(.str ⟨#[62]⟩),(.str ⟨#[62,61]⟩)])] 0 0)) .none)⟩,[]),(H 17 1 4,[]),(E 18 17,[2]),(P 19 82 [s 16,s 18],[1,2,3]),(lB 20 19,[1,2,3,4]),(lR 21 15,Z6),(H 22 3 21,Z7)]
abbrev aE1:LA:=[⟨N,N,t F (s 22) (s 20)⟩]
abbrev aJR:LA:=[H 23 0 4,E 24 23,A 25 (b .neq (s 24) (B 5)),M 26 25,lM 27 26 1,U 28 26 (n (s 27)),lO 29 26 3 28,lN 30 26 29,U 31 26 (b .eql (s 30) (B 0)),lH 32 26 31]
abbrev aJQ:LA:=[M 33 0,H 34 2 4,E 35 34,P 36 116 [s 33,s 35,(B 2)]]
abbrev aJP:LA:=[M 37 0,H 38 1 4,E 39 38,P 40 121 [s 37,s 39]]
abbrev aJO:LA:=[M 41 1,M 42 0,P 43 190 [s 42],lR 44 41,H 45 10 44,W 6 45 43]
abbrev aJN:LA:=[M 46 0,lR 47 46,H 48 5 47,E 49 48,A 50 (b .eql (s 49) (B 0)),M 51 50,lJ 52 51 1,T 53 51 (n (s 52)),lL 54 51 4 53,T 55 51 (l (.agg 6) (s 54)),⟨S 56,S (51,true),k 128 [s 55]⟩,lJ 57 51 56,lJ 58 57 1,T 59 57 (n (s 58)),lL 60 57 10 59,T 61 57 (l (.agg 6) (s 60)),⟨S 62,S (57,true),k 128 [s 61]⟩,T 63 51 (p (s 57) (s 62) Ba),T 64 51 (.not (s 63)),lI 65 51 64]
abbrev aJM:LA:=[M 66 0,M 67 1,lR 68 67,H 69 16 68,E 70 69,P 71 116 [s 66,s 70,(B 4)]]
def g98:LFn:=⟨(Q (O aJV) (Q (O aJU) (Q (O aJT) (Q (D 8 aJS aE1) (Q (Q (O aJR) (C (s 32) (Q (O aJQ) .ret) Z)) (Q (O aJP) (Q (O aJO) (Q (O aJN) (C (s 65) (O aJM) Z))))))))),72,[]⟩
theorem aTd:aD Tryz.prog 167=some g98:=Zz
abbrev aJL:LA:=[Y 2 4 0,lG 3]
abbrev aJK:LA:=[E 4 1,G 5 4 2,⟨S 6,N,.callv (s 4) [s 5]⟩,A 7 (.not (s 6)),M 3 7]
def g99:LFn:=⟨(Q (O aJL) (Q (O aJK) .ret)),8,[.slot 3]⟩
theorem aTc:aD Tryz.prog 169=some g99:=Zz
abbrev aJJ:LA:=[M 12 5,A 13 (e false (.iface true) (s 12) (c .nilIface)),M 14 13,lJ 15 14 3,T 16 14 (w (s 15)),T 17 14 (b .eql (s 16) (B 1)),lI 18 14 17,M 19 18,lJ 20 19 3,T 21 19 (i (.agg 3) (s 20) (B 0)),T 22 19 (l (.agg 3) (s 21)),lJ 23 19 0,⟨S 24,S (19,true),v (.build [(I j 0),(.str ⟨#[]⟩),(I j 0)] [(0,F,(B 3)),(1,F,(s 23))])⟩,T 25 19 (e false (.plain (.agg 3) [.int,.str,.int]) (s 22) (s 24)),lI 26 19 25,M 2 26]
def aSw:LFn:=⟨(Q (O aAt) (Q (O aEN) (Q (O aJJ) .ret))),27,[.slot 2]⟩
theorem aL3:aD Tryz.prog 170=some aSw:=Zz
abbrev aJI:LA:=[H 7 0 2,E 8 7,A 9 (b .eql (s 8) (B 0)),M 10 9,lL 11 10 5 2,lK 12 10 11,T 13 10 (w (s 12)),T 14 10 (b .eql (s 13) (B 0)),lI 15 10 14,M 16 15,lL 17 16 1 2,T 18 16 (l (.agg 4) (s 17)),⟨S 19,S (16,true),k 124 [s 18]⟩,lI 20 16 19]
abbrev aJH:LA:=[H 21 0 2,E 22 21,A 23 (b .lss (s 22) (B 1)),M 24 23,lO 25 24 0 2,lN 26 24 25,U 27 24 (b .gtr (s 26) (B 3)),lH 28 24 27,M 29 28,lO 30 29 5 2,lN 31 29 30,U 32 29 (w (s 31)),U 33 29 (b .neq (s 32) (B 2)),lH 34 29 33,M 35 34,lO 36 35 1 2,U 37 35 (l (.agg 4) (s 36)),⟨S 38,S (35,false),v (.build [(.str ⟨#[]⟩),(I j 0),(I j 0),(.str ⟨#[]⟩)] [])⟩,U 39 35 (e true (.plain (.agg 4) [.str,.int,.int,.str]) (s 37) (s 38)),lH 40 35 39,M 41 40,lM 42 41 1,U 43 41 (b .eql (s 42) (B 0)),lH 44 41 43]
abbrev aJG:LD:=[(H 45 5 2,[]),(E 46 45,[0]),(A 47 (i (.agg 6) (s 46) (B 0)),[0,1]),(G 48 6 47,Z3),(M 49 1,[]),(A 50 (b .sub (s 49) (B 1)),[4]),(P 51 172 [s 48,s 50],Z6),(H 52 5 2,[]),(E 53 52,[7]),(A 54 (i (.agg 6) (s 53) (B 1)),[7,8]),(G 55 6 54,[7,8,9]),(M 56 1,[]),(A 57 (b .sub (s 56) (B 1)),[11]),(P 58 172 [s 55,s 57],Z13),(M 5 51,Z14),(M 6 58,Z15)]
abbrev aJF:LA:=[M 59 5,A 60 (b .lss (s 59) (B 0)),M 61 60,lM 62 61 6,U 63 61 (b .lss (s 62) (B 0)),lH 64 61 63]
abbrev aJE:LA:=[M 65 5,M 66 6,A 67 (.mnx true (s 65) (s 66)),A 68 (b .add (B 1) (s 67)),M 4 68]
def aSv:LFn:=⟨(Q (O aOy) (Q (Q (O aJI) (C (s 20) (Q (O aBX) .ret) Z)) (Q (Q (O aJH) (C (s 44) (Q (O aED) .ret) Z)) (Q (D 16 aJG aAe) (Q (Q (O aJF) (C (s 64) (Q (O aED) .ret) Z)) (Q (O aJE) .ret)))))),69,[.slot 4]⟩
theorem aFW:aD Tryz.prog 172=some aSv:=Zz
abbrev aJD:LA:=[Y 1 6 0,⟨S 2,N,v (m (c (.str ⟨#[]⟩)))⟩]
abbrev aJC:LA:=[H 3 0 1,E 4 3,A 5 (b .neq (s 4) (B 0)),M 6 5,lO 7 6 5 1,lN 8 6 7,U 9 6 (w (s 8)),U 10 6 (b .gtr (s 9) (B 0)),lH 11 6 10]
abbrev aEH:LA:=[⟨S 2,N,v (m (c (.str ⟨#[]⟩)))⟩]
abbrev aJB:LA:=[H 12 1 1,H 13 0 12,E 14 13,M 2 14]
def aVp:LFn:=⟨(Q (O aJD) (Q (Q (O aJC) (C (s 11) (Q (O aEH) .ret) Z)) (Q (O aJB) .ret))),15,[.slot 2]⟩
theorem aR6:aD Tryz.prog 174=some aVp:=Zz
abbrev aJA:LA:=[⟨S 2,N,x F (s 0)⟩,lG 4]
abbrev aI9:LA:=[M 5 1,A 6 (.mkfn (.func 193) [] [s 2]),P 7 192 [s 5,s 6],A 8 (.not (s 7)),M 4 8]
def aVo:LFn:=⟨(Q (O aJA) (Q (O aI9) .ret)),9,[.slot 4]⟩
theorem aR5:aD Tryz.prog 175=some aVo:=Zz
abbrev aI8:LA:=[G 3 6 1,P 4 89 [s 3],P 5 88 [s 4],P 6 44 [(c (.sl F .nil [])),s 5],M 2 6]
def aVn:LFn:=⟨(Q (O aMS) (Q (O aI8) .ret)),7,[.slot 2]⟩
theorem aR4:aD Tryz.prog 176=some aVn:=Zz
abbrev aI7:LA:=[M 5 0,M 6 1,P 7 197 [s 5,s 6,Bb],M 4 7]
def aSu:LFn:=⟨(Q (O aBX) (Q (O aI7) .ret)),8,[.slot 4]⟩
theorem aR3:aD Tryz.prog 182=some aSu:=Zz
abbrev aI0:LA:=[Y 2 6 0,lF 4 0,A 5 (m (c .nilIface))]
abbrev aIz:LA:=[G 9 6 2,M 10 1,P 11 151 [s 9,s 10],M 8 11,lQ 12 8 0,lQ 13 8 1,⟨S 6,N,x (.agg 3) (c (.agg [(I j 0),(I j 0),(.str ⟨#[]⟩)]))⟩,W 3 6 12,M 7 13]
abbrev aIy:LA:=[M 15 7,A 16 (e true (.iface true) (s 15) (c .nilIface)),M 14 16]
abbrev aIx:LA:=[M 17 7,lF 4 0,M 5 17]
abbrev aIw:LA:=[H 19 0 6,E 20 19,A 21 (b .neq (s 20) (B 1)),M 18 21]
abbrev aIv:LA:=[A 22 (.mkif 100 (B 7)),lF 4 0,M 5 22]
abbrev aIu:LA:=[H 23 1 6,E 24 23,M 4 24,A 5 (m (c .nilIface))]
def aVm:LFn:=⟨(Q (O aI0) (Q (O aIz) (Q (K 0 (Q (O aIy) (C (s 14) (Q (O aIx) .ret) (Q (O aIw) (C (s 18) (Q (O aIv) .ret) Z))))) (Q (O aIu) .ret)))),25,[.slot 4,.slot 5]⟩
theorem aR2:aD Tryz.prog 183=some aVm:=Zz
abbrev aIt:LA:=[⟨S 2,N,x (.agg 3) (c (.agg [(I j 0),(I j 0),(.str ⟨#[]⟩)]))⟩,A 3 (m (c .nilIface))]
abbrev aIs:LA:=[M 4 0,P 5 97 [s 4],A 6 (.not (s 5))]
abbrev aIr:LA:=[⟨S 7,N,v (.build [(I j 0),(I j 0),(.str ⟨#[]⟩)] [])⟩,A 8 (.mkif 100 (B 10)),W 3 2 7,M 3 8]
abbrev aIq:LA:=[M 9 0,⟨S 10,N,v (.build [(I j 0),(I j 0),(.str ⟨#[]⟩)] [(0,F,(B 1)),(1,F,(s 9))])⟩,W 3 2 10,A 3 (m (c .nilIface))]
def aVl:LFn:=⟨(Q (O aIt) (Q (Q (O aIs) (C (s 6) (Q (O aIr) .ret) Z)) (Q (O aIq) .ret))),11,[.cell 2 (.agg 3),.slot 3]⟩
theorem aR1:aD Tryz.prog 184=some aVl:=Zz
abbrev aIp:LA:=[E 5 1,P 6 186 [s 5,(B 0)],M 3 6]
abbrev aIo:LA:=[M 7 3,E 8 1,A 9 (.slen (s 8)),lA 10 7 9]
abbrev aIn:LA:=[E 11 1,M 12 3,A 13 (.slcs (s 11) (.some (s 12)) .none),P 14 187 [s 13],⟨S 4,N,x (.agg 3) (c (.agg [(I j 0),(.str ⟨#[]⟩),(I j 0)]))⟩,W 3 4 14]
abbrev aIm:LA:=[M 15 3,H 16 2 4,⟨N,N,t F (s 16) (s 15)⟩]
abbrev aCz:LA:=[H 17 0 4,E 18 17,A 19 (b .eql (s 18) (B 0))]
abbrev aIl:LA:=[M 20 0,M 21 3,⟨S 22,N,v (.build [(I j 0),(.str ⟨#[]⟩),(I j 0)] [(2,F,(s 21))])⟩,A 23 (.mkif 100 (B 2)),⟨S 24,N,.callv (s 20) [s 22,s 23]⟩]
abbrev aIk:LA:=[M 25 0,G 26 3 4,⟨S 27,N,.callv (s 25) [s 26,(c .nilIface)]⟩,A 28 (.not (s 27))]
abbrev aIj:LA:=[E 29 1,M 30 3,H 31 1 4,E 32 31,A 33 (.slen (s 32)),A 34 (b .add (s 30) (s 33)),P 35 186 [s 29,s 34],M 3 35]
abbrev aC0:aU:=(Q (Q (O aIo) (C (s 10) Z (X 0))) (K 1 (Q (O aIn) (Q (O aIm) (Q (Q (O aCz) (C (s 19) (Q (O aIl) .ret) Z)) (Q (Q (O aIk) (C (s 28) .ret Z)) (O aIj)))))))
def aVk:LFn:=⟨(Q (O aIp) (K 0 (R aC0))),36,[]⟩
theorem aR0:aD Tryz.prog 185=some aVk:=Zz
abbrev aIh:LA:=[M 9 1,M 10 0,A 11 (.slen (s 10)),lA 12 9 11]
abbrev aIg:LA:=[M 13 0,M 14 1,A 15 (.sidx .none (s 13) (s 14)),M 5 15]
abbrev aIf:LA:=[M 18 5,⟨S 19,N,k 198 [(c (.str ⟨#[9,10,13,32]⟩)),s 18]⟩,A 20 (b .geq (s 19) (B 0)),M 17 20]
abbrev aIe:LA:=[M 21 1,lB 22 21,M 1 22]
abbrev aId:LA:=[M 24 5,A 25 (b .eql (s 24) (c (.int .u8 37))),M 23 25]
abbrev aIc:LA:=[M 27 0,M 28 1,A 29 (.slcs (s 27) (.some (s 28)) .none),⟨S 30,N,k 199 [s 29,(c (.str ⟨#[10]⟩))]⟩,M 26 30,lQ 31 26 0,lQ 32 26 1,lQ 33 26 2,M 6 31,M 7 32,M 8 33]
abbrev aIb:LA:=[M 34 1,M 35 6,A 36 (.slen (s 35)),A 37 (b .add (s 34) (s 36)),M 1 37]
abbrev aIa:LA:=[M 16 1,M 4 16]
abbrev aIi:aU:=(Q (Q (O aIh) (C (s 12) Z (X 0))) (K 1 (Q (O aIg) (K 2 (Q (O aIf) (C (s 17) (O aIe) (Q (O aId) (C (s 23) (Q (O aIc) (O aIb)) (Q (O aIa) .ret)))))))))
abbrev aIZ:LA:=[M 38 1,M 4 38]
def aVj:LFn:=⟨(Q (O aBX) (Q (K 0 (R aIi)) (Q (O aIZ) .ret))),39,[.slot 4]⟩
theorem aRz:aD Tryz.prog 186=some aVj:=Zz
abbrev aIX:LA:=[⟨S 2,N,x (.agg 3) (c (.agg [(I j 0),(.str ⟨#[]⟩),(I j 0)]))⟩]
abbrev aIW:LA:=[M 6 0,P 7 200 [s 6],M 3 7]
abbrev aIV:LA:=[M 8 3,A 9 (b .gtr (s 8) (B 0)),M 10 9,lJ 11 10 0,T 12 10 (.sidx .none (s 11) (B 0)),T 13 10 (b .neq (s 12) (c (.int .u8 95))),lI 14 10 13]
abbrev aIU:LD:=[(M 15 0,[]),(M 16 3,[]),(A 17 (.slcs (s 15) .none (.some (s 16))),[0,1]),(P 18 201 [s 17],Z3),(M 19 0,[]),(M 20 3,[]),(A 21 (.slcs (s 19) .none (.some (s 20))),[4,5]),(⟨S 22,N,v (.build [(I j 0),(.str ⟨#[]⟩),(I j 0)] [(0,F,(s 18)),(1,F,(s 21))])⟩,Z7)]
abbrev aEz:LA:=[W 3 2 22]
abbrev aIT:LA:=[⟨S 23,N,v (l (.agg 14) (c (.ept (.agg 14) [(.agg [(.str ⟨#[58,45]⟩),(.str ⟨#[33,61]⟩),(.str ⟨#[60,61]⟩),(.str ⟨#[62,61]⟩),(.str ⟨#[40]⟩),(.str ⟨#[41]⟩),(.str ⟨#[44]⟩),(.str ⟨#[46]⟩),(.str ⟨#[61]⟩),(.str ⟨#[60]⟩),(.str ⟨#[62]⟩),(.str ⟨#[43]⟩),(.str ⟨#[45]⟩),(.str ⟨#[42]⟩)])] 0 0)))⟩,lF 24 0]
abbrev aIS:LA:=[A 25 (b .lss (s 24) (B 14))]
abbrev aIR:LA:=[A 26 (.sidx (.some 14) (s 23) (s 24)),M 5 26]
abbrev aIQ:LA:=[M 27 0,M 28 5,P 29 202 [s 27,s 28]]
abbrev aIP:LA:=[M 30 5,⟨S 31,N,v (.build [(I j 0),(.str ⟨#[]⟩),(I j 0)] [(0,F,(B 5)),(1,F,(s 30))])⟩,W 3 2 31]
abbrev aIO:LA:=[lB 32 24,M 24 32]
abbrev aIY:aU:=(Q (O aIS) (Q (C (s 25) Z (X 0)) (Q (K 1 (Q (O aIR) (Q (O aIQ) (C (s 29) (Q (O aIP) .ret) Z)))) (O aIO))))
abbrev aE0:LA:=[⟨S 33,N,v (.build [(I j 0),(.str ⟨#[]⟩),(I j 0)] [])⟩,W 3 2 33]
def aVh:LFn:=⟨(Q (O aIX) (Q (Q (O aIW) (Q (O aIV) (C (s 14) (Q (D 8 aIU aEz) .ret) Z))) (Q (Q (O aIT) (K 0 (R aIY))) (Q (O aE0) .ret)))),34,[.cell 2 (.agg 3)]⟩
theorem aRu:aD Tryz.prog 187=some aVh:=Zz
abbrev aIN:LA:=[lF 2 0,A 3 (m (c .nilIface))]
abbrev aIM:LA:=[M 7 0,P 8 203 [s 7],M 6 8,lQ 9 6 0,lQ 10 6 1,M 4 9,M 5 10]
abbrev aIL:LA:=[M 11 5,A 12 (e true (.iface true) (s 11) (c .nilIface))]
abbrev aIK:LA:=[M 13 4,M 14 0,M 15 5,⟨S 16,N,k 204 [(c (.str ⟨#[65,116,111,105]⟩)),s 14,(B 0),(B 0),s 15]⟩,M 2 13,M 3 16]
abbrev aIJ:LA:=[M 17 4,M 2 17,A 3 (m (c .nilIface))]
def aSt:LFn:=⟨(Q (O aIN) (Q (O aIM) (Q (Q (O aIL) (C (s 12) (Q (O aIK) .ret) Z)) (Q (O aIJ) .ret)))),18,[.slot 2,.slot 3]⟩
theorem aDl:aD Tryz.prog 188=some aSt:=Zz
abbrev aII:LD:=[(H 4 1 1,[]),(E 5 4,[0]),(E 6 2,[]),(P 7 164 [s 6],[2]),(⟨S 8,N,y (.agg 4) [s 7]⟩,[2,3]),(lS 9 4 48 5 8,Z5),(H 10 1 1,Z6)]
abbrev aEy:LA:=[⟨N,N,t F (s 10) (s 9)⟩]
def aSs:LFn:=⟨(D 7 aII aEy),11,[]⟩
theorem aRt:aD Tryz.prog 189=some aSs:=Zz
abbrev aCy:LA:=[⟨S 2,N,x (.agg 6) (c (.agg [(I j 0),(.str ⟨#[]⟩),(I j 0),(I j 0),(.str ⟨#[]⟩),(.sl (.agg 6) .nil [])]))⟩]
abbrev aIG:LA:=[M 4 0,P 5 205 [s 4],⟨S 3,N,x (.agg 6) (c (.agg [(I j 0),(.str ⟨#[]⟩),(I j 0),(I j 0),(.str ⟨#[]⟩),(.sl (.agg 6) .nil [])]))⟩,W 6 3 5]
abbrev aIF:LA:=[M 8 0,⟨S 9,N,k 119 [s 8,(c (.str ⟨#[43]⟩))]⟩,M 7 9]
abbrev aIE:LD:=[(G 10 6 3,[]),(M 11 0,[]),(P 12 205 [s 11],[1]),(⟨S 13,N,y (.agg 6) [s 10,s 12]⟩,Z3),(⟨S 14,N,v (.build [(I j 0),(.str ⟨#[]⟩),(I j 0),(I j 0),(.str ⟨#[]⟩),(.sl (.agg 6) .nil [])] [(0,F,(B 1)),(5,F,(s 13))])⟩,Z4)]
abbrev aEx:LA:=[W 6 3 14]
abbrev aID:LA:=[M 16 0,⟨S 17,N,k 119 [s 16,(c (.str ⟨#[45]⟩))]⟩,M 15 17]
abbrev aIC:LD:=[(G 18 6 3,[]),(M 19 0,[]),(P 20 205 [s 19],[1]),(⟨S 21,N,y (.agg 6) [s 18,s 20]⟩,Z3),(⟨S 22,N,v (.build [(I j 0),(.str ⟨#[]⟩),(I j 0),(I j 0),(.str ⟨#[]⟩),(.sl (.agg 6) .nil [])] [(0,F,(B 2)),(5,F,(s 21))])⟩,Z4)]
abbrev aEw:LA:=[W 6 3 22]
abbrev aIB:LA:=[G 6 6 3,W 6 2 6]
abbrev aIH:aU:=(K 1 (K 2 (Q (O aIF) (C (s 7) (D 5 aIE aEx) (Q (O aID) (C (s 15) (D 5 aIC aEw) (Q (O aIB) .ret)))))))
def aSr:LFn:=⟨(Q (O aCy) (Q (O aIG) (K 0 (R aIH)))),23,[.cell 2 (.agg 6)]⟩
theorem aRs:aD Tryz.prog 190=some aSr:=Zz
abbrev aIA:LA:=[E 4 1,M 5 0,A 6 (.mget F [.str] (I j 0) false (s 4) (s 5)),A 7 (b .eql (s 6) (B 0)),M 3 7]
def aVg:LFn:=⟨(Q (O aEL) (Q (O aIA) .ret)),8,[.slot 3]⟩
theorem aRr:aD Tryz.prog 193=some aVg:=Zz
abbrev aH9:LA:=[M 5 0,M 6 1,P 7 207 [s 5,s 6],M 4 7]
def aVf:LFn:=⟨(Q (O aBX) (Q (O aH9) .ret)),8,[.slot 4]⟩
theorem aRq:aD Tryz.prog 198=some aVf:=Zz
abbrev aEG:LA:=[⟨S 4,N,v (m (c (.str ⟨#[]⟩)))⟩,⟨S 5,N,v (m (c (.str ⟨#[]⟩)))⟩,lG 6]
abbrev aH8:LA:=[M 7 0,M 8 1,P 9 208 [s 7,s 8],lQ 10 9 0,lQ 11 9 1,lQ 12 9 2,M 4 10,M 5 11,M 6 12]
def aVe:LFn:=⟨(Q (O aEG) (Q (O aH8) .ret)),13,[.slot 4,.slot 5,.slot 6]⟩
theorem aRp:aD Tryz.prog 199=some aVe:=Zz
abbrev aH6:LA:=[M 4 3,M 5 0,A 6 (.slen (s 5)),lA 7 4 6,M 8 7,lJ 9 8 0,lJ 10 8 3,T 11 8 (.sidx .none (s 9) (s 10)),⟨S 12,S (8,true),k 209 [s 11]⟩,lJ 13 8 12,lM 14 13 0,lM 15 13 3,U 16 13 (.sidx .none (s 14) (s 15)),⟨S 17,S (13,false),k 210 [s 16]⟩,T 18 8 (p (s 13) Bb (s 17)),lJ 19 8 18,lM 20 19 0,lM 21 19 3,U 22 19 (.sidx .none (s 20) (s 21)),⟨S 23,S (19,false),k 211 [s 22]⟩,T 24 8 (p (s 19) Bb (s 23)),lJ 25 8 24,lM 26 25 0,lM 27 25 3,U 28 25 (.sidx .none (s 26) (s 27)),U 29 25 (b .eql (s 28) (c (.int .u8 95))),T 30 8 (p (s 25) Bb (s 29)),lI 31 8 30]
abbrev aH5:LA:=[M 32 3,lB 33 32,M 3 33]
abbrev aH7:aU:=(Q (Q (O aH6) (C (s 31) Z (X 0))) (K 1 (O aH5)))
abbrev aH4:LA:=[M 34 3,M 2 34]
def aVd:LFn:=⟨(Q (O aCE) (Q (O aI6) (Q (K 0 (R aH7)) (Q (O aH4) .ret)))),35,[.slot 2]⟩
theorem aRo:aD Tryz.prog 200=some aVd:=Zz
abbrev aH3:LA:=[⟨S 6,N,v (.pslc 8 F (c (.ept (.agg 8) [(.agg [(.str ⟨#[114,101,108]⟩),(.str ⟨#[105,110,116]⟩),(.str ⟨#[115,121,109]⟩),(.str ⟨#[110,111,116]⟩),(.str ⟨#[99,111,117,110,116]⟩),(.str ⟨#[115,117,109]⟩),(.str ⟨#[109,105,110]⟩),(.str ⟨#[109,97,120]⟩)])] 0 0)) .none)⟩,M 7 0,P 8 41 [s 6,s 7],M 5 8]
abbrev aH2:LA:=[M 10 0,P 11 98 [s 10],M 9 11]
abbrev aH1:LA:=[M 13 0,A 14 (.sidx .none (s 13) (B 0)),P 15 210 [s 14],M 16 15,lJ 17 16 0,T 18 16 (.slen (s 17)),T 19 16 (b .leq (s 18) (B 32)),lI 20 16 19,M 12 20]
abbrev aH0:LA:=[M 22 0,P 23 188 [s 22],M 21 23,lQ 24 21 0,lQ 25 21 1,M 3 24,M 4 25]
abbrev aHz:LA:=[M 26 4,A 27 (e false (.iface true) (s 26) (c .nilIface)),M 28 27,lJ 29 28 3,T 30 28 (b .leq (s 29) (B 2147483647)),lI 31 28 30,M 32 31,lJ 33 32 3,⟨S 34,S (32,true),k 212 [s 33]⟩,lJ 35 32 0,T 36 32 (b .eql (s 34) (s 35)),lI 37 32 36]
abbrev aHy:LA:=[lF 2 4]
def aVc:LFn:=⟨(Q (O aCE) (Q (K 0 (Q (O aH3) (C (s 5) (Q (O aG6) .ret) (Q (O aH2) (C (s 9) (Q (O aG5) .ret) (Q (O aH1) (C (s 12) (Q (O aG4) .ret) Z))))))) (Q (Q (O aH0) (Q (O aHz) (C (s 37) (Q (O aHy) .ret) Z))) (Q (O aCE) .ret)))),38,[.slot 2]⟩
theorem aB6:aD Tryz.prog 201=some aVc:=Zz
abbrev aHx:LA:=[M 5 0,M 6 1,P 7 213 [s 5,s 6],M 4 7]
def aVb:LFn:=⟨(Q (O aBH) (Q (O aHx) .ret)),8,[.slot 4]⟩
theorem aRn:aD Tryz.prog 202=some aVb:=Zz
abbrev aHw:LA:=[A 10 (m (c .nilIface))]
abbrev aHv:LA:=[M 11 4]
abbrev aHu:LA:=[A 13 (.mkif 290 (B 2)),A 14 (e false (.iface false) (s 11) (s 13)),M 12 14]
abbrev aHt:LA:=[M 15 0,M 16 1,P 17 215 [s 15,s 16],A 18 (.mkif 294 (s 17)),M 10 18]
abbrev aHs:LA:=[A 20 (.mkif 290 (B 1)),A 21 (e false (.iface false) (s 11) (s 20)),M 19 21]
abbrev aHr:LA:=[M 22 0,M 23 1,P 24 216 [s 22,s 23],A 25 (.mkif 294 (s 24)),M 10 25]
abbrev aHq:LA:=[A 27 (.mkif 290 (B 3)),A 28 (e false (.iface false) (s 11) (s 27)),M 26 28]
abbrev aHp:LA:=[M 29 0,M 30 1,M 31 2,P 32 217 [s 29,s 30,s 31],A 33 (.mkif 294 (s 32)),M 10 33]
abbrev aHo:LA:=[A 35 (.mkif 290 (B 4)),A 36 (e false (.iface false) (s 11) (s 35)),M 34 36]
abbrev aHn:LA:=[M 37 0,M 38 1,M 39 3,P 40 218 [s 37,s 38,s 39],A 41 (.mkif 294 (s 40)),M 10 41]
abbrev aEv:LA:=[M 42 4,M 10 42]
def aSq:LFn:=⟨(Q (O aHw) (Q (Q (O aHv) (K 0 (Q (O aHu) (C (s 12) (Q (O aHt) .ret) (Q (O aHs) (C (s 19) (Q (O aHr) .ret) (Q (O aHq) (C (s 26) (Q (O aHp) .ret) (Q (O aHo) (C (s 34) (Q (O aHn) .ret) Z)))))))))) (Q (O aEv) .ret))),43,[.slot 10]⟩
theorem aRm:aD Tryz.prog 204=some aSq:=Zz
abbrev aHc:LA:=[M 4 0,P 5 219 [s 4],⟨S 3,N,x (.agg 6) (c (.agg [(I j 0),(.str ⟨#[]⟩),(I j 0),(I j 0),(.str ⟨#[]⟩),(.sl (.agg 6) .nil [])]))⟩,W 6 3 5]
abbrev aHb:LA:=[M 6 0,⟨S 7,N,k 119 [s 6,(c (.str ⟨#[42]⟩))]⟩]
abbrev aHa:LD:=[(G 8 6 3,[]),(M 9 0,[]),(P 10 219 [s 9],[1]),(⟨S 11,N,y (.agg 6) [s 8,s 10]⟩,Z3),(⟨S 12,N,v (.build [(I j 0),(.str ⟨#[]⟩),(I j 0),(I j 0),(.str ⟨#[]⟩),(.sl (.agg 6) .nil [])] [(0,F,(B 3)),(5,F,(s 11))])⟩,Z4)]
abbrev aEu:LA:=[W 6 3 12]
abbrev aHd:aU:=(Q (Q (O aHb) (C (s 7) Z (X 0))) (K 1 (D 5 aHa aEu)))
abbrev aHZ:LA:=[G 13 6 3,W 6 2 13]
def aSp:LFn:=⟨(Q (O aCy) (Q (O aHc) (Q (K 0 (R aHd)) (Q (O aHZ) .ret)))),14,[.cell 2 (.agg 6)]⟩
theorem aRl:aD Tryz.prog 205=some aSp:=Zz
abbrev aHY:LA:=[M 8 0,M 9 1,P 10 222 [s 8,s 9],M 7 10]
abbrev aHX:LD:=[(M 13 0,[]),(M 14 7,[]),(A 15 (.slcs (s 13) .none (.some (s 14))),[0,1]),(M 16 0,[]),(M 17 7,[]),(M 18 1,[]),(A 19 (.slen (s 18)),[5]),(A 20 (b .add (s 17) (s 19)),[4,5,6]),(A 21 (.slcs (s 16) (.some (s 20)) .none),[3,4,5,6,7]),(M 4 15,Z3),(M 5 21,Z10),(A 6 (m Bb),Z11)]
abbrev aHW:LA:=[M 22 0,M 4 22,⟨S 5,N,v (m (c (.str ⟨#[]⟩)))⟩,lG 6]
def aVZ:LFn:=⟨(Q (O aEG) (Q (Q (O aHY) (Q (O aGM) (C (s 12) (Q (D 12 aHX aAe) .ret) Z))) (Q (O aHW) .ret))),23,[.slot 4,.slot 5,.slot 6]⟩
theorem aLA:aD Tryz.prog 208=some aVZ:=Zz
def aVY:LFn:=⟨(Q (O aAt) (Q (O aEK) .ret)),9,[.slot 2]⟩
theorem aRk:aD Tryz.prog 209=some aVY:=Zz
abbrev aHV:LA:=[M 3 0,A 4 (b .geq (s 3) (c (.int .u8 65))),M 5 4,lJ 6 5 0,T 7 5 (b .leq (s 6) (c (.int .u8 90))),lI 8 5 7,M 2 8]
def aVX:LFn:=⟨(Q (O aAt) (Q (O aHV) .ret)),9,[.slot 2]⟩
theorem aRj:aD Tryz.prog 210=some aVX:=Zz
abbrev aHU:LA:=[M 3 0,A 4 (b .geq (s 3) (c (.int .u8 48))),M 5 4,lJ 6 5 0,T 7 5 (b .leq (s 6) (c (.int .u8 57))),lI 8 5 7,M 2 8]
def aVW:LFn:=⟨(Q (O aAt) (Q (O aHU) .ret)),9,[.slot 2]⟩
theorem aRi:aD Tryz.prog 211=some aVW:=Zz
abbrev aHT:LA:=[M 3 0,P 4 223 [s 3],M 2 4]
def aSo:LFn:=⟨(Q (O aEH) (Q (O aHT) .ret)),5,[.slot 2]⟩
theorem aRh:aD Tryz.prog 212=some aSo:=Zz
abbrev aHS:LA:=[M 5 0,A 6 (.slen (s 5)),M 7 1,A 8 (.slen (s 7)),A 9 (b .geq (s 6) (s 8)),M 10 9,lJ 11 10 0,lJ 12 10 1,T 13 10 (.slen (s 12)),T 14 10 (.slcs (s 11) .none (.some (s 13))),lJ 15 10 1,T 16 10 (b .eql (s 14) (s 15)),lI 17 10 16,M 4 17]
def aVV:LFn:=⟨(Q (O aBH) (Q (O aHS) .ret)),18,[.slot 4]⟩
theorem aRg:aD Tryz.prog 213=some aVV:=Zz
abbrev aEF:LA:=[A 6 (m (c .nilPtr))]
abbrev aHR:LA:=[M 7 0,M 8 1,P 9 225 [s 8],M 10 2,P 11 212 [s 10],⟨S 12,N,v (b .add (c (.str ⟨#[105,110,118,97,108,105,100,32,98,97,115,101,32]⟩)) (s 11))⟩,P 13 226 [s 12],⟨S 14,N,v (.build [(.str ⟨#[]⟩),(.str ⟨#[]⟩),.nilIface] [(0,F,(s 7)),(1,F,(s 9)),(2,F,(s 13))])⟩,Y 15 3 14,M 6 15]
def aSn:LFn:=⟨(Q (O aEF) (Q (O aHR) .ret)),16,[.slot 6]⟩
theorem aRf:aD Tryz.prog 217=some aSn:=Zz
abbrev aHQ:LA:=[M 7 0,M 8 1,P 9 225 [s 8],M 10 2,P 11 212 [s 10],⟨S 12,N,v (b .add (c (.str ⟨#[105,110,118,97,108,105,100,32,98,105,116,32,115,105,122,101,32]⟩)) (s 11))⟩,P 13 226 [s 12],⟨S 14,N,v (.build [(.str ⟨#[]⟩),(.str ⟨#[]⟩),.nilIface] [(0,F,(s 7)),(1,F,(s 9)),(2,F,(s 13))])⟩,Y 15 3 14,M 6 15]
def aSm:LFn:=⟨(Q (O aEF) (Q (O aHQ) .ret)),16,[.slot 6]⟩
theorem aRe:aD Tryz.prog 218=some aSm:=Zz
abbrev aHP:LA:=[M 4 0,⟨S 5,N,k 165 [s 4,(c (.str ⟨#[40]⟩))]⟩,A 6 (.not (s 5))]
abbrev aHO:LA:=[M 7 0,P 8 164 [s 7],⟨S 9,N,v (.build [(I j 0),(.str ⟨#[]⟩),(I j 0),(I j 0),(.str ⟨#[]⟩),(.sl (.agg 6) .nil [])] [(1,(.agg 4),(s 8))])⟩,W 6 2 9]
abbrev aHN:LA:=[M 10 0,lR 11 10,H 12 3 11,E 13 12,A 14 (b .geq (s 13) (B 20))]
abbrev aHM:LA:=[M 15 0,M 16 0,P 17 117 [s 16],P 18 116 [s 15,s 17,(B 4)]]
abbrev aHL:LA:=[⟨S 19,N,v (.build [(I j 0),(.str ⟨#[]⟩),(I j 0),(I j 0),(.str ⟨#[]⟩),(.sl (.agg 6) .nil [])] [])⟩,W 6 2 19]
abbrev aHK:LA:=[M 20 0,lR 21 20,H 22 3 21,E 23 22,lB 24 23,lR 25 20,H 26 3 25,⟨N,N,t F (s 26) (s 24)⟩]
abbrev aHJ:LA:=[M 27 0,⟨S 28,N,k 121 [s 27,(c (.str ⟨#[40]⟩))]⟩]
abbrev aHI:LA:=[M 29 0,P 30 190 [s 29],⟨S 3,N,x (.agg 6) (c (.agg [(I j 0),(.str ⟨#[]⟩),(I j 0),(I j 0),(.str ⟨#[]⟩),(.sl (.agg 6) .nil [])]))⟩,W 6 3 30]
abbrev aEt:LA:=[M 33 0,lR 34 33,H 35 3 34,E 36 35,A 37 (b .sub (s 36) (B 1)),lR 38 33,H 39 3 38,⟨N,N,t F (s 39) (s 37)⟩]
abbrev aEs:LA:=[G 40 6 3,W 6 2 40]
def aSl:LFn:=⟨(Q (O aCy) (Q (Q (O aHP) (C (s 6) (Q (O aHO) .ret) Z)) (Q (Q (O aHN) (C (s 14) (Q (O aHM) (Q (O aHL) .ret)) Z)) (Q (O aHK) (Q (O aHJ) (Q (O aHI) (Q (O aEI) (Q (O aEt) (Q (O aEs) .ret))))))))),41,[.cell 2 (.agg 6)]⟩
theorem aRd:aD Tryz.prog 219=some aSl:=Zz
abbrev aHH:LA:=[A 2 (m (c .nilIface))]
abbrev aHG:LA:=[M 3 0,⟨S 4,N,v (.build [(.str ⟨#[]⟩)] [(0,F,(s 3))])⟩,Y 5 1 4,A 6 (.mkif 311 (s 5)),M 2 6]
def aSk:LFn:=⟨(Q (O aHH) (Q (O aHG) .ret)),7,[.slot 2]⟩
theorem aRc:aD Tryz.prog 226=some aSk:=Zz
end L
end Go.Proofs.YtgbiopfghdilnaaGreatDoor
