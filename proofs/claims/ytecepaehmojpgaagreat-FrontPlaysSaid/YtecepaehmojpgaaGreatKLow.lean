/-
The functions of the code,lowered:printed by a program,checked by the kernel. No conditions.
-/
import Derived.Test.YtecepaehmojpgaaGreatKcb
import Derived.Test.YtecepaehmojpgaaGreatProg
namespace Go.Proofs.YtecepaehmojpgaaGreat
open Go.RowKit
open aP renaming slot→s,const→c
open bR renaming move→m,load→l,aHk→f,bin→b,eq→e,aBq→i,pick→p,ext→q,nilCheck→n,len→w
open LOp renaming val→v,call→k,box→x,aAi→y,append→a,store→t
open aZ renaming seq→Q,ops→O,cond→C,block→K,loop→R,skip→Z,exit→X,draw→D
open Sh renaming leaf→F
open V renaming int→I
open Go.IntKind renaming i64→j
open Option renaming some→S,none→N
namespace L
abbrev A(n:Nat)(x:bR):aA:=⟨S n,N,v x⟩
abbrev M(n i:Nat):=A n (m (s i))
abbrev E(n i:Nat):=A n (l F (s i))
abbrev G(n k i:Nat):=A n (l (.agg k) (s i))
abbrev H(n k i:Nat):=A n (f k (s i))
abbrev W(k i o:Nat):aA:=⟨N,N,t (.agg k) (s i) (s o)⟩
abbrev Y(n k i:Nat):aA:=⟨S n,N,x (.agg k) (s i)⟩
abbrev P(n i:Nat)(x:List aP):aA:=⟨S n,N,k i x⟩
abbrev T(n i:Nat)(x:bR):aA:=⟨S n,S (i,true),v x⟩
abbrev U(n i:Nat)(x:bR):aA:=⟨S n,S (i,false),v x⟩
abbrev B(n:Int):=c (I j n)
abbrev Ba:=c (.bool false)
abbrev Bb:=c (.bool true)
abbrev Z3:List Nat:=[0,1,2]
abbrev Z4:List Nat:=[0,1,2,3]
abbrev Z5:List Nat:=[0,1,2,3,4]
abbrev Z6:List Nat:=[0,1,2,3,4,5]
abbrev Z7:List Nat:=[0,1,2,3,4,5,6]
abbrev Z8:List Nat:=[0,1,2,3,4,5,6,7]
abbrev Z9:List Nat:=[0,1,2,3,4,5,6,7,8]
abbrev Z10:List Nat:=[0,1,2,3,4,5,6,7,8,9]
abbrev Z11:List Nat:=[0,1,2,3,4,5,6,7,8,9,10]
abbrev Z12:List Nat:=[0,1,2,3,4,5,6,7,8,9,10,11]
abbrev Z13:List Nat:=[0,1,2,3,4,5,6,7,8,9,10,11,12]
abbrev Z14:List Nat:=[0,1,2,3,4,5,6,7,8,9,10,11,12,13]
abbrev Z15:List Nat:=[0,1,2,3,4,5,6,7,8,9,10,11,12,13,14]
abbrev Z16:List Nat:=[0,1,2,3,4,5,6,7,8,9,10,11,12,13,14,15]
abbrev Z17:List Nat:=[0,1,2,3,4,5,6,7,8,9,10,11,12,13,14,15,16]
abbrev Z18:List Nat:=[0,1,2,3,4,5,6,7,8,9,10,11,12,13,14,15,16,17]
abbrev Z19:List Nat:=[0,1,2,3,4,5,6,7,8,9,10,11,12,13,14,15,16,17,18]
abbrev Z20:List Nat:=[0,1,2,3,4,5,6,7,8,9,10,11,12,13,14,15,16,17,18,19]
abbrev Z21:List Nat:=[0,1,2,3,4,5,6,7,8,9,10,11,12,13,14,15,16,17,18,19,20]
abbrev Z22:List Nat:=[0,1,2,3,4,5,6,7,8,9,10,11,12,13,14,15,16,17,18,19,20,21]
abbrev Z23:List Nat:=[0,1,2,3,4,5,6,7,8,9,10,11,12,13,14,15,16,17,18,19,20,21,22]
abbrev Z24:List Nat:=[0,1,2,3,4,5,6,7,8,9,10,11,12,13,14,15,16,17,18,19,20,21,22,23]
abbrev Z25:List Nat:=[0,1,2,3,4,5,6,7,8,9,10,11,12,13,14,15,16,17,18,19,20,21,22,23,24]
abbrev Z26:List Nat:=[0,1,2,3,4,5,6,7,8,9,10,11,12,13,14,15,16,17,18,19,20,21,22,23,24,25]
abbrev Z27:List Nat:=[0,1,2,3,4,5,6,7,8,9,10,11,12,13,14,15,16,17,18,19,20,21,22,23,24,25,26]
abbrev Z28:List Nat:=[0,1,2,3,4,5,6,7,8,9,10,11,12,13,14,15,16,17,18,19,20,21,22,23,24,25,26,27]
abbrev Z29:List Nat:=[0,1,2,3,4,5,6,7,8,9,10,11,12,13,14,15,16,17,18,19,20,21,22,23,24,25,26,27,28]
abbrev Z30:List Nat:=[0,1,2,3,4,5,6,7,8,9,10,11,12,13,14,15,16,17,18,19,20,21,22,23,24,25,26,27,28,29]
abbrev Z31:List Nat:=[0,1,2,3,4,5,6,7,8,9,10,11,12,13,14,15,16,17,18,19,20,21,22,23,24,25,26,27,28,29,30]
abbrev Z33:List Nat:=[0,1,2,3,4,5,6,7,8,9,10,11,12,13,14,15,16,17,18,19,20,21,22,23,24,25,26,27,28,29,30,31,32]
abbrev LA:=List aA
abbrev LD:=List (aA×List Nat)
abbrev lA(n i o:Nat):=A n (b .lss (s i) (s o))
abbrev lB(n i:Nat):=A n (b .add (s i) (B 1))
abbrev lC(n k o z:Nat):=A n (i (.agg k) (s o) (s z))
abbrev lE(n o z:Nat):=A n (i F (s o) (s z))
abbrev lF(n:Nat)(z:Int):=A n (m (B z))
abbrev lG(n:Nat):=A n (m Ba)
abbrev lH(n i o:Nat):=A n (p (s i) Bb (s o))
abbrev lI(n i o:Nat):=A n (p (s i) (s o) Ba)
abbrev lJ(n i o:Nat):=T n i (m (s o))
abbrev lK(n i o:Nat):=T n i (l F (s o))
abbrev lL(n i k o:Nat):=T n i (f k (s o))
abbrev lM(n i o:Nat):=U n i (m (s o))
abbrev lN(n i o:Nat):=U n i (l F (s o))
abbrev lO(n i k o:Nat):=U n i (f k (s o))
abbrev lP(n i:Nat):=A n (w (s i))
abbrev lQ(n i o:Nat):=A n (q (s i) o)
abbrev lR(o i:Nat):=A o (n (s i))
abbrev lS(n k z i o:Nat):aA:=⟨S n,N,a (.agg k) z (s i) (s o)⟩
attribute[go_sem] A M E G H W Y P T U B Ba Bb Z3 Z4 Z5 Z6 Z7 Z8 Z9 Z10 Z11 Z12 Z13 Z14 Z15 Z16 Z17 Z18 Z19 Z20 Z21 Z22 Z23 Z24 Z25 Z26 Z27 Z28 Z29 Z30 Z31 Z33 lA lB lC lE lF lG lH lI lJ lK lL lM lN lO lP lQ lR lS
abbrev aVt:LA:=[Y 3 2 0,lG 6]
abbrev aYo:LA:=[P 18 7 [],A 19 (.not (s 18))]
abbrev aIc:LA:=[lG 6]
abbrev aYn:LA:=[G 20 2 3,M 21 1,M 22 2,P 23 8 [s 20,s 21,s 22]]
abbrev aN6:LA:=[A 6 (m Bb)]
abbrev aYm:LA:=[G 25 2 3,M 26 1,P 27 9 [s 25,(B 3),s 26],M 24 27,lQ 28 24 0,lQ 29 24 1,M 7 28,M 8 29]
abbrev aYl:LA:=[G 31 2 3,P 32 14 [s 31],M 33 1,P 34 16 [s 33],P 35 15 [s 32,(B 3),s 34],M 30 35,lQ 36 30 0,lQ 37 30 1,⟨S 9,N,x (.agg 5) (c (.agg [(I j 0),(.sl (.agg 4) .nil []),(.sl (.agg 4) .nil []),(.sl F .nil []),(.sl (.agg 3) .nil [])]))⟩,W 5 9 36,M 10 37]
abbrev aYk:LA:=[M 38 8,P 39 25 [s 38],M 40 10,A 41 (b .neq (s 39) (s 40)),M 42 41,lM 43 42 10,U 44 42 (b .neq (s 43) (B 0)),lH 45 42 44]
abbrev aYj:LA:=[M 46 8,P 47 25 [s 46],M 48 10,A 49 (b .eql (s 47) (s 48)),M 50 49,lJ 51 50 7,T 52 50 (e false .ptr (s 51) (c .aAJ)),lI 53 50 52,M 6 53]
abbrev aYi:LA:=[M 54 2,lP 55 54,lF 56 0]
abbrev aLs:LA:=[lA 57 56 55]
abbrev aTx:LA:=[lC 58 7 54 56,G 59 7 58,⟨S 12,N,x (.agg 7) (c (.agg [(.bool false),(I j 0),(I j 0),(I j 0),(I j 0),(I j 0),(.sl (.agg 3) .nil [])]))⟩,W 7 12 59]
abbrev aTw:LA:=[A 13 (m (c .nilIface))]
abbrev aId:LA:=[lF 14 0]
abbrev aTv:LA:=[H 60 0 12,E 61 60]
abbrev aTu:LA:=[M 62 7,H 63 1 12,E 64 63,H 65 2 12,E 66 65,P 67 10 [s 62,s 64,s 66],M 13 67]
abbrev aTt:LA:=[G 69 5 9,H 70 1 12,E 71 70,H 72 2 12,E 73 72,P 74 29 [s 69,s 71,s 73],M 68 74,lQ 75 68 0,lQ 76 68 1,W 5 9 75,M 14 76]
abbrev aTs:LA:=[M 77 7,H 78 1 12,E 79 78,H 80 3 12,G 81 3 80,H 82 6 12,E 83 82,P 84 11 [s 77,s 79,s 81,s 83],M 13 84]
abbrev aTr:LD:=[(G 86 5 9,[]),(H 87 1 12,[]),(E 88 87,[1]),(H 89 3 12,[]),(G 90 3 89,[3]),(⟨S 91,N,.aAc 24 [s 90] [s 9,s 87]⟩,[3,4]),(H 92 6 12,[]),(E 93 92,[6]),(⟨S 94,N,.aAc 16 [s 93] [s 9,s 87]⟩,[3,4,5,6,7]),(⟨S 95,N,.aAc 30 [s 86,s 88,s 91,s 94] []⟩,Z9),(M 85 95,Z10),(lQ 96 85 0,Z11),(lQ 97 85 1,Z11),(W 5 9 96,Z12),(M 14 97,Z14)]
abbrev aAO:LA:=[]
abbrev aTq:LD:=[(M 98 13,[]),(P 99 25 [s 98],[0]),(M 100 14,[]),(A 101 (b .neq (s 99) (s 100)),Z3),(M 102 101,Z4),(lM 103 102 7,Z5),(lO 104 102 1 12,Z5),(lN 105 102 104,[0,1,2,3,4,6]),(lO 106 102 2 12,Z5),(lN 107 102 106,[0,1,2,3,4,8]),(⟨S 108,S (102,false),k 26 [s 103,s 105,s 107]⟩,Z10),(U 109 102 (l (.agg 5) (s 9)),Z5),(lO 110 102 1 12,Z5),(lN 111 102 110,[0,1,2,3,4,12]),(lO 112 102 2 12,Z5),(lN 113 102 112,[0,1,2,3,4,14]),(⟨S 114,S (102,false),k 31 [s 109,s 111,s 113]⟩,Z16),(U 115 102 (b .neq (s 108) (s 114)),Z17),(lH 116 102 115,Z18)]
abbrev aTp:LA:=[lB 117 56,M 56 117]
abbrev aNj:aZ:=(Q (O aLs) (Q (C (s 57) Z (X 0)) (Q (K 1 (Q (O aTx) (Q (O aTw) (Q (O aId) (Q (Q (O aTv) (C (s 61) (Q (O aTu) (O aTt)) (Q (O aTs) (D 15 aTr aAO)))) (Q (D 19 aTq aAO) (C (s 116) (Q (O aIc) .ret) Z))))))) (O aTp))))
abbrev aHi:LA:=[M 118 1,M 119 2,P 120 32 [s 118,s 119],M 15 120]
abbrev aFn:LA:=[H 121 3 9,E 122 121,lP 123 122,lF 124 0]
abbrev aTo:LA:=[lA 125 124 123]
abbrev aTn:LA:=[M 126 124,lE 127 122 124,E 128 127,M 16 126,M 17 128]
abbrev aTm:LA:=[M 129 7,M 130 16,P 131 28 [s 129,s 130],M 132 17,M 133 15,P 134 33 [s 131,s 132,s 133],A 135 (.not (s 134))]
abbrev aTl:LA:=[lB 136 124,M 124 136]
abbrev aNi:aZ:=(Q (O aTo) (Q (C (s 125) Z (X 2)) (Q (K 3 (Q (O aTn) (Q (O aTm) (C (s 135) (Q (O aIc) .ret) Z)))) (O aTl))))
abbrev aDw:LD:=[(M 137 7,[]),(P 138 18 [s 137],[0]),(A 139 (b .eql (s 138) (B 3)),[0,1]),(M 140 139,Z3),(lJ 141 140 7,Z4),(⟨S 142,S (140,true),k 17 [s 141]⟩,Z5),(lL 143 140 4 9,Z4),(lK 144 140 143,[0,1,2,3,6]),(T 145 140 (w (s 144)),[0,1,2,3,6,7]),(T 146 140 (b .eql (s 145) (B 0)),[0,1,2,3,6,7,8]),(T 147 140 (e false (.plain F [.bool]) (s 142) (s 146)),Z10),(lI 148 140 147,Z11),(M 149 148,Z12),(lJ 150 149 7,Z13),(⟨S 151,S (149,true),k 19 [s 150]⟩,Z14),(lL 152 149 2 9,Z13),(lK 153 149 152,[0,1,2,3,4,5,6,7,8,9,10,11,12,15]),(lJ 154 149 15,Z13),(⟨S 155,S (149,true),k 33 [s 151,s 153,s 154]⟩,Z18),(lI 156 149 155,Z19),(M 157 156,Z20),(lJ 158 157 7,Z21),(⟨S 159,S (157,true),k 28 [s 158,(B 3)]⟩,Z22),(T 160 157 (e false .ptr (s 159) (c .aAJ)),Z23),(lI 161 157 160,Z24),(M 162 161,Z25),(lJ 163 162 7,Z26),(⟨S 164,S (162,true),k 28 [s 163,(B (-1))]⟩,Z27),(T 165 162 (e false .ptr (s 164) (c .aAJ)),Z28),(lI 166 162 165,Z29),(M 6 166,Z30)]
abbrev aDN:LA:=[]
def g0:LFn:=⟨(Q (O aVt) (Q (Q (O aYo) (C (s 19) (Q (O aIc) .ret) Z)) (Q (Q (O aYn) (C (s 23) (Q (O aN6) .ret) Z)) (Q (O aYm) (Q (O aYl) (Q (Q (O aYk) (C (s 45) (Q (O aYj) .ret) Z)) (Q (Q (O aYi) (K 0 (R aNj))) (Q (O aHi) (Q (Q (O aFn) (K 2 (R aNi))) (Q (D 31 aDw aDN) .ret)))))))))),167,[.slot 6]⟩
theorem g0z:aH Tryz.prog 6=some g0:=Zz
abbrev aS5:LA:=[lG 0]
abbrev aYX:LA:=[P 8 34 [],M 7 8,lQ 9 7 0,lQ 10 7 1,lQ 11 7 2,lQ 12 7 3,⟨S 2,N,x (.agg 3) (c (.agg [(I j 0),(I j 0),(I j 0)]))⟩,⟨S 3,N,x (.agg 3) (c (.agg [(I j 0),(I j 0),(I j 0)]))⟩,M 1 9,W 3 2 10,W 3 3 11,M 4 12]
abbrev aYW:LA:=[M 13 4,A 14 (.not (s 13)),M 15 14,lM 16 15 1,U 17 15 (l (.agg 3) (s 2)),U 18 15 (l (.agg 3) (s 3)),⟨S 19,S (15,false),y (.agg 3) [s 18]⟩,⟨S 20,S (15,false),k 11 [s 16,(B 0),s 17,s 19]⟩,U 21 15 (e true (.iface true) (s 20) (c .nilIface)),lH 22 15 21,M 23 22,lM 24 23 1,⟨S 25,S (23,false),k 26 [s 24,(B 0),(B 1)]⟩,U 26 23 (b .neq (s 25) (B 1)),lH 27 23 26]
abbrev aYV:LA:=[M 28 1,P 29 20 [s 28,(B 1)],M 5 29]
abbrev aYU:LA:=[M 30 1,P 31 10 [s 30,(B 0),(B 1)],A 32 (e true (.iface true) (s 31) (c .nilIface)),M 33 32,lM 34 33 1,⟨S 35,S (33,false),k 17 [s 34]⟩,U 36 33 (.not (s 35)),lH 37 33 36]
abbrev aYT:LA:=[M 38 1,P 39 20 [s 38,(B 1)],M 6 39]
abbrev aYS:LD:=[(M 40 5,[]),(lP 41 40,[0]),(A 42 (b .eql (s 41) (B 2)),[0,1]),(M 43 42,Z3),(lJ 44 43 6,Z4),(T 45 43 (w (s 44)),Z5),(T 46 43 (b .eql (s 45) (B 2)),Z6),(lI 47 43 46,Z7),(M 48 47,Z8),(lJ 49 48 5,Z9),(T 50 48 (i F (s 49) (B 1)),Z10),(lK 51 48 50,Z11),(T 52 48 (w (s 51)),Z12),(T 53 48 (b .eql (s 52) (B 1)),Z13),(lI 54 48 53,Z14),(M 55 54,Z15),(lJ 56 55 6,Z16),(T 57 55 (i F (s 56) (B 1)),Z17),(lK 58 55 57,Z18),(T 59 55 (w (s 58)),Z19),(T 60 55 (b .eql (s 59) (B 1)),Z20),(lI 61 55 60,Z21),(M 62 61,Z22),(lJ 63 62 5,Z23),(T 64 62 (i F (s 63) (B 1)),Z24),(lK 65 62 64,Z25),(T 66 62 (i (.agg 2) (s 65) (B 0)),Z26),(T 67 62 (l (.agg 2) (s 66)),Z27),(lL 68 62 1 3,Z23),(T 69 62 (l (.agg 2) (s 68)),[0,1,2,3,4,5,6,7,8,9,10,11,12,13,14,15,16,17,18,19,20,21,22,28]),(T 70 62 (e false (.plain (.agg 2) [.int,.int]) (s 67) (s 69)),Z30),(lI 71 62 70,Z31),(M 72 71,[0,1,2,3,4,5,6,7,8,9,10,11,12,13,14,15,16,17,18,19,20,21,22,23,24,25,26,27,28,29,30,31]),(lJ 73 72 6,Z33),(T 74 72 (i F (s 73) (B 1)),[0,1,2,3,4,5,6,7,8,9,10,11,12,13,14,15,16,17,18,19,20,21,22,23,24,25,26,27,28,29,30,31,32,33]),(lK 75 72 74,[0,1,2,3,4,5,6,7,8,9,10,11,12,13,14,15,16,17,18,19,20,21,22,23,24,25,26,27,28,29,30,31,32,33,34]),(T 76 72 (i (.agg 2) (s 75) (B 0)),[0,1,2,3,4,5,6,7,8,9,10,11,12,13,14,15,16,17,18,19,20,21,22,23,24,25,26,27,28,29,30,31,32,33,34,35]),(T 77 72 (l (.agg 2) (s 76)),[0,1,2,3,4,5,6,7,8,9,10,11,12,13,14,15,16,17,18,19,20,21,22,23,24,25,26,27,28,29,30,31,32,33,34,35,36]),(lL 78 72 1 3,Z33),(T 79 72 (l (.agg 2) (s 78)),[0,1,2,3,4,5,6,7,8,9,10,11,12,13,14,15,16,17,18,19,20,21,22,23,24,25,26,27,28,29,30,31,32,38]),(T 80 72 (e false (.plain (.agg 2) [.int,.int]) (s 77) (s 79)),[0,1,2,3,4,5,6,7,8,9,10,11,12,13,14,15,16,17,18,19,20,21,22,23,24,25,26,27,28,29,30,31,32,33,34,35,36,37,38,39]),(lI 81 72 80,[0,1,2,3,4,5,6,7,8,9,10,11,12,13,14,15,16,17,18,19,20,21,22,23,24,25,26,27,28,29,30,31,32,33,34,35,36,37,38,39,40]),(M 82 81,[0,1,2,3,4,5,6,7,8,9,10,11,12,13,14,15,16,17,18,19,20,21,22,23,24,25,26,27,28,29,30,31,32,33,34,35,36,37,38,39,40,41]),(lJ 83 82 6,[0,1,2,3,4,5,6,7,8,9,10,11,12,13,14,15,16,17,18,19,20,21,22,23,24,25,26,27,28,29,30,31,32,33,34,35,36,37,38,39,40,41,42]),(T 84 82 (i F (s 83) (B 0)),[0,1,2,3,4,5,6,7,8,9,10,11,12,13,14,15,16,17,18,19,20,21,22,23,24,25,26,27,28,29,30,31,32,33,34,35,36,37,38,39,40,41,42,43]),(lK 85 82 84,[0,1,2,3,4,5,6,7,8,9,10,11,12,13,14,15,16,17,18,19,20,21,22,23,24,25,26,27,28,29,30,31,32,33,34,35,36,37,38,39,40,41,42,43,44]),(T 86 82 (w (s 85)),[0,1,2,3,4,5,6,7,8,9,10,11,12,13,14,15,16,17,18,19,20,21,22,23,24,25,26,27,28,29,30,31,32,33,34,35,36,37,38,39,40,41,42,43,44,45]),(T 87 82 (b .eql (s 86) (B 0)),[0,1,2,3,4,5,6,7,8,9,10,11,12,13,14,15,16,17,18,19,20,21,22,23,24,25,26,27,28,29,30,31,32,33,34,35,36,37,38,39,40,41,42,43,44,45,46]),(lI 88 82 87,[0,1,2,3,4,5,6,7,8,9,10,11,12,13,14,15,16,17,18,19,20,21,22,23,24,25,26,27,28,29,30,31,32,33,34,35,36,37,38,39,40,41,42,43,44,45,46,47]),(M 0 88,[0,1,2,3,4,5,6,7,8,9,10,11,12,13,14,15,16,17,18,19,20,21,22,23,24,25,26,27,28,29,30,31,32,33,34,35,36,37,38,39,40,41,42,43,44,45,46,47,48])]
def g1:LFn:=⟨(Q (O aS5) (Q (O aYX) (Q (Q (O aYW) (C (s 27) (Q (O aS5) .ret) Z)) (Q (O aYV) (Q (Q (O aYU) (C (s 37) (Q (O aS5) .ret) Z)) (Q (O aYT) (Q (D 50 aYS aAO) .ret))))))),89,[.slot 0]⟩
theorem g1z:aH Tryz.prog 7=some g1:=Zz
abbrev aYG:LA:=[G 9 2 3,P 10 13 [s 9],M 11 10,lM 12 11 1,U 13 11 (w (s 12)),U 14 11 (b .gtr (s 13) (B 10)),lH 15 11 14,M 16 15,lM 17 16 2,U 18 16 (w (s 17)),U 19 16 (b .gtr (s 18) (B 30)),lH 20 16 19]
abbrev aYF:LA:=[M 21 2,lP 22 21,lF 23 0]
abbrev aYE:LA:=[lA 24 23 22]
abbrev aYD:LA:=[lC 25 7 21 23,G 26 7 25,⟨S 8,N,x (.agg 7) (c (.agg [(.bool false),(I j 0),(I j 0),(I j 0),(I j 0),(I j 0),(.sl (.agg 3) .nil [])]))⟩,W 7 8 26]
abbrev aYC:LA:=[H 27 6 8,E 28 27,lP 29 28,A 30 (b .gtr (s 29) (B 6))]
abbrev aYB:LA:=[lB 31 23,M 23 31]
abbrev aYH:aZ:=(Q (O aYE) (Q (C (s 24) Z (X 0)) (Q (K 1 (Q (O aYD) (Q (O aYC) (C (s 30) (Q (O aN6) .ret) Z)))) (O aYB))))
def g2:LFn:=⟨(Q (O aVt) (Q (Q (O aYG) (C (s 20) (Q (O aN6) .ret) Z)) (Q (Q (O aYF) (K 0 (R aYH))) (Q (O aIc) .ret)))),32,[.slot 6]⟩
theorem g2z:aH Tryz.prog 8=some g2:=Zz
abbrev aX0:LA:=[Y 3 2 0,A 6 (m (c .aAJ)),A 7 (m (c .nilIface))]
abbrev aXz:LA:=[G 13 2 3,P 14 35 [s 13],M 12 14,lQ 15 12 0,lQ 16 12 1,M 8 15,M 9 16]
abbrev aXy:LA:=[M 18 9,A 19 (e true (.iface true) (s 18) (c .nilIface)),M 17 19]
abbrev aXx:LA:=[A 20 (.aBS 64 (B 2)),A 6 (m (c .aAJ)),M 7 20]
abbrev aXw:LA:=[M 22 1,A 23 (b .lss (s 22) (B 1)),M 24 23,lM 25 24 1,U 26 24 (b .gtr (s 25) (B 17)),lH 27 24 26,M 21 27]
abbrev aXv:LA:=[A 28 (.aBS 64 (B 1)),A 6 (m (c .aAJ)),M 7 28]
abbrev aXu:LA:=[M 29 8,M 30 2,P 31 37 [s 30,(B 1)],P 32 36 [s 29,s 31],M 10 32]
abbrev aXt:LA:=[M 33 10,A 34 (e true (.iface true) (s 33) (c .nilIface))]
abbrev aXs:LA:=[M 35 10,A 6 (m (c .aAJ)),M 7 35]
abbrev aXr:LA:=[G 36 2 3,P 37 38 [s 36],M 38 8,⟨S 39,N,.mp (.mk)⟩,A 40 (.build [(.sl F .nil []),.aAJ,(.sl F .nil []),.aAW] [(0,F,(s 37)),(1,F,(s 38)),(3,F,(s 39))]),Y 41 4 40,M 11 41]
abbrev aR0:LA:=[M 42 1,lF 43 0]
abbrev aRz:LA:=[lA 44 43 42]
abbrev aDs:LD:=[(M 45 11,[]),(M 46 11,[]),(lR 47 46,[1]),(H 48 2 47,[1,2]),(E 49 48,[1,2,3]),(M 50 8,[]),(P 51 39 [s 50],[5]),(⟨S 52,N,y F [s 51]⟩,[5,6]),(⟨S 53,N,a F 8 (s 49) (s 52)⟩,[1,2,3,4,5,6,7]),(lR 54 45,Z9),(H 55 2 54,Z10)]
abbrev aFY:LA:=[⟨N,N,t F (s 55) (s 53)⟩]
abbrev aRy:LA:=[lB 56 43,M 43 56]
abbrev aLa:aZ:=(Q (O aRz) (Q (C (s 44) Z (X 1)) (Q (K 2 (D 11 aDs aFY)) (O aRy))))
abbrev aRx:LA:=[M 57 11,M 6 57,A 7 (m (c .nilIface))]
def g3:LFn:=⟨(Q (O aX0) (Q (O aXz) (Q (K 0 (Q (O aXy) (C (s 17) (Q (O aXx) .ret) (Q (O aXw) (C (s 21) (Q (O aXv) .ret) Z))))) (Q (Q (O aXu) (Q (O aXt) (C (s 34) (Q (O aXs) .ret) Z))) (Q (O aXr) (Q (Q (O aR0) (K 1 (R aLa))) (Q (O aRx) .ret))))))),58,[.slot 6,.slot 7]⟩
theorem g3z:aH Tryz.prog 9=some g3:=Zz
abbrev aXg:LA:=[A 6 (m (c .nilIface))]
abbrev aXf:LA:=[M 10 0,A 11 (e false .ptr (s 10) (c .aAJ)),M 9 11]
abbrev aXe:LA:=[A 12 (.aBS 64 (B 13)),M 6 12]
abbrev aXd:LA:=[M 14 0,M 15 1,P 16 40 [s 14,s 15],A 17 (.not (s 16)),M 18 17,lM 19 18 0,lM 20 18 2,⟨S 21,S (18,false),k 40 [s 19,s 20]⟩,U 22 18 (.not (s 21)),lH 23 18 22,M 24 23,lM 25 24 1,lM 26 24 2,U 27 24 (b .eql (s 25) (s 26)),lH 28 24 27,M 13 28]
abbrev aXc:LA:=[A 29 (.aBS 64 (B 1)),M 6 29]
abbrev aXb:LA:=[M 30 1,M 31 2,A 32 (.build [(I j 0),(I j 0)] [(0,F,(s 30)),(1,F,(s 31))]),⟨S 7,N,x (.agg 2) (c (.agg [(I j 0),(I j 0)]))⟩,W 2 7 32]
abbrev aXa:LD:=[(M 33 0,[]),(lR 34 33,[0]),(H 35 3 34,[0,1]),(E 36 35,Z3),(G 37 2 7,[]),(A 38 (.aBp (.agg 2) [.int,.int] (.sl F .nil []) false (s 36) (s 37)),Z5),(lP 39 38,Z6),(A 40 (b .eql (s 39) (B 0)),Z7)]
abbrev aXZ:LA:=[A 41 (.aBS 64 (B 13)),M 6 41]
abbrev aXY:LD:=[(M 42 0,[]),(lR 43 42,[0]),(H 44 3 43,[0,1]),(E 45 44,Z3),(G 46 2 7,[]),(A 47 (.aBp (.agg 2) [.int,.int] (.sl F .nil []) false (s 45) (s 46)),Z5),(A 48 (i F (s 47) (B 0)),Z6),(E 49 48,Z7),(M 8 49,Z8)]
abbrev aXX:LD:=[(M 50 0,[]),(lR 51 50,[0]),(H 52 3 51,[0,1]),(E 53 52,Z3),(G 54 2 7,[]),(M 55 0,[]),(lR 56 55,[5]),(H 57 3 56,[5,6]),(E 58 57,[5,6,7]),(G 59 2 7,[]),(A 60 (.aBp (.agg 2) [.int,.int] (.sl F .nil []) false (s 58) (s 59)),[5,6,7,8,9]),(A 61 (.slc F (s 60) (.some (B 1)) .none .none),[5,6,7,8,9,10])]
abbrev aQ7:LA:=[⟨N,N,.mp (.put (.agg 2) [.int,.int] (s 53) (s 54) (s 61))⟩]
abbrev aQ9:LD:=[(M 62 0,[]),(lR 63 62,[0]),(H 64 3 63,[0,1]),(E 65 64,Z3),(G 66 2 7,[]),(A 67 (.aBp (.agg 2) [.int,.int] (.sl F .nil []) false (s 65) (s 66)),Z5),(lP 68 67,Z6),(A 69 (b .eql (s 68) (B 0)),Z7)]
abbrev aQ8:LD:=[(M 70 0,[]),(lR 71 70,[0]),(H 72 3 71,[0,1]),(E 73 72,Z3),(G 74 2 7,[])]
abbrev aKl:LA:=[⟨N,N,.mp (.del (.agg 2) [.int,.int] (s 73) (s 74))⟩]
abbrev aFM:LA:=[M 75 0,lR 76 75,H 77 2 76,E 78 77,M 79 2,lE 80 78 79,E 81 80,M 82 8,P 83 36 [s 81,s 82],M 6 83]
def g4:LFn:=⟨(Q (O aXg) (Q (K 0 (Q (O aXf) (C (s 9) (Q (O aXe) .ret) (Q (O aXd) (C (s 13) (Q (O aXc) .ret) Z))))) (Q (O aXb) (Q (Q (D 8 aXa aAO) (C (s 40) (Q (O aXZ) .ret) Z)) (Q (D 9 aXY aAO) (Q (D 12 aXX aQ7) (Q (Q (D 8 aQ9 aAO) (C (s 69) (D 5 aQ8 aKl) Z)) (Q (O aFM) .ret)))))))),84,[.slot 6]⟩
theorem g4z:aH Tryz.prog 10=some g4:=Zz
abbrev aXM:LA:=[⟨S 4,N,x F (s 0)⟩,Y 6 3 2,A 8 (m (c .nilIface))]
abbrev aXL:LA:=[E 15 4,A 16 (e false .ptr (s 15) (c .aAJ))]
abbrev aXK:LA:=[A 17 (.aBS 64 (B 13)),M 8 17]
abbrev aXJ:LA:=[A 18 (.aCc (.func 41) [] [s 4,s 6]),M 9 18]
abbrev aXI:LA:=[E 20 4,M 21 1,P 22 40 [s 20,s 21],A 23 (.not (s 22)),M 19 23]
abbrev aXH:LA:=[A 24 (.aBS 64 (B 1)),M 8 24]
abbrev aXG:LD:=[(E 26 4,[]),(lR 27 26,[0]),(H 28 1 27,[0,1]),(E 29 28,Z3),(G 30 3 6,[]),(P 31 43 [s 29,s 30],Z5),(A 32 (b .lss (s 31) (B 1)),Z6),(M 25 32,Z7)]
abbrev aXF:LA:=[A 33 (.aBS 64 (B 13)),M 8 33]
abbrev aXE:LA:=[M 35 3,M 36 9,P 37 44 [s 35,s 36],M 34 37]
abbrev aXD:LA:=[A 38 (.aBS 64 (B 2)),M 8 38]
abbrev aQK:LA:=[E 40 4,M 41 1,P 42 45 [s 40,s 41],M 39 42]
abbrev aQJ:LA:=[A 43 (.aBS 64 (B 11)),M 8 43]
abbrev aHP:LD:=[(M 44 3,[]),(P 45 37 [s 44,(B 1)],[0]),(G 46 3 6,[]),(A 47 (.build [(I j 0),(I j 0),(I j 0),(I j 0)] [(0,(.agg 3),(s 46)),(3,F,(B (-1)))]),[2]),(⟨S 48,N,y (.agg 4) [s 47]⟩,[2,3]),(lS 49 4 32 45 48,Z5),(M 10 49,Z6)]
abbrev aFI:LA:=[]
abbrev aHO:LA:=[E 50 4,lR 51 50,H 52 1 51,E 53 52,M 54 10,P 55 36 [s 53,s 54],M 11 55]
abbrev aHN:LA:=[M 56 11,A 57 (e true (.iface true) (s 56) (c .nilIface))]
abbrev aHM:LA:=[M 58 11,M 8 58]
abbrev aHL:LA:=[E 59 4,lR 60 59,H 61 2 60,E 62 61,lP 63 62,lF 64 0]
abbrev aQI:LA:=[lA 65 64 63]
abbrev aQH:LA:=[M 66 64,lE 67 62 64,E 68 67,M 12 66,M 13 68]
abbrev aQG:LA:=[M 69 12,M 70 1,A 71 (b .neq (s 69) (s 70))]
abbrev aQF:LD:=[(E 72 4,[]),(lR 73 72,[0]),(H 74 3 73,[0,1]),(E 75 74,Z3),(M 76 1,[]),(M 77 12,[]),(A 78 (.build [(I j 0),(I j 0)] [(0,F,(s 76)),(1,F,(s 77))]),[4,5]),(E 79 4,[]),(lR 80 79,[7]),(H 81 3 80,[7,8]),(E 82 81,[7,8,9]),(M 83 1,[]),(M 84 12,[]),(A 85 (.build [(I j 0),(I j 0)] [(0,F,(s 83)),(1,F,(s 84))]),[11,12]),(A 86 (.aBp (.agg 2) [.int,.int] (.sl F .nil []) false (s 82) (s 85)),[7,8,9,10,11,12,13]),(M 87 10,[]),(⟨S 88,N,y F [s 87]⟩,[15]),(⟨S 89,N,a F 24 (s 86) (s 88)⟩,[7,8,9,10,11,12,13,14,15,16])]
abbrev aKZ:LA:=[⟨N,N,.mp (.put (.agg 2) [.int,.int] (s 75) (s 78) (s 89))⟩]
abbrev aQE:LA:=[M 90 13,M 91 10,P 92 36 [s 90,s 91],M 14 92]
abbrev aQD:LA:=[M 93 14,A 94 (e true (.iface true) (s 93) (c .nilIface))]
abbrev aQC:LA:=[M 95 14,M 8 95]
abbrev aQB:LA:=[lB 96 64,M 64 96]
abbrev aLM:aZ:=(Q (O aQI) (Q (C (s 65) Z (X 1)) (Q (K 2 (Q (O aQH) (Q (Q (O aQG) (C (s 71) (Q (D 18 aQF aKZ) (X 2)) Z)) (Q (O aQE) (Q (O aQD) (C (s 94) (Q (O aQC) .ret) Z)))))) (O aQB))))
abbrev aHK:LA:=[A 8 (m (c .nilIface))]
def g5:LFn:=⟨(Q (O aXM) (Q (Q (O aXL) (C (s 16) (Q (O aXK) .ret) Z)) (Q (O aXJ) (Q (K 0 (Q (O aXI) (C (s 19) (Q (O aXH) .ret) (Q (D 8 aXG aAO) (C (s 25) (Q (O aXF) .ret) (Q (O aXE) (C (s 34) (Q (O aXD) .ret) (Q (O aQK) (C (s 39) (Q (O aQJ) .ret) Z))))))))) (Q (D 7 aHP aFI) (Q (Q (O aHO) (Q (O aHN) (C (s 57) (Q (O aHM) .ret) Z))) (Q (Q (O aHL) (K 1 (R aLM))) (Q (O aHK) .ret)))))))),97,[.slot 8]⟩
theorem g5z:aH Tryz.prog 11=some g5:=Zz
abbrev aJ2:LA:=[Y 1 2 0,lG 2]
abbrev aWt:LA:=[H 3 0 1,E 4 3,A 5 (b .gtr (s 4) (B 14)),M 6 5,lL 7 6 0 1,lK 8 6 7,T 9 6 (b .leq (s 8) (B 200)),lI 10 6 9,M 11 10,lO 12 11 1 1,lN 13 11 12,U 14 11 (w (s 13)),U 15 11 (b .gtr (s 14) (B 40)),lH 16 11 15,M 2 16]
def g6:LFn:=⟨(Q (O aJ2) (Q (O aWt) .ret)),17,[.slot 2]⟩
theorem g6z:aH Tryz.prog 13=some g6:=Zz
abbrev aVE:LA:=[Y 1 2 0,⟨S 2,N,x (.agg 2) (c (.agg [(I j 0),(.sl (.agg 4) .nil [])]))⟩]
abbrev aVD:LD:=[(H 3 0 1,[]),(E 4 3,[0]),(H 5 1 1,[]),(E 6 5,[2]),(P 7 48 [s 6],[2,3]),(A 8 (.build [(I j 0),(.sl (.agg 4) .nil [])] [(0,F,(s 4)),(1,F,(s 7))]),Z5)]
abbrev aNR:LA:=[W 2 2 8]
def g7:LFn:=⟨(Q (O aVE) (Q (D 6 aVD aNR) .ret)),9,[.cell 2 (.agg 2)]⟩
theorem g7z:aH Tryz.prog 14=some g7:=Zz
abbrev aVA:LA:=[Y 3 2 0,⟨S 6,N,x (.agg 5) (c (.agg [(I j 0),(.sl (.agg 4) .nil []),(.sl (.agg 4) .nil []),(.sl F .nil []),(.sl (.agg 3) .nil [])]))⟩,lF 7 0]
abbrev aU9:LA:=[G 14 2 3,P 15 49 [s 14],A 16 (.not (s 15))]
abbrev aU8:LA:=[A 17 (.build [(I j 0),(.sl (.agg 4) .nil []),(.sl (.agg 4) .nil []),(.sl F .nil []),(.sl (.agg 3) .nil [])] []),W 5 6 17,lF 7 2]
abbrev aU7:LA:=[M 18 1,A 19 (b .lss (s 18) (B 1)),M 20 19,lM 21 20 1,U 22 20 (b .gtr (s 21) (B 17)),lH 23 20 22]
abbrev aU6:LA:=[A 24 (.build [(I j 0),(.sl (.agg 4) .nil []),(.sl (.agg 4) .nil []),(.sl F .nil []),(.sl (.agg 3) .nil [])] []),W 5 6 24,lF 7 1]
abbrev aU5:LA:=[G 25 2 3,A 26 (.build [(I j 0),(.sl (.agg 4) .nil []),(.sl (.agg 4) .nil []),(.sl F .nil []),(.sl (.agg 3) .nil [])] [(0,(.agg 2),(s 25))]),⟨S 8,N,x (.agg 5) (c (.agg [(I j 0),(.sl (.agg 4) .nil []),(.sl (.agg 4) .nil []),(.sl F .nil []),(.sl (.agg 3) .nil [])]))⟩,W 5 8 26]
abbrev aU4:LA:=[A 9 (m (c (.sl (.agg 4) .nil [])))]
abbrev aIn:LA:=[lF 10 0]
abbrev aU3:LA:=[M 27 10,M 28 2,lP 29 28,lA 30 27 29]
abbrev aU2:LA:=[M 33 9,M 34 2,M 35 10,lC 36 3 34 35,G 37 3 36,A 38 (.build [(I j 0),(I j 0),(I j 0),(I j 0)] [(0,(.agg 3),(s 37)),(3,F,(B 1))]),⟨S 39,N,y (.agg 4) [s 38]⟩,lS 40 4 32 33 39,M 9 40]
abbrev aM9:LA:=[M 31 10,lB 32 31,M 10 32]
abbrev aVC:aZ:=(Q (Q (O aU3) (C (s 30) Z (X 0))) (Q (K 1 (O aU2)) (O aM9)))
abbrev aM8:LA:=[G 42 2 3,M 43 9,P 44 50 [s 42,(c (.sl (.agg 4) .nil [])),s 43],M 41 44,lQ 45 41 0,lQ 46 41 1,M 11 45,M 12 46]
abbrev aM7:LA:=[M 47 12,A 48 (b .neq (s 47) (B 0))]
abbrev aM6:LA:=[A 49 (.build [(I j 0),(.sl (.agg 4) .nil []),(.sl (.agg 4) .nil []),(.sl F .nil []),(.sl (.agg 3) .nil [])] []),M 50 12,W 5 6 49,M 7 50]
abbrev aM5:LA:=[M 51 11,H 52 2 8,⟨N,N,t F (s 52) (s 51)⟩]
abbrev aHb:LA:=[lF 13 0]
abbrev aM4:LA:=[M 53 13,M 54 1,lA 55 53 54]
abbrev aM3:LA:=[H 58 3 8,E 59 58,M 60 11,⟨S 61,N,y F [s 60]⟩,⟨S 62,N,a F 24 (s 59) (s 61)⟩,H 63 3 8,⟨N,N,t F (s 63) (s 62)⟩]
abbrev aM2:LA:=[M 56 13,lB 57 56,M 13 57]
abbrev aVB:aZ:=(Q (Q (O aM4) (C (s 55) Z (X 2))) (Q (K 3 (O aM3)) (O aM2)))
abbrev aM1:LA:=[G 64 5 8,W 5 6 64,lF 7 0]
def g8:LFn:=⟨(Q (O aVA) (Q (Q (O aU9) (C (s 16) (Q (O aU8) .ret) Z)) (Q (Q (O aU7) (C (s 23) (Q (O aU6) .ret) Z)) (Q (O aU5) (Q (O aU4) (Q (Q (O aIn) (K 0 (R aVC))) (Q (O aM8) (Q (Q (O aM7) (C (s 48) (Q (O aM6) .ret) Z)) (Q (O aM5) (Q (Q (O aHb) (K 2 (R aVB))) (Q (O aM1) .ret))))))))))),65,[.cell 6 (.agg 5),.slot 7]⟩
theorem g8z:aH Tryz.prog 15=some g8:=Zz
abbrev aMd:LA:=[A 2 (m (c (.sl (.agg 3) .nil [])))]
abbrev aMc:LA:=[A 3 (m (c (.sl (.agg 3) .nil [])))]
abbrev aIg:LA:=[M 6 0,lP 7 6,lF 8 0]
abbrev aIf:LA:=[lA 9 8 7]
abbrev aU0:LA:=[lC 10 3 6 8,G 11 3 10,⟨S 5,N,x (.agg 3) (c (.agg [(I j 0),(I j 0),(I j 0)]))⟩,W 3 5 11]
abbrev aUz:LA:=[M 12 3,G 13 3 5,P 14 24 [s 13],⟨S 15,N,y (.agg 3) [s 14]⟩,lS 16 3 24 12 15,M 3 16]
abbrev aMb:LA:=[lB 17 8,M 8 17]
abbrev aU1:aZ:=(Q (O aIf) (Q (C (s 9) Z (X 0)) (Q (K 1 (Q (O aU0) (O aUz))) (O aMb))))
abbrev aMa:LA:=[M 18 3,M 2 18]
def g9:LFn:=⟨(Q (O aMd) (Q (O aMc) (Q (Q (O aIg) (K 0 (R aU1))) (Q (O aMa) .ret)))),19,[.slot 2]⟩
theorem g9z:aH Tryz.prog 16=some g9:=Zz
abbrev aFm:LA:=[lG 2]
abbrev aMX:LA:=[M 3 0,A 4 (e false .ptr (s 3) (c .aAJ)),M 5 4,lM 6 5 0,U 7 5 (n (s 6)),lO 8 5 3 7,lN 9 5 8,U 10 5 (.aEd (s 9)),U 11 5 (b .eql (s 10) (B 0)),lH 12 5 11,M 2 12]
def g10:LFn:=⟨(Q (O aFm) (Q (O aMX) .ret)),13,[.slot 2]⟩
theorem aY6:aH Tryz.prog 17=some g10:=Zz
abbrev aDM:LA:=[lF 2 0]
abbrev aIe:LA:=[M 3 0,A 4 (e false .ptr (s 3) (c .aAJ))]
abbrev aUy:LA:=[M 5 0,lR 6 5,H 7 2 6,E 8 7,lP 9 8,M 2 9]
def g11:LFn:=⟨(Q (O aDM) (Q (Q (O aIe) (C (s 4) (Q (O aDM) .ret) Z)) (Q (O aUy) .ret))),10,[.slot 2]⟩
theorem aY5:aH Tryz.prog 18=some g11:=Zz
abbrev aGa:LA:=[A 2 (m (c .aAJ))]
abbrev aUx:LA:=[M 5 0,lR 6 5,H 7 1 6,E 8 7,P 9 39 [s 8],M 2 9]
def g12:LFn:=⟨(Q (O aGa) (Q (Q (O aIe) (C (s 4) (Q (O aGa) .ret) Z)) (Q (O aUx) .ret))),10,[.slot 2]⟩
theorem aY4:aH Tryz.prog 19=some g12:=Zz
abbrev aMW:LA:=[A 4 (m (c (.sl F .nil [])))]
abbrev aMV:LA:=[M 5 0,M 6 1,P 7 40 [s 5,s 6],A 8 (.not (s 7))]
abbrev aUw:LA:=[M 9 0,lR 10 9,H 11 2 10,E 12 11,M 13 1,lE 14 12 13,E 15 14,P 16 46 [s 15],M 4 16]
def g13:LFn:=⟨(Q (O aMW) (Q (Q (O aMV) (C (s 8) (Q (O aMW) .ret) Z)) (Q (O aUw) .ret))),17,[.slot 4]⟩
theorem aY3:aH Tryz.prog 20=some g13:=Zz
abbrev aUv:LA:=[Y 3 2 0,Y 4 3 1,Y 5 3 2,lG 6]
abbrev aUu:LA:=[G 7 3 4,G 8 3 5,A 9 (e false (.plain (.agg 3) [.int,.int,.int]) (s 7) (s 8)),M 10 9,lO 11 10 1 5,U 12 10 (l (.agg 2) (s 11)),⟨S 13,S (10,false),k 53 [s 12]⟩,U 14 10 (.not (s 13)),lH 15 10 14]
abbrev aUt:LD:=[(G 16 2 3,[]),(H 17 0 4,[]),(E 18 17,[1]),(H 19 1 4,[]),(G 20 2 19,[3]),(H 21 0 5,[]),(E 22 21,[5]),(P 23 55 [s 16,s 18,s 20,s 22],Z7),(H 24 1 5,[]),(G 25 2 24,[8]),(P 26 54 [s 23,s 25],Z10),(M 6 26,Z11)]
def g14:LFn:=⟨(Q (O aUv) (Q (Q (O aUu) (C (s 15) (Q (O aIc) .ret) Z)) (Q (D 12 aUt aAO) .ret))),27,[.slot 6]⟩
theorem aY2:aH Tryz.prog 23=some g14:=Zz
abbrev aUs:LA:=[Y 1 3 0,⟨S 2,N,x (.agg 3) (c (.agg [(I j 0),(I j 0),(I j 0)]))⟩]
abbrev aUr:LD:=[(H 3 0 1,[]),(E 4 3,[0]),(H 5 1 1,[]),(G 6 2 5,[2]),(P 7 56 [s 6],[2,3]),(A 8 (.build [(I j 0),(I j 0),(I j 0)] [(0,F,(s 4)),(1,(.agg 2),(s 7))]),Z5)]
abbrev aMU:LA:=[W 3 2 8]
def g15:LFn:=⟨(Q (O aUs) (Q (D 6 aUr aMU) .ret)),9,[.cell 2 (.agg 3)]⟩
theorem aY1:aH Tryz.prog 24=some g15:=Zz
abbrev aUq:LA:=[M 5 0,A 6 (e false (.iface true) (s 5) (c .nilIface))]
abbrev aUp:LA:=[M 8 0,A 9 (.aHl 64 (I j 0) (s 8)),M 7 9,lQ 10 7 0,lQ 11 7 1,M 3 10,M 4 11]
abbrev aUo:LA:=[M 12 4,M 13 12,lJ 14 13 3,T 15 13 (b .neq (s 14) (B 0)),lI 16 13 15]
abbrev aUn:LA:=[M 17 3,M 2 17]
abbrev aUm:LA:=[A 2 (m (B (-1)))]
def g16:LFn:=⟨(Q (O aDM) (Q (Q (O aUq) (C (s 6) (Q (O aDM) .ret) Z)) (Q (Q (O aUp) (Q (O aUo) (C (s 16) (Q (O aUn) .ret) Z))) (Q (O aUm) .ret)))),18,[.slot 2]⟩
theorem aY0:aH Tryz.prog 25=some g16:=Zz
abbrev aD7:LA:=[lF 6 0]
abbrev aUl:LA:=[M 7 0,A 8 (e false .ptr (s 7) (c .aAJ))]
abbrev aUk:LA:=[M 9 0,lR 10 9,H 11 3 10,E 12 11,M 13 1,M 14 2,A 15 (.build [(I j 0),(I j 0)] [(0,F,(s 13)),(1,F,(s 14))]),A 16 (.aBp (.agg 2) [.int,.int] (.sl F .nil []) false (s 12) (s 15)),lP 17 16,M 6 17]
def g17:LFn:=⟨(Q (O aD7) (Q (Q (O aUl) (C (s 8) (Q (O aD7) .ret) Z)) (Q (O aUk) .ret))),18,[.slot 6]⟩
theorem aYz:aH Tryz.prog 26=some g17:=Zz
abbrev aMT:LA:=[A 4 (m (c .aAJ))]
abbrev aUj:LA:=[M 9 0,lR 10 9,H 11 2 10,E 12 11,M 13 1,lE 14 12 13,E 15 14,P 16 39 [s 15],M 4 16]
def g18:LFn:=⟨(Q (O aMT) (Q (Q (O aMV) (C (s 8) (Q (O aMT) .ret) Z)) (Q (O aUj) .ret))),17,[.slot 4]⟩
theorem aVv:aH Tryz.prog 28=some g18:=Zz
abbrev aUi:LA:=[Y 3 5 0,⟨S 6,N,x (.agg 5) (c (.agg [(I j 0),(.sl (.agg 4) .nil []),(.sl (.agg 4) .nil []),(.sl F .nil []),(.sl (.agg 3) .nil [])]))⟩,lF 7 0]
abbrev aUh:LA:=[M 13 1,A 14 (b .lss (s 13) (B 0)),M 15 14,lM 16 15 2,U 17 15 (b .lss (s 16) (B 0)),lH 18 15 17,M 19 18,lM 20 19 1,lO 21 19 3 3,lN 22 19 21,U 23 19 (w (s 22)),U 24 19 (b .geq (s 20) (s 23)),lH 25 19 24,M 26 25,lM 27 26 2,lO 28 26 3 3,lN 29 26 28,U 30 26 (w (s 29)),U 31 26 (b .geq (s 27) (s 30)),lH 32 26 31,M 33 32,lM 34 33 1,lM 35 33 2,U 36 33 (b .eql (s 34) (s 35)),lH 37 33 36]
abbrev aUg:LA:=[G 38 5 3,W 5 6 38,lF 7 1]
abbrev aD6:LA:=[lF 8 0]
abbrev aUf:LA:=[M 39 8,H 40 4 3,E 41 40,lP 42 41,lA 43 39 42]
abbrev aUe:LA:=[H 46 4 3,E 47 46,M 48 8,lC 49 3 47 48,H 50 0 49,E 51 50,M 52 1,A 53 (b .neq (s 51) (s 52)),M 54 53,lO 55 54 4 3,lN 56 54 55,lM 57 54 8,U 58 54 (i (.agg 3) (s 56) (s 57)),lO 59 54 1 58,lN 60 54 59,lM 61 54 2,U 62 54 (b .neq (s 60) (s 61)),lH 63 54 62]
abbrev aUd:LD:=[(H 65 0 3,[]),(G 66 2 65,[0]),(H 67 3 3,[]),(E 68 67,[2]),(M 69 2,[]),(lE 70 68 69,[2,3,4]),(E 71 70,[2,3,4,5]),(H 72 4 3,[]),(E 73 72,[7]),(M 74 8,[]),(lC 75 3 73 74,[7,8,9]),(H 76 2 75,[7,8,9,10]),(E 77 76,[7,8,9,10,11]),(P 78 50 [s 66,s 71,s 77],Z13),(M 64 78,Z14),(lQ 79 64 0,Z15),(lQ 80 64 1,Z15),(M 9 79,Z16),(M 10 80,Z18)]
abbrev aHZ:LA:=[⟨S 81,N,y F []⟩,H 82 3 3,E 83 82,⟨S 84,N,a F 24 (s 81) (s 83)⟩,M 11 84]
abbrev aHY:LA:=[M 85 11,M 86 2,M 87 9,lE 88 85 86,⟨N,N,t F (s 88) (s 87)⟩]
abbrev aUc:LD:=[(⟨S 89,N,y (.agg 3) []⟩,[]),(H 90 4 3,[]),(E 91 90,[1]),(M 92 8,[]),(A 93 (.slc (.agg 3) (s 91) .none (.some (s 92)) .none),[1,2,3]),(lS 94 3 40 89 93,Z5),(H 95 4 3,[]),(E 96 95,[6]),(M 97 8,[]),(lB 98 97,[8]),(A 99 (.slc (.agg 3) (s 96) (.some (s 98)) .none .none),[6,7,8,9]),(lS 100 3 40 94 99,Z11),(M 12 100,Z12)]
abbrev aMS:LA:=[H 101 0 3,G 102 2 101,H 103 2 3,E 104 103,M 105 11,M 106 12,A 107 (.build [(I j 0),(.sl (.agg 4) .nil []),(.sl (.agg 4) .nil []),(.sl F .nil []),(.sl (.agg 3) .nil [])] [(0,(.agg 2),(s 102)),(2,F,(s 104)),(3,F,(s 105)),(4,F,(s 106))]),W 5 6 107,lF 7 0]
abbrev aMR:LA:=[M 44 8,lB 45 44,M 8 45]
abbrev aHa:aZ:=(Q (Q (O aUf) (C (s 43) Z (X 0))) (Q (K 1 (Q (Q (O aUe) (C (s 63) (X 1) Z)) (Q (D 19 aUd aAO) (Q (O aHZ) (Q (O aHY) (Q (D 13 aUc aAO) (Q (O aMS) .ret))))))) (O aMR)))
abbrev aMQ:LA:=[G 108 5 3,W 5 6 108,lF 7 13]
def g19:LFn:=⟨(Q (O aUi) (Q (Q (O aUh) (C (s 37) (Q (O aUg) .ret) Z)) (Q (Q (O aD6) (K 0 (R aHa))) (Q (O aMQ) .ret)))),109,[.cell 6 (.agg 5),.slot 7]⟩
theorem aYy:aH Tryz.prog 29=some g19:=Zz
abbrev aUa:LA:=[Y 4 5 0,Y 6 3 2,⟨S 8,N,x (.agg 5) (c (.agg [(I j 0),(.sl (.agg 4) .nil []),(.sl (.agg 4) .nil []),(.sl F .nil []),(.sl (.agg 3) .nil [])]))⟩,lF 9 0]
abbrev aUZ:LA:=[M 19 1,A 20 (b .lss (s 19) (B 0)),M 21 20,lM 22 21 1,lO 23 21 3 4,lN 24 21 23,U 25 21 (w (s 24)),U 26 21 (b .geq (s 22) (s 25)),lH 27 21 26]
abbrev aUY:LA:=[G 28 5 4,W 5 8 28,lF 9 1]
abbrev aUX:LA:=[H 29 2 4,E 30 29,G 31 3 6,P 32 59 [s 30,s 31],A 33 (b .lss (s 32) (B 1))]
abbrev aUW:LA:=[G 34 5 4,W 5 8 34,lF 9 13]
abbrev aUV:LA:=[G 35 3 6,A 36 (.build [(I j 0),(I j 0),(I j 0),(I j 0)] [(0,(.agg 3),(s 35)),(3,F,(B (-1)))]),⟨S 37,N,y (.agg 4) [s 36]⟩,M 10 37]
abbrev aFa:LA:=[lF 11 0]
abbrev aUU:LA:=[M 38 11,M 39 3,lP 40 39,lA 41 38 40]
abbrev aUT:LD:=[(H 44 0 4,[]),(G 45 2 44,[0]),(G 46 3 6,[]),(M 47 3,[]),(M 48 11,[]),(lC 49 3 47 48,[3,4]),(G 50 3 49,[3,4,5]),(P 51 23 [s 45,s 46,s 50],Z7),(A 52 (.not (s 51)),Z8)]
abbrev aUS:LA:=[G 53 5 4,W 5 8 53,lF 9 2]
abbrev aMP:LA:=[M 54 10,M 55 3,M 56 11,lC 57 3 55 56,G 58 3 57,A 59 (.build [(I j 0),(I j 0),(I j 0),(I j 0)] [(0,(.agg 3),(s 58)),(3,F,(B 1))]),⟨S 60,N,y (.agg 4) [s 59]⟩,lS 61 4 32 54 60,M 10 61]
abbrev aMO:LA:=[M 42 11,lB 43 42,M 11 43]
abbrev aUb:aZ:=(Q (Q (O aUU) (C (s 41) Z (X 0))) (Q (K 1 (Q (Q (D 9 aUT aAO) (C (s 52) (Q (O aUS) .ret) Z)) (O aMP))) (O aMO)))
abbrev aFl:LA:=[lF 12 0]
abbrev aMN:LA:=[M 62 12,H 63 3 4,E 64 63,lP 65 64,lA 66 62 65]
abbrev aMM:LA:=[G 69 5 4,M 70 1,M 71 12,P 72 31 [s 69,s 70,s 71],A 73 (b .geq (s 72) (B 1000))]
abbrev aML:LA:=[G 74 5 4,W 5 8 74,lF 9 11]
abbrev aMK:LA:=[M 67 12,lB 68 67,M 12 68]
abbrev aHX:aZ:=(Q (Q (O aMN) (C (s 66) Z (X 2))) (Q (K 3 (Q (O aMM) (C (s 73) (Q (O aML) .ret) Z))) (O aMK)))
abbrev aFk:LA:=[H 76 0 4,G 77 2 76,H 78 2 4,E 79 78,M 80 10,P 81 50 [s 77,s 79,s 80],M 75 81,lQ 82 75 0,lQ 83 75 1,M 13 82,M 14 83]
abbrev aFj:LA:=[M 84 14,A 85 (b .neq (s 84) (B 0))]
abbrev aFi:LA:=[G 86 5 4,M 87 14,W 5 8 86,M 9 87]
abbrev aFh:LD:=[(H 88 0 4,[]),(G 89 2 88,[0]),(M 90 13,[]),(⟨S 91,N,y (.agg 3) []⟩,[]),(H 92 4 4,[]),(E 93 92,[4]),(lS 94 3 40 91 93,[3,4,5]),(A 95 (.build [(I j 0),(.sl (.agg 4) .nil []),(.sl (.agg 4) .nil []),(.sl F .nil []),(.sl (.agg 3) .nil [])] [(0,(.agg 2),(s 89)),(2,F,(s 90)),(4,F,(s 94))]),Z7),(⟨S 15,N,x (.agg 5) (c (.agg [(I j 0),(.sl (.agg 4) .nil []),(.sl (.agg 4) .nil []),(.sl F .nil []),(.sl (.agg 3) .nil [])]))⟩,[])]
abbrev aDu:LA:=[W 5 15 95]
abbrev aFg:LA:=[lF 16 0]
abbrev aMJ:LA:=[M 96 16,H 97 3 4,E 98 97,lP 99 98,lA 100 96 99]
abbrev aMI:LA:=[M 103 16,M 104 1,A 105 (b .eql (s 103) (s 104))]
abbrev aMH:LD:=[(H 107 0 4,[]),(G 108 2 107,[0]),(H 109 3 4,[]),(E 110 109,[2]),(M 111 16,[]),(lE 112 110 111,[2,3,4]),(E 113 112,[2,3,4,5]),(M 114 10,[]),(P 115 50 [s 108,s 113,s 114],Z8),(M 106 115,Z9),(lQ 116 106 0,Z10),(lQ 117 106 1,Z10),(M 17 116,Z11),(M 18 117,Z13)]
abbrev aMG:LA:=[H 118 3 15,E 119 118,M 120 17,⟨S 121,N,y F [s 120]⟩,⟨S 122,N,a F 24 (s 119) (s 121)⟩,H 123 3 15,⟨N,N,t F (s 123) (s 122)⟩]
abbrev aFf:LD:=[(H 124 3 15,[]),(E 125 124,[0]),(H 126 3 4,[]),(E 127 126,[2]),(M 128 16,[]),(lE 129 127 128,[2,3,4]),(E 130 129,[2,3,4,5]),(⟨S 131,N,y F [s 130]⟩,[2,3,4,5,6]),(⟨S 132,N,a F 24 (s 125) (s 131)⟩,Z8),(H 133 3 15,Z9)]
abbrev aDt:LA:=[⟨N,N,t F (s 133) (s 132)⟩]
abbrev aFe:LA:=[H 134 4 15,E 135 134,M 136 1,M 137 16,M 138 10,A 139 (.build [(I j 0),(I j 0),(.sl (.agg 4) .nil [])] [(0,F,(s 136)),(1,F,(s 137)),(2,F,(s 138))]),⟨S 140,N,y (.agg 3) [s 139]⟩,lS 141 3 40 135 140,H 142 4 15,⟨N,N,t F (s 142) (s 141)⟩]
abbrev aMF:LA:=[M 101 16,lB 102 101,M 16 102]
abbrev aDv:aZ:=(Q (Q (O aMJ) (C (s 100) Z (X 4))) (Q (K 5 (Q (O aMI) (C (s 105) (Q (D 14 aMH aAO) (O aMG)) (Q (D 10 aFf aDt) (O aFe))))) (O aMF)))
abbrev aFd:LA:=[G 143 5 15,W 5 8 143,lF 9 0]
def g20:LFn:=⟨(Q (O aUa) (Q (Q (O aUZ) (C (s 27) (Q (O aUY) .ret) Z)) (Q (Q (O aUX) (C (s 33) (Q (O aUW) .ret) Z)) (Q (O aUV) (Q (Q (O aFa) (K 0 (R aUb))) (Q (Q (O aFl) (K 2 (R aHX))) (Q (O aFk) (Q (Q (O aFj) (C (s 85) (Q (O aFi) .ret) Z)) (Q (D 9 aFh aDu) (Q (Q (O aFg) (K 4 (R aDv))) (Q (O aFd) .ret))))))))))),144,[.cell 8 (.agg 5),.slot 9]⟩
theorem aYx:aH Tryz.prog 30=some g20:=Zz
abbrev aUQ:LA:=[Y 3 5 0,lF 6 0]
abbrev aD5:LA:=[lF 7 0]
abbrev aUP:LA:=[M 9 8,H 10 4 3,E 11 10,lP 12 11,lA 13 9 12]
abbrev aUO:LA:=[H 16 4 3,E 17 16,M 18 8,lC 19 3 17 18,H 20 0 19,E 21 20,M 22 1,A 23 (b .eql (s 21) (s 22)),M 24 23,lL 25 24 4 3,lK 26 24 25,lJ 27 24 8,T 28 24 (i (.agg 3) (s 26) (s 27)),lL 29 24 1 28,lK 30 24 29,lJ 31 24 2,T 32 24 (b .eql (s 30) (s 31)),lI 33 24 32]
abbrev aUN:LA:=[M 34 7,lB 35 34,M 7 35]
abbrev aUM:LA:=[M 14 8,lB 15 14,M 8 15]
abbrev aUR:aZ:=(Q (Q (O aUP) (C (s 13) Z (X 0))) (Q (K 1 (Q (O aUO) (C (s 33) (O aUN) Z))) (O aUM)))
abbrev aUL:LA:=[M 36 7,M 6 36]
def g21:LFn:=⟨(Q (O aUQ) (Q (O aD5) (Q (Q (O aD6) (K 0 (R aUR))) (Q (O aUL) .ret)))),37,[.slot 6]⟩
theorem aYw:aH Tryz.prog 31=some g21:=Zz
abbrev aME:LA:=[A 4 (m (c (.sl (.agg 4) .nil [])))]
abbrev aMD:LA:=[A 5 (m (c (.sl (.agg 4) .nil [])))]
abbrev aUH:LA:=[M 12 0,lP 13 12,lF 14 0]
abbrev aUG:LA:=[lA 15 14 13]
abbrev aUF:LA:=[lC 16 3 12 14,G 17 3 16,⟨S 7,N,x (.agg 3) (c (.agg [(I j 0),(I j 0),(I j 0)]))⟩,W 3 7 17]
abbrev aUE:LA:=[M 18 5,G 19 3 7,A 20 (.build [(I j 0),(I j 0),(I j 0),(I j 0)] [(0,(.agg 3),(s 19))]),⟨S 21,N,y (.agg 4) [s 20]⟩,lS 22 4 32 18 21,M 5 22]
abbrev aUD:LA:=[lB 23 14,M 14 23]
abbrev aUK:aZ:=(Q (O aUG) (Q (C (s 15) Z (X 0)) (Q (K 1 (Q (O aUF) (O aUE))) (O aUD))))
abbrev aUC:LA:=[M 24 1,lP 25 24,lF 26 0]
abbrev aUB:LA:=[lA 27 26 25]
abbrev aUA:LA:=[lC 28 7 24 26,G 29 7 28,⟨S 9,N,x (.agg 7) (c (.agg [(.bool false),(I j 0),(I j 0),(I j 0),(I j 0),(I j 0),(.sl (.agg 3) .nil [])]))⟩,W 7 9 29]
abbrev aMC:LA:=[M 30 5,H 31 3 9,G 32 3 31,A 33 (.build [(I j 0),(I j 0),(I j 0),(I j 0)] [(0,(.agg 3),(s 32))]),⟨S 34,N,y (.agg 4) [s 33]⟩,lS 35 4 32 30 34,M 5 35]
abbrev aMB:LA:=[H 36 6 9,E 37 36,lP 38 37,lF 39 0]
abbrev aMA:LA:=[lA 40 39 38]
abbrev aL9:LA:=[lC 41 3 37 39,G 42 3 41,⟨S 11,N,x (.agg 3) (c (.agg [(I j 0),(I j 0),(I j 0)]))⟩,W 3 11 42]
abbrev aL8:LA:=[M 43 5,G 44 3 11,A 45 (.build [(I j 0),(I j 0),(I j 0),(I j 0)] [(0,(.agg 3),(s 44))]),⟨S 46,N,y (.agg 4) [s 45]⟩,lS 47 4 32 43 46,M 5 47]
abbrev aL7:LA:=[lB 48 39,M 39 48]
abbrev aUJ:aZ:=(Q (O aMA) (Q (C (s 40) Z (X 4)) (Q (K 5 (Q (O aL9) (O aL8))) (O aL7))))
abbrev aL6:LA:=[lB 49 26,M 26 49]
abbrev aUI:aZ:=(Q (O aUB) (Q (C (s 27) Z (X 2)) (Q (K 3 (Q (O aUA) (Q (O aMC) (Q (O aMB) (K 4 (R aUJ)))))) (O aL6))))
abbrev aL5:LA:=[M 50 5,M 4 50]
def g22:LFn:=⟨(Q (O aME) (Q (O aMD) (Q (Q (O aUH) (K 0 (R aUK))) (Q (Q (O aUC) (K 2 (R aUI))) (Q (O aL5) .ret))))),51,[.slot 4]⟩
theorem aYv:aH Tryz.prog 32=some g22:=Zz
abbrev aT6:LA:=[⟨S 6,N,x F Ba⟩]
abbrev aT5:LA:=[M 15 2,lP 16 15,lF 17 0]
abbrev aT4:LA:=[lA 18 17 16]
abbrev aT3:LA:=[lC 19 4 15 17,G 20 4 19,⟨S 8,N,x (.agg 4) (c (.agg [(I j 0),(I j 0),(I j 0),(I j 0)]))⟩,W 4 8 20]
abbrev aT2:LD:=[(M 21 0,[]),(H 22 0 8,[]),(G 23 3 22,[1]),(P 24 43 [s 21,s 23],Z3),(M 25 1,[]),(H 26 0 8,[]),(G 27 3 26,[5]),(P 28 24 [s 27],[0,1,2,3,5,6]),(P 29 59 [s 25,s 28],Z8),(A 30 (b .neq (s 24) (s 29)),Z9)]
abbrev aLt:LA:=[⟨N,N,t F (s 6) Ba⟩]
abbrev aT1:LA:=[lB 31 17,M 17 31]
abbrev aT8:aZ:=(Q (O aT4) (Q (C (s 18) Z (X 0)) (Q (K 1 (Q (O aT3) (Q (D 10 aT2 aAO) (C (s 30) (Q (O aLt) .ret) Z)))) (O aT1))))
abbrev aT0:LA:=[⟨S 9,N,x F (c (.sl (.agg 4) .nil []))⟩]
abbrev aTz:LA:=[M 32 1,lP 33 32,lF 34 0]
abbrev aTy:LA:=[lA 35 34 33]
abbrev aL4:LA:=[lC 36 4 32 34,G 37 4 36,⟨S 11,N,x (.agg 4) (c (.agg [(I j 0),(I j 0),(I j 0),(I j 0)]))⟩,W 4 11 37]
abbrev aL3:LA:=[H 38 3 11,E 39 38,A 40 (b .gtr (s 39) (B 0))]
abbrev aL2:LA:=[E 41 9,G 42 4 11,⟨S 43,N,y (.agg 4) [s 42]⟩,lS 44 4 32 41 43,⟨N,N,t F (s 9) (s 44)⟩]
abbrev aL1:LA:=[lB 45 34,M 34 45]
abbrev aT7:aZ:=(Q (O aTy) (Q (C (s 35) Z (X 2)) (Q (K 3 (Q (O aL4) (Q (O aL3) (C (s 40) (O aL2) Z)))) (O aL1))))
abbrev aL0:LA:=[⟨S 12,N,x F (B 0)⟩,⟨N,N,t F (s 12) (B 0)⟩]
abbrev aLz:LA:=[M 46 0,P 47 60 [s 46]]
abbrev aLy:LA:=[⟨S 13,N,x (.agg 3) (c (.agg [(I j 0),(I j 0),(I j 0)]))⟩,W 3 13 48]
abbrev aLx:LA:=[M 14 49]
abbrev aLw:LD:=[(E 50 12,[]),(E 51 9,[]),(lP 52 51,[1]),(A 53 (b .geq (s 50) (s 52)),Z3),(M 54 53,Z4),(U 55 54 (l (.agg 3) (s 13)),Z5),(⟨S 56,S (54,false),k 24 [s 55]⟩,Z6),(lN 57 54 9,Z5),(lN 58 54 12,Z5),(U 59 54 (i (.agg 4) (s 57) (s 58)),[0,1,2,3,4,7,8]),(lO 60 54 0 59,[0,1,2,3,4,7,8,9]),(U 61 54 (l (.agg 3) (s 60)),[0,1,2,3,4,7,8,9,10]),(U 62 54 (e true (.plain (.agg 3) [.int,.int,.int]) (s 56) (s 61)),Z12),(lH 63 54 62,Z13),(M 64 63,Z14),(lM 65 64 14,Z15),(lN 66 64 9,Z15),(lN 67 64 12,Z15),(U 68 64 (i (.agg 4) (s 66) (s 67)),[0,1,2,3,4,5,6,7,8,9,10,11,12,13,14,16,17]),(lO 69 64 3 68,[0,1,2,3,4,5,6,7,8,9,10,11,12,13,14,16,17,18]),(lN 70 64 69,[0,1,2,3,4,5,6,7,8,9,10,11,12,13,14,16,17,18,19]),(U 71 64 (b .neq (s 65) (s 70)),Z21),(lH 72 64 71,Z22)]
abbrev aLv:LA:=[E 73 12,lB 74 73,⟨N,N,t F (s 12) (s 74)⟩]
abbrev aT9:aZ:=(K 5 (Q (Q (D 23 aLw aAO) (C (s 72) (Q (O aLt) .ret) Z)) (O aLv)))
abbrev aLu:LA:=[E 75 12,E 76 9,lP 77 76,A 78 (b .eql (s 75) (s 77)),M 79 78,lJ 80 79 0,⟨S 81,S (79,true),k 61 [s 80]⟩,lJ 82 79 1,T 83 79 (w (s 82)),T 84 79 (b .eql (s 83) (B 0)),T 85 79 (e false (.plain F [.bool]) (s 81) (s 84)),lI 86 79 85,⟨N,N,t F (s 6) (s 86)⟩]
def g23:LFn:=⟨(Q (O aT6) (Q (Q (O aT5) (K 0 (R aT8))) (Q (O aT0) (Q (Q (O aTz) (K 2 (R aT7))) (Q (O aL0) (Q (Q (O aLz) (K 4 (.range (s 47) [48,49] (Q (O aLy) (O aLx)) aT9))) (Q (O aLu) .ret))))))),87,[.cell 6 F]⟩
theorem aYu:aH Tryz.prog 33=some g23:=Zz
abbrev aTk:LA:=[A 0 (m (c .aAJ)),⟨S 1,N,x (.agg 3) (c (.agg [(I j 0),(I j 0),(I j 0)]))⟩,⟨S 2,N,x (.agg 3) (c (.agg [(I j 0),(I j 0),(I j 0)]))⟩,lG 3]
abbrev aTj:LA:=[A 11 (.build [(I j 0),(I j 0),(.bool false),(I j 0)] [(0,F,(B 0)),(1,F,(B 1))]),⟨S 12,N,y (.agg 4) [s 11]⟩,P 13 62 [(B 2),s 12],M 10 13,lQ 14 10 0,lQ 15 10 1,⟨S 4,N,x (.agg 2) (c (.agg [(I j 0),(.sl (.agg 4) .nil [])]))⟩,W 2 4 14,M 5 15]
abbrev aTi:LA:=[A 16 (.build [(I j 0),(I j 0)] [(0,F,(B 1))]),A 17 (.build [(I j 0),(I j 0),(I j 0)] [(1,(.agg 2),(s 16))]),⟨S 6,N,x (.agg 3) (c (.agg [(I j 0),(I j 0),(I j 0)]))⟩,W 3 6 17]
abbrev aTh:LA:=[A 18 (.build [(I j 0),(I j 0)] [(0,F,(B 1))]),A 19 (.build [(I j 0),(I j 0),(I j 0)] [(0,F,(B 1)),(1,(.agg 2),(s 18))]),⟨S 7,N,x (.agg 3) (c (.agg [(I j 0),(I j 0),(I j 0)]))⟩,W 3 7 19]
abbrev aTg:LA:=[G 21 2 4,G 22 3 6,⟨S 23,N,y (.agg 3) [s 22]⟩,P 24 9 [s 21,(B 2),s 23],M 20 24,lQ 25 20 0,lQ 26 20 1,M 8 25,M 9 26]
abbrev aFc:LD:=[(M 27 8,[]),(G 28 3 6,[]),(G 29 3 7,[]),(M 30 5,[]),(A 31 (e false (.iface true) (s 30) (c .nilIface)),[3]),(M 32 31,[3,4]),(lJ 33 32 9,[3,4,5]),(T 34 32 (e false (.iface true) (s 33) (c .nilIface)),[3,4,5,6]),(lI 35 32 34,[3,4,5,6,7]),(M 36 35,[3,4,5,6,7,8]),(lJ 37 36 8,[3,4,5,6,7,8,9]),(T 38 36 (e true .ptr (s 37) (c .aAJ)),[3,4,5,6,7,8,9,10]),(lI 39 36 38,[3,4,5,6,7,8,9,10,11]),(M 0 27,[0,3,4,5,6,7,8,9]),(W 3 1 28,[0,1,3,4,5,6,7,8,9,13]),(W 3 2 29,[0,1,2,3,4,5,6,7,8,9,13,14]),(M 3 39,Z16)]
abbrev aFb:LA:=[]
def g24:LFn:=⟨(Q (O aTk) (Q (O aTj) (Q (O aTi) (Q (O aTh) (Q (O aTg) (Q (D 18 aFc aFb) .ret)))))),40,[.slot 0,.cell 1 (.agg 3),.cell 2 (.agg 3),.slot 3]⟩
theorem aYt:aH Tryz.prog 34=some g24:=Zz
abbrev aTf:LA:=[Y 1 2 0,A 2 (m (c .aAJ)),A 3 (m (c .nilIface))]
abbrev aLr:LA:=[G 5 2 1,P 6 63 [s 5],A 7 (.not (s 6))]
abbrev aTe:LA:=[A 8 (.aBS 64 (B 2)),A 2 (m (c .aAJ)),M 3 8]
abbrev aTd:LD:=[(H 9 0 1,[]),(E 10 9,[0]),(H 11 1 1,[]),(E 12 11,[2]),(P 13 64 [s 12],[2,3]),(A 14 (.build [(I j 0),(.sl (.agg 4) .nil [])] [(0,F,(s 10)),(1,F,(s 13))]),Z5),(⟨S 4,N,x (.agg 2) (c (.agg [(I j 0),(.sl (.agg 4) .nil [])]))⟩,[])]
abbrev aLq:LA:=[W 2 4 14]
abbrev aTc:LD:=[(G 15 2 4,[]),(G 16 2 4,[]),(P 17 38 [s 16],[1]),(⟨S 18,N,.mp (.mk)⟩,[]),(A 19 (.build [(I j 0),(.sl (.agg 4) .nil []),(.sl F .nil []),.aAW] [(0,(.agg 2),(s 15)),(2,F,(s 17)),(3,F,(s 18))]),Z4),(Y 20 4 19,Z5),(M 2 20,Z6),(A 3 (m (c .nilIface)),Z7)]
def g25:LFn:=⟨(Q (O aTf) (Q (Q (O aLr) (C (s 7) (Q (O aTe) .ret) Z)) (Q (D 7 aTd aLq) (Q (D 8 aTc aAO) .ret)))),21,[.slot 2,.slot 3]⟩
theorem aVu:aH Tryz.prog 35=some g25:=Zz
abbrev aTZ:LA:=[⟨S 2,N,x F (s 0)⟩,A 4 (m (c .nilIface))]
abbrev aTY:LA:=[E 12 2,A 13 (e false .ptr (s 12) (c .aAJ))]
abbrev aTX:LA:=[A 14 (.aBS 64 (B 13)),M 4 14]
abbrev aTW:LA:=[A 15 (.aCc (.func 65) [] [s 2]),M 5 15]
abbrev aTV:LA:=[A 6 (m (c (.fn (.func 67) [] [])))]
abbrev aTU:LA:=[M 17 1,M 18 5,P 19 69 [s 17,s 18],M 16 19]
abbrev aTT:LA:=[A 20 (.aBS 64 (B 2)),M 4 20]
abbrev aTS:LA:=[M 22 1,M 23 6,P 24 69 [s 22,s 23],M 21 24]
abbrev aTR:LA:=[A 25 (.aBS 64 (B 1)),M 4 25]
abbrev aTQ:LA:=[E 26 2,lR 27 26,H 28 3 27,E 29 28,P 30 70 [s 29],M 7 30]
abbrev aLp:LA:=[M 31 1,lP 32 31,lF 33 0]
abbrev aLo:LA:=[lA 34 33 32]
abbrev aLn:LA:=[lC 35 4 31 33,G 36 4 35,⟨S 9,N,x (.agg 4) (c (.agg [(I j 0),(I j 0),(I j 0),(I j 0)]))⟩,W 4 9 36]
abbrev aLm:LA:=[M 37 7,H 38 0 9,G 39 3 38,H 40 3 9,E 41 40,P 42 71 [s 37,s 39,s 41]]
abbrev aLl:LA:=[lB 43 33,M 33 43]
abbrev aTb:aZ:=(Q (O aLo) (Q (C (s 34) Z (X 1)) (Q (K 2 (Q (O aLn) (O aLm))) (O aLl))))
abbrev aLk:LA:=[M 44 7,⟨S 45,N,.mp (.rng (s 44))⟩]
abbrev aLj:LA:=[⟨S 46,N,.mp (.nxt (s 45))⟩,lQ 47 46 0]
abbrev aLi:LA:=[⟨S 48,N,.mp (.key (s 45))⟩,lQ 49 48 1,M 11 49]
abbrev aLh:LA:=[M 50 11,P 51 68 [s 50],A 52 (.not (s 51))]
abbrev aLg:LA:=[A 53 (.aBS 64 (B 1)),M 4 53]
abbrev aTa:aZ:=(Q (O aLj) (Q (C (s 47) Z (X 3)) (K 4 (Q (O aLi) (Q (O aLh) (C (s 52) (Q (O aLg) .ret) Z))))))
abbrev aLf:LA:=[E 54 2,M 55 7,lR 56 54,H 57 3 56,⟨N,N,t F (s 57) (s 55)⟩]
abbrev aLe:LA:=[A 4 (m (c .nilIface))]
def g26:LFn:=⟨(Q (O aTZ) (Q (Q (O aTY) (C (s 13) (Q (O aTX) .ret) Z)) (Q (O aTW) (Q (O aTV) (Q (K 0 (Q (O aTU) (C (s 16) (Q (O aTT) .ret) (Q (O aTS) (C (s 21) (Q (O aTR) .ret) Z))))) (Q (O aTQ) (Q (Q (O aLp) (K 1 (R aTb))) (Q (Q (O aLk) (K 3 (R aTa))) (Q (O aLf) (Q (O aLe) .ret)))))))))),58,[.slot 4]⟩
theorem aYs:aH Tryz.prog 36=some g26:=Zz
abbrev aTO:LA:=[M 8 0,lP 9 8,lF 10 0]
abbrev aIb:LA:=[lA 11 10 9]
abbrev aTN:LA:=[lC 12 3 8 10,G 13 3 12,⟨S 7,N,x (.agg 3) (c (.agg [(I j 0),(I j 0),(I j 0)]))⟩,W 3 7 13]
abbrev aTM:LA:=[M 14 5,G 15 3 7,M 16 1,A 17 (.build [(I j 0),(I j 0),(I j 0),(I j 0)] [(0,(.agg 3),(s 15)),(3,F,(s 16))]),⟨S 18,N,y (.agg 4) [s 17]⟩,lS 19 4 32 14 18,M 5 19]
abbrev aTL:LA:=[lB 20 10,M 10 20]
abbrev aTP:aZ:=(Q (O aIb) (Q (C (s 11) Z (X 0)) (Q (K 1 (Q (O aTN) (O aTM))) (O aTL))))
abbrev aTK:LA:=[M 21 5,M 4 21]
def g27:LFn:=⟨(Q (O aME) (Q (O aMD) (Q (Q (O aTO) (K 0 (R aTP))) (Q (O aTK) .ret)))),22,[.slot 4]⟩
theorem aYr:aH Tryz.prog 37=some g27:=Zz
abbrev aTI:LA:=[Y 1 2 0,A 2 (m (c (.sl F .nil [])))]
abbrev aIa:LA:=[A 2 (m (c (.sl F .nil [])))]
abbrev aLd:LA:=[A 3 (m (c (.sl F .nil [])))]
abbrev aTH:LA:=[H 8 0 1,E 9 8,lF 10 0]
abbrev aTG:LA:=[M 12 10,M 4 12]
abbrev aTF:LA:=[M 13 3,G 14 2 1,M 15 4,P 16 72 [s 14,s 15],⟨S 17,N,y F [s 16]⟩,⟨S 18,N,a F 24 (s 13) (s 17)⟩,M 3 18]
abbrev aTE:LA:=[lB 19 10,M 10 19]
abbrev aTJ:aZ:=(Q (O aIb) (Q (C (s 11) Z (X 0)) (Q (K 1 (Q (O aTG) (O aTF))) (O aTE))))
abbrev aTD:LA:=[M 20 3,M 2 20]
def g28:LFn:=⟨(Q (O aTI) (Q (Q (O aLr) (C (s 7) (Q (O aIa) .ret) Z)) (Q (O aLd) (Q (Q (O aTH) (K 0 (R aTJ))) (Q (O aTD) .ret))))),21,[.slot 2]⟩
theorem aYq:aH Tryz.prog 38=some g28:=Zz
abbrev aHW:LD:=[(M 5 0,[]),(lR 6 5,[0]),(H 7 0 6,[0,1]),(G 8 2 7,Z3),(M 9 0,[]),(lR 10 9,[4]),(H 11 2 10,[4,5]),(E 12 11,[4,5,6]),(M 13 0,[]),(lR 14 13,[8]),(H 15 3 14,[8,9]),(E 16 15,[8,9,10]),(P 17 70 [s 16],[8,9,10,11]),(A 18 (.build [(I j 0),(.sl (.agg 4) .nil []),(.sl F .nil []),.aAW] [(0,(.agg 2),(s 8)),(2,F,(s 12)),(3,F,(s 17))]),Z13),(Y 19 4 18,Z14),(M 2 19,Z15)]
def g29:LFn:=⟨(Q (O aGa) (Q (Q (O aIe) (C (s 4) (Q (O aGa) .ret) Z)) (Q (D 16 aHW aAO) .ret))),20,[.slot 2]⟩
theorem aYp:aH Tryz.prog 39=some g29:=Zz
abbrev aFZ:LA:=[lG 4]
abbrev aTC:LA:=[M 5 0,A 6 (e true .ptr (s 5) (c .aAJ)),M 7 6,lJ 8 7 1,T 9 7 (b .geq (s 8) (B 0)),lI 10 7 9,M 11 10,lJ 12 11 1,lJ 13 11 0,T 14 11 (n (s 13)),lL 15 11 2 14,lK 16 11 15,T 17 11 (w (s 16)),T 18 11 (b .lss (s 12) (s 17)),lI 19 11 18,M 4 19]
def g30:LFn:=⟨(Q (O aFZ) (Q (O aTC) .ret)),20,[.slot 4]⟩
theorem aYh:aH Tryz.prog 40=some g30:=Zz
abbrev aTB:LA:=[Y 3 3 0,lG 4]
abbrev aTA:LA:=[E 5 1,G 6 3 2,G 7 3 3,P 8 42 [s 5,s 6,s 7],A 9 (.not (s 8)),M 4 9]
def g31:LFn:=⟨(Q (O aTB) (Q (O aTA) .ret)),10,[.slot 4]⟩
theorem aYg:aH Tryz.prog 41=some g31:=Zz
abbrev aLc:LA:=[Y 4 3 1,Y 5 3 2,lG 6]
abbrev aS9:LD:=[(H 7 0 5,[]),(E 8 7,[0]),(A 9 (b .lss (s 8) (B 0)),[0,1]),(M 10 9,Z3),(lO 11 10 0 5,Z4),(lN 12 10 11,Z5),(lM 13 10 0,Z4),(U 14 10 (n (s 13)),[0,1,2,3,6]),(lO 15 10 0 14,[0,1,2,3,6,7]),(lN 16 10 15,[0,1,2,3,6,7,8]),(U 17 10 (w (s 16)),[0,1,2,3,6,7,8,9]),(U 18 10 (b .geq (s 12) (s 17)),Z11),(lH 19 10 18,Z12),(M 20 19,Z13),(lO 21 20 0 4,Z14),(lN 22 20 21,Z15),(U 23 20 (b .lss (s 22) (B 0)),Z16),(lH 24 20 23,Z17),(M 25 24,Z18),(lO 26 25 0 4,Z19),(lN 27 25 26,Z20),(lM 28 25 0,Z19),(U 29 25 (n (s 28)),[0,1,2,3,4,5,6,7,8,9,10,11,12,13,14,15,16,17,18,21]),(lO 30 25 0 29,[0,1,2,3,4,5,6,7,8,9,10,11,12,13,14,15,16,17,18,21,22]),(lN 31 25 30,[0,1,2,3,4,5,6,7,8,9,10,11,12,13,14,15,16,17,18,21,22,23]),(U 32 25 (w (s 31)),[0,1,2,3,4,5,6,7,8,9,10,11,12,13,14,15,16,17,18,21,22,23,24]),(U 33 25 (b .geq (s 27) (s 32)),Z26),(lH 34 25 33,Z27)]
abbrev aS8:LD:=[(M 35 0,[]),(lR 36 35,[0]),(H 37 0 36,[0,1]),(E 38 37,Z3),(H 39 0 4,[]),(E 40 39,[4]),(lE 41 38 40,Z6),(E 42 41,Z7),(H 43 0 5,[]),(E 44 43,[8]),(lE 45 42 44,Z10),(E 46 45,Z11),(G 47 3 4,[]),(G 48 3 5,[]),(P 49 51 [s 46,s 47,s 48],Z14),(M 6 49,Z15)]
def g32:LFn:=⟨(Q (O aLc) (Q (Q (D 28 aS9 aAO) (C (s 34) (Q (O aIc) .ret) Z)) (Q (D 16 aS8 aAO) .ret))),50,[.slot 6]⟩
theorem aYf:aH Tryz.prog 42=some g32:=Zz
abbrev aLb:LA:=[Y 3 3 1,lF 4 0]
abbrev aS7:LA:=[M 5 0,A 6 (e false .ptr (s 5) (c .aAJ))]
abbrev aGZ:LA:=[lF 4 0]
abbrev aS6:LD:=[(M 7 0,[]),(lR 8 7,[0]),(H 9 3 8,[0,1]),(E 10 9,Z3),(G 11 3 3,[]),(A 12 (.aBp (.agg 3) [.int,.int,.int] (I j 0) false (s 10) (s 11)),Z5),(M 4 12,Z6)]
def g33:LFn:=⟨(Q (O aLb) (Q (Q (O aS7) (C (s 6) (Q (O aGZ) .ret) Z)) (Q (D 7 aS6 aAO) .ret))),13,[.slot 4]⟩
theorem aYe:aH Tryz.prog 43=some g33:=Zz
abbrev aS3:LA:=[M 6 0,lR 7 6,H 8 2 7,E 9 8,lP 10 9,lF 11 0]
abbrev aS2:LA:=[lA 12 11 10]
abbrev aS1:LA:=[M 13 11,M 5 13]
abbrev aS0:LA:=[M 14 0,lR 15 14,H 16 3 15,E 17 16,M 18 1,M 19 5,A 20 (.build [(I j 0),(I j 0)] [(0,F,(s 18)),(1,F,(s 19))]),A 21 (.aBp (.agg 2) [.int,.int] (.sl F .nil []) false (s 17) (s 20)),lP 22 21,A 23 (b .geq (s 22) (B 1000))]
abbrev aSz:LA:=[A 4 (m Bb)]
abbrev aSy:LA:=[lB 24 11,M 11 24]
abbrev aS4:aZ:=(Q (O aS2) (Q (C (s 12) Z (X 0)) (Q (K 1 (Q (O aS1) (Q (O aS0) (C (s 23) (Q (O aSz) .ret) Z)))) (O aSy))))
def g34:LFn:=⟨(Q (O aFZ) (Q (Q (O aS3) (K 0 (R aS4))) (Q (O aFZ) .ret))),25,[.slot 4]⟩
theorem aYd:aH Tryz.prog 45=some g34:=Zz
abbrev aSw:LA:=[M 6 0,A 7 (e false .ptr (s 6) (c .aAJ))]
abbrev aSv:LA:=[M 8 0,P 9 74 [s 8],M 4 9]
abbrev aSu:LA:=[M 10 0,lR 11 10,H 12 0 11,H 13 0 12,E 14 13,lF 15 0]
abbrev aLY:LA:=[lA 16 15 14]
abbrev aSt:LA:=[M 17 15,M 5 17]
abbrev aSs:LA:=[M 18 3,M 19 0,M 20 4,M 21 5,P 22 75 [s 19,s 20,s 21],⟨S 23,N,y F [s 22]⟩,⟨S 24,N,a F 24 (s 18) (s 23)⟩,M 3 24]
abbrev aSr:LA:=[lB 25 15,M 15 25]
abbrev aSx:aZ:=(Q (O aLY) (Q (C (s 16) Z (X 0)) (Q (K 1 (Q (O aSt) (O aSs))) (O aSr))))
abbrev aLZ:LA:=[M 26 3,M 2 26]
def g35:LFn:=⟨(Q (O aIa) (Q (Q (O aSw) (C (s 7) (Q (O aIa) .ret) Z)) (Q (O aLd) (Q (O aSv) (Q (Q (O aSu) (K 0 (R aSx))) (Q (O aLZ) .ret)))))),27,[.slot 2]⟩
theorem aYc:aH Tryz.prog 46=some g35:=Zz
abbrev aIZ:LA:=[A 2 (m (c (.sl (.agg 4) .nil [])))]
abbrev aLX:LA:=[A 3 (m (c (.sl (.agg 4) .nil [])))]
abbrev aLW:LA:=[lC 10 4 6 8,G 11 4 10,⟨S 5,N,x (.agg 4) (c (.agg [(I j 0),(I j 0),(.bool false),(I j 0)]))⟩,W 4 5 11]
abbrev aSp:LD:=[(M 12 3,[]),(H 13 0 5,[]),(E 14 13,[1]),(H 15 1 5,[]),(E 16 15,[3]),(H 17 2 5,[]),(G 18 2 17,[5]),(P 19 79 [s 18],[5,6]),(A 20 (.build [(I j 0),(I j 0),(.bool false),(I j 0)] [(0,F,(s 14)),(1,F,(s 16)),(2,(.agg 2),(s 19))]),[1,2,3,4,5,6,7]),(⟨S 21,N,y (.agg 4) [s 20]⟩,[1,2,3,4,5,6,7,8]),(lS 22 4 32 12 21,Z10)]
abbrev aLV:LA:=[M 3 22]
abbrev aSo:LA:=[lB 23 8,M 8 23]
abbrev aSq:aZ:=(Q (O aIf) (Q (C (s 9) Z (X 0)) (Q (K 1 (Q (O aLW) (D 11 aSp aLV))) (O aSo))))
abbrev aSn:LA:=[M 24 3,M 2 24]
def g36:LFn:=⟨(Q (O aIZ) (Q (O aLX) (Q (Q (O aIg) (K 0 (R aSq))) (Q (O aSn) .ret)))),25,[.slot 2]⟩
theorem aYb:aH Tryz.prog 48=some g36:=Zz
abbrev aSl:LA:=[H 7 0 1,E 8 7,H 9 1 1,E 10 9,P 11 80 [s 8,s 10],M 6 11,lQ 12 6 0,lQ 13 6 1,⟨S 3,N,x (.agg 2) (c (.agg [(I j 0),(.sl (.agg 4) .nil [])]))⟩,W 2 3 12,M 4 13]
abbrev aSk:LA:=[M 14 4,A 15 (b .neq (s 14) (B 0)),M 16 15,lO 17 16 1 3,lN 18 16 17,U 19 16 (w (s 18)),lO 20 16 1 1,lN 21 16 20,U 22 16 (w (s 21)),U 23 16 (b .neq (s 19) (s 22)),lH 24 16 23]
abbrev aGY:LA:=[lF 5 0]
abbrev aSj:LA:=[M 25 5,H 26 1 1,E 27 26,lP 28 27,lA 29 25 28]
abbrev aSi:LD:=[(H 32 1 3,[]),(E 33 32,[0]),(M 34 5,[]),(lC 35 4 33 34,Z3),(G 36 4 35,Z4),(H 37 1 1,[]),(E 38 37,[5]),(M 39 5,[]),(lC 40 4 38 39,[5,6,7]),(G 41 4 40,[5,6,7,8]),(A 42 (e true (.plain (.agg 4) [.int,.int,.bool,.int]) (s 36) (s 41)),Z10)]
abbrev aSh:LA:=[M 30 5,lB 31 30,M 5 31]
abbrev aSm:aZ:=(Q (Q (O aSj) (C (s 29) Z (X 0))) (Q (K 1 (Q (D 11 aSi aAO) (C (s 42) (Q (O aFm) .ret) Z))) (O aSh)))
abbrev aSg:LA:=[A 2 (m Bb)]
def g37:LFn:=⟨(Q (O aJ2) (Q (O aSl) (Q (Q (O aSk) (C (s 24) (Q (O aFm) .ret) Z)) (Q (Q (O aGY) (K 0 (R aSm))) (Q (O aSg) .ret))))),43,[.slot 2]⟩
theorem aYa:aH Tryz.prog 49=some g37:=Zz
abbrev aSc:LA:=[Y 3 2 0,A 6 (m (c (.sl (.agg 4) .nil []))),lF 7 0]
abbrev aSb:LA:=[M 12 8,M 13 2,lP 14 13,lA 15 12 14]
abbrev aSa:LD:=[(M 18 2,[]),(M 19 8,[]),(lC 20 4 18 19,[0,1]),(H 21 0 20,Z3),(H 22 0 21,Z4),(E 23 22,Z5),(A 24 (b .lss (s 23) (B 0)),Z6),(M 25 24,Z7),(lM 26 25 2,Z8),(lM 27 25 8,Z8),(U 28 25 (i (.agg 4) (s 26) (s 27)),Z10),(lO 29 25 0 28,Z11),(lO 30 25 0 29,Z12),(lN 31 25 30,Z13),(lO 32 25 0 3,Z8),(lN 33 25 32,[0,1,2,3,4,5,6,7,14]),(U 34 25 (b .geq (s 31) (s 33)),Z16),(lH 35 25 34,Z17),(M 36 35,Z18),(lM 37 36 2,Z19),(lM 38 36 8,Z19),(U 39 36 (i (.agg 4) (s 37) (s 38)),Z21),(lO 40 36 0 39,Z22),(lO 41 36 1 40,Z23),(U 42 36 (l (.agg 2) (s 41)),Z24),(⟨S 43,S (36,false),k 53 [s 42]⟩,Z25),(U 44 36 (.not (s 43)),Z26),(lH 45 36 44,Z27)]
abbrev aSZ:LA:=[M 46 1,M 6 46,lF 7 2]
abbrev aSY:LA:=[M 16 8,lB 17 16,M 8 17]
abbrev aSf:aZ:=(Q (Q (O aSb) (C (s 15) Z (X 0))) (Q (K 1 (Q (D 28 aSa aAO) (C (s 45) (Q (O aSZ) .ret) Z))) (O aSY)))
abbrev aGX:LA:=[lF 9 0]
abbrev aSX:LA:=[M 47 9,M 48 2,lP 49 48,lA 50 47 49]
abbrev aSW:LA:=[M 53 2,M 54 9,lC 55 4 53 54,H 56 3 55,E 57 56,A 58 (b .gtr (s 57) (B 1000000)),M 59 58,lM 60 59 2,lM 61 59 9,U 62 59 (i (.agg 4) (s 60) (s 61)),lO 63 59 3 62,lN 64 59 63,U 65 59 (b .lss (s 64) (B (-1000000))),lH 66 59 65]
abbrev aSV:LA:=[M 67 1,M 6 67,lF 7 1]
abbrev aLU:LA:=[M 51 9,lB 52 51,M 9 52]
abbrev aSe:aZ:=(Q (Q (O aSX) (C (s 50) Z (X 2))) (Q (K 3 (Q (O aSW) (C (s 66) (Q (O aSV) .ret) Z))) (O aLU)))
abbrev aLT:LA:=[⟨S 68,N,y (.agg 4) []⟩,M 69 1,lS 70 4 32 68 69,M 71 2,lS 72 4 32 70 71,P 73 81 [s 72],M 10 73]
abbrev aLS:LA:=[M 74 11,M 75 10,lP 76 75,lA 77 74 76]
abbrev aLR:LA:=[M 80 10,M 81 11,lC 82 4 80 81,H 83 3 82,E 84 83,A 85 (b .gtr (s 84) (B 1000000)),M 86 85,lM 87 86 10,lM 88 86 11,U 89 86 (i (.agg 4) (s 87) (s 88)),lO 90 86 3 89,lN 91 86 90,U 92 86 (b .lss (s 91) (B (-1000000))),lH 93 86 92]
abbrev aLQ:LA:=[M 94 1,M 6 94,lF 7 1]
abbrev aLP:LA:=[M 78 11,lB 79 78,M 11 79]
abbrev aSd:aZ:=(Q (Q (O aLS) (C (s 77) Z (X 4))) (Q (K 5 (Q (O aLR) (C (s 93) (Q (O aLQ) .ret) Z))) (O aLP)))
abbrev aLO:LA:=[M 95 10,M 6 95,lF 7 0]
def g38:LFn:=⟨(Q (O aSc) (Q (Q (O aD6) (K 0 (R aSf))) (Q (Q (O aGX) (K 2 (R aSe))) (Q (O aLT) (Q (Q (O aFa) (K 4 (R aSd))) (Q (O aLO) .ret)))))),96,[.slot 6,.slot 7]⟩
theorem aYZ:aH Tryz.prog 50=some g38:=Zz
abbrev aSU:LA:=[A 8 (.aCc (.func 82) [] [s 4,s 5]),M 7 8]
abbrev aST:LA:=[G 9 3 4,G 10 3 5,A 11 (e true (.plain (.agg 3) [.int,.int,.int]) (s 9) (s 10)),M 12 11,lL 13 12 1 5,T 14 12 (l (.agg 2) (s 13)),⟨S 15,S (12,true),k 66 [s 14]⟩,lI 16 12 15,M 17 16,lJ 18 17 0,lJ 19 17 7,⟨S 20,S (17,true),k 85 [s 18,s 19]⟩,lI 21 17 20,M 6 21]
def g39:LFn:=⟨(Q (O aLc) (Q (O aSU) (Q (O aST) .ret))),22,[.slot 6]⟩
theorem aYY:aH Tryz.prog 51=some g39:=Zz
abbrev aFX:LA:=[Y 1 2 0,lG 2]
abbrev aFW:LA:=[H 3 0 1,E 4 3,A 5 (b .geq (s 4) (B 0)),M 6 5,lL 7 6 1 1,lK 8 6 7,T 9 6 (b .geq (s 8) (B 0)),lI 10 6 9,M 11 10,lL 12 11 0 1,lK 13 11 12,T 14 11 (b .leq (s 13) (B 1048576)),lI 15 11 14,M 16 15,lL 17 16 1 1,lK 18 16 17,T 19 16 (b .leq (s 18) (B 1048576)),lI 20 16 19,M 2 20]
def g40:LFn:=⟨(Q (O aFX) (Q (O aFW) .ret)),21,[.slot 2]⟩
theorem aYR:aH Tryz.prog 53=some g40:=Zz
abbrev aFV:LA:=[Y 3 2 1,lG 4]
abbrev aFU:LA:=[lF 5 0]
abbrev aFT:LA:=[M 6 5,M 7 0,lP 8 7,lA 9 6 8]
abbrev aFS:LD:=[(M 12 0,[]),(M 13 5,[]),(lC 14 2 12 13,[0,1]),(G 15 2 14,Z3),(G 16 2 3,[]),(P 17 86 [s 15,s 16],Z5)]
abbrev aFR:LA:=[A 4 (m Bb)]
abbrev aFQ:LA:=[M 10 5,lB 11 10,M 5 11]
abbrev aSS:aZ:=(Q (Q (O aFT) (C (s 9) Z (X 0))) (Q (K 1 (Q (D 6 aFS aAO) (C (s 17) (Q (O aFR) .ret) Z))) (O aFQ)))
abbrev aFP:LA:=[lG 4]
def g41:LFn:=⟨(Q (O aFV) (Q (Q (O aFU) (K 0 (R aSS))) (Q (O aFP) .ret))),18,[.slot 4]⟩
theorem aYQ:aH Tryz.prog 54=some g41:=Zz
abbrev aSQ:LA:=[Y 4 2 0,Y 6 2 2,A 8 (m (c (.sl (.agg 2) .nil [])))]
abbrev aSP:LA:=[G 14 2 4,M 15 1,M 16 3,P 17 87 [s 14,s 15,s 16],M 9 17]
abbrev aSO:LA:=[A 10 (m (c (.sl (.agg 2) .nil [])))]
abbrev aSN:LA:=[M 18 11,M 19 9,lP 20 19,lA 21 18 20]
abbrev aSM:LD:=[(M 25 9,[]),(M 26 11,[]),(lC 27 2 25 26,[0,1]),(G 28 2 27,Z3),(G 29 2 6,[]),(⟨S 30,N,.aAc 88 [s 28,s 29] []⟩,Z5),(M 24 30,Z6),(lQ 31 24 0,Z7),(lQ 32 24 1,Z7),(⟨S 12,N,x (.agg 2) (c (.agg [(I j 0),(I j 0)]))⟩,[]),(W 2 12 31,[0,1,2,3,4,5,6,7,9]),(M 13 32,Z11)]
abbrev aSL:LA:=[M 33 13,A 34 (b .eql (s 33) (B 0))]
abbrev aSK:LA:=[M 35 10,G 36 2 12,⟨S 37,N,y (.agg 2) [s 36]⟩,lS 38 2 16 35 37,M 10 38]
abbrev aSJ:LA:=[M 22 11,lB 23 22,M 11 23]
abbrev aSR:aZ:=(Q (Q (O aSN) (C (s 21) Z (X 0))) (Q (K 1 (Q (D 12 aSM aAO) (Q (O aSL) (C (s 34) (O aSK) Z)))) (O aSJ)))
abbrev aSI:LA:=[M 39 10,P 40 89 [s 39],M 8 40]
def g42:LFn:=⟨(Q (O aSQ) (Q (O aSP) (Q (O aSO) (Q (Q (O aFa) (K 0 (R aSR))) (Q (O aSI) .ret))))),41,[.slot 8]⟩
theorem aYP:aH Tryz.prog 55=some g42:=Zz
abbrev aFO:LA:=[Y 1 2 0,⟨S 2,N,x (.agg 2) (c (.agg [(I j 0),(I j 0)]))⟩]
abbrev aFN:LA:=[G 3 2 1,W 2 2 3]
def g43:LFn:=⟨(Q (O aFO) (Q (O aFN) .ret)),4,[.cell 2 (.agg 2)]⟩
theorem aYO:aH Tryz.prog 56=some g43:=Zz
abbrev aSG:LA:=[M 6 5,M 7 0,lP 8 7,lA 9 6 8]
abbrev aSF:LD:=[(M 12 0,[]),(M 13 5,[]),(lC 14 4 12 13,[0,1]),(H 15 0 14,Z3),(G 16 3 15,Z4),(G 17 3 3,[]),(A 18 (e false (.plain (.agg 3) [.int,.int,.int]) (s 16) (s 17)),Z6)]
abbrev aSE:LA:=[M 19 0,M 20 5,lC 21 4 19 20,H 22 3 21,E 23 22,M 4 23]
abbrev aSD:LA:=[M 10 5,lB 11 10,M 5 11]
abbrev aSH:aZ:=(Q (Q (O aSG) (C (s 9) Z (X 0))) (Q (K 1 (Q (D 7 aSF aAO) (C (s 18) (Q (O aSE) .ret) Z))) (O aSD)))
def g44:LFn:=⟨(Q (O aLb) (Q (Q (O aGY) (K 0 (R aSH))) (Q (O aGZ) .ret))),24,[.slot 4]⟩
theorem aYN:aH Tryz.prog 59=some g44:=Zz
abbrev aSC:LA:=[⟨S 1,N,x F (s 0)⟩,A 2 (m (c .aAv))]
abbrev aSB:LA:=[A 3 (.aCc (.func 90) [] [s 1]),M 2 3]
def g45:LFn:=⟨(Q (O aSC) (Q (O aSB) .ret)),4,[.slot 2]⟩
theorem aYM:aH Tryz.prog 60=some g45:=Zz
def g46:LFn:=⟨(Q (O aFm) (Q (O aMX) .ret)),13,[.slot 2]⟩
theorem aYL:aH Tryz.prog 61=some g46:=Zz
abbrev aSA:LA:=[⟨S 2,N,x F (s 0)⟩,⟨S 4,N,x (.agg 2) (c (.agg [(I j 0),(.sl (.agg 4) .nil [])]))⟩,A 5 (m (c .nilIface))]
abbrev aR9:LA:=[A 8 (.aCc (.func 94) [] [s 2]),M 6 8]
abbrev aR8:LA:=[E 9 2,A 10 (b .lss (s 9) (B 0)),M 11 10,lN 12 11 2,U 13 11 (b .gtr (s 12) (B 200)),lH 14 11 13,M 15 14,lM 16 15 1,lM 17 15 6,⟨S 18,S (15,false),k 96 [s 16,s 17]⟩,lH 19 15 18]
abbrev aR7:LA:=[A 20 (.build [(I j 0),(.sl (.agg 4) .nil [])] []),A 21 (.aBS 64 (B 1)),W 2 4 20,M 5 21]
abbrev aR6:LA:=[M 22 1,P 23 99 [s 22],P 24 98 [s 23,(c (.fn (.func 100) [] []))],P 25 97 [s 24],M 7 25]
abbrev aHV:LA:=[M 26 7,P 27 101 [s 26],A 28 (b .gtr (s 27) (B 1048576))]
abbrev aHU:LA:=[A 29 (.build [(I j 0),(.sl (.agg 4) .nil [])] []),A 30 (.aBS 64 (B 1)),W 2 4 29,M 5 30]
abbrev aHT:LA:=[E 31 2,M 32 7,P 33 102 [s 31,s 32],M 34 33,lN 35 34 2,lM 36 34 7,⟨S 37,S (34,false),k 103 [s 35,s 36]⟩,lH 38 34 37]
abbrev aHS:LA:=[A 39 (.build [(I j 0),(.sl (.agg 4) .nil [])] []),A 40 (.aBS 64 (B 9)),W 2 4 39,M 5 40]
abbrev aHR:LA:=[E 41 2,M 42 7,A 43 (.build [(I j 0),(.sl (.agg 4) .nil [])] [(0,F,(s 41)),(1,F,(s 42))]),W 2 4 43,A 5 (m (c .nilIface))]
def g47:LFn:=⟨(Q (O aSA) (Q (O aR9) (Q (Q (O aR8) (C (s 19) (Q (O aR7) .ret) Z)) (Q (O aR6) (Q (Q (O aHV) (C (s 28) (Q (O aHU) .ret) Z)) (Q (Q (O aHT) (C (s 38) (Q (O aHS) .ret) Z)) (Q (O aHR) .ret))))))),44,[.cell 4 (.agg 2),.slot 5]⟩
theorem aYK:aH Tryz.prog 62=some g47:=Zz
abbrev aR5:LA:=[H 6 0 1,E 7 6,H 8 1 1,E 9 8,P 10 62 [s 7,s 9],M 5 10,lQ 11 5 0,lQ 12 5 1,⟨S 3,N,x (.agg 2) (c (.agg [(I j 0),(.sl (.agg 4) .nil [])]))⟩,W 2 3 11,M 4 12]
abbrev aR4:LA:=[M 13 4,A 14 (e false (.iface true) (s 13) (c .nilIface)),M 15 14,lL 16 15 1 3,lK 17 15 16,lL 18 15 1 1,lK 19 15 18,⟨S 20,S (15,true),k 57 [s 17,s 19]⟩,lI 21 15 20,M 2 21]
def g48:LFn:=⟨(Q (O aJ2) (Q (O aR5) (Q (O aR4) .ret))),22,[.slot 2]⟩
theorem aYJ:aH Tryz.prog 63=some g48:=Zz
abbrev aLN:LA:=[Y 2 4 0,lG 3]
abbrev aR3:LD:=[(H 4 0 2,[]),(H 5 0 4,[0]),(E 6 5,[0,1]),(A 7 (b .lss (s 6) (B 0)),Z3),(M 8 7,Z4),(lO 9 8 0 2,Z5),(lO 10 8 0 9,Z6),(lN 11 8 10,Z7),(lN 12 8 1,Z5),(U 13 8 (n (s 12)),[0,1,2,3,4,8]),(lO 14 8 0 13,[0,1,2,3,4,8,9]),(lO 15 8 0 14,[0,1,2,3,4,8,9,10]),(lN 16 8 15,[0,1,2,3,4,8,9,10,11]),(U 17 8 (b .geq (s 11) (s 16)),Z13),(lH 18 8 17,Z14),(M 19 18,Z15),(lO 20 19 0 2,Z16),(lO 21 19 1 20,Z17),(U 22 19 (l (.agg 2) (s 21)),Z18),(⟨S 23,S (19,false),k 66 [s 22]⟩,Z19),(U 24 19 (.not (s 23)),Z20),(lH 25 19 24,Z21),(M 3 25,Z22)]
def g49:LFn:=⟨(Q (O aLN) (Q (D 23 aR3 aAO) .ret)),26,[.slot 3]⟩
theorem aYI:aH Tryz.prog 65=some g49:=Zz
abbrev aFL:LA:=[Y 1 2 0,lG 2]
abbrev aBE:LA:=[H 3 0 1,E 4 3,P 5 104 [s 4,(B 1048576)],M 6 5,lL 7 6 1 1,lK 8 6 7,⟨S 9,S (6,true),k 104 [s 8,(B 1048576)]⟩,lI 10 6 9,M 2 10]
def g50:LFn:=⟨(Q (O aFL) (Q (O aBE) .ret)),11,[.slot 2]⟩
theorem aYA:aH Tryz.prog 66=some g50:=Zz
abbrev aR2:LA:=[Y 1 4 0,lG 2]
abbrev aR1:LA:=[H 3 3 1,E 4 3,P 5 68 [s 4],A 6 (.not (s 5)),M 2 6]
def g51:LFn:=⟨(Q (O aR2) (Q (O aR1) .ret)),7,[.slot 2]⟩
theorem aX9:aH Tryz.prog 67=some g51:=Zz
abbrev aRw:LA:=[M 3 0,A 4 (b .geq (s 3) (B (-1000000))),M 5 4,lJ 6 5 0,T 7 5 (b .leq (s 6) (B 1000000)),lI 8 5 7,M 2 8]
def g52:LFn:=⟨(Q (O aFm) (Q (O aRw) .ret)),9,[.slot 2]⟩
theorem aX8:aH Tryz.prog 68=some g52:=Zz
abbrev aRv:LA:=[Y 4 3 1]
abbrev aHQ:LD:=[(M 6 0,[]),(G 7 3 4,[]),(A 8 (.aBp (.agg 3) [.int,.int,.int] (I j 0) false (s 6) (s 7)),[0,1]),(M 9 2,[]),(A 10 (b .add (s 8) (s 9)),Z4),(⟨S 11,N,.mp (.ent (.agg 3) [.int,.int,.int] (I j 0) (s 6) (s 7))⟩,[0,1,3]),(lQ 12 11 1,[0,1,3,5]),(⟨N,N,.mp (.est (s 6) (s 12) (s 10))⟩,Z7)]
abbrev aRu:LA:=[M 13 0,G 14 3 4,A 15 (.aBp (.agg 3) [.int,.int,.int] (I j 0) false (s 13) (s 14)),A 16 (b .eql (s 15) (B 0))]
abbrev aRt:LA:=[M 17 0,G 18 3 4,⟨N,N,.mp (.del (.agg 3) [.int,.int,.int] (s 17) (s 18))⟩]
def g53:LFn:=⟨(Q (O aRv) (Q (D 8 aHQ aAO) (Q (O aRu) (C (s 16) (O aRt) Z)))),19,[]⟩
theorem aX7:aH Tryz.prog 71=some g53:=Zz
abbrev aIY:LA:=[Y 2 2 0,A 4 (m (c (.sl F .nil [])))]
abbrev aRp:LA:=[H 16 0 2,E 17 16,⟨S 18,N,.mkz F 24 (s 17) (.sl (.agg 2) .nil [])⟩,M 5 18]
abbrev aRo:LA:=[M 19 5,M 20 1,A 21 (.build [(.bool false),(I j 0)] []),⟨S 22,N,y (.agg 2) [s 21]⟩,lE 23 19 20,⟨N,N,t F (s 23) (s 22)⟩]
abbrev aRn:LA:=[M 24 1,⟨S 25,N,y F [s 24]⟩,M 6 25]
abbrev aRm:LA:=[M 26 6,lP 27 26,A 28 (b .gtr (s 27) (B 0))]
abbrev aRl:LA:=[M 29 6,A 30 (i F (s 29) (B 0)),E 31 30,M 7 31]
abbrev aRk:LA:=[M 32 6,A 33 (.slc F (s 32) (.some (B 1)) .none .none),M 6 33]
abbrev aRj:LA:=[M 34 5,M 35 7,lE 36 34 35,E 37 36,P 38 107 [s 37],M 8 38]
abbrev aRi:LA:=[H 39 1 2,E 40 39,lP 41 40,lF 42 0]
abbrev aRh:LA:=[lA 43 42 41]
abbrev aLL:LA:=[lC 44 4 40 42,G 45 4 44,⟨S 10,N,x (.agg 4) (c (.agg [(I j 0),(I j 0),(.bool false),(I j 0)]))⟩,W 4 10 45]
abbrev aLK:LA:=[H 46 0 10,E 47 46,M 48 7,A 49 (b .neq (s 47) (s 48))]
abbrev aLJ:LA:=[M 50 8,lP 51 50,lF 52 0]
abbrev aLI:LA:=[lA 53 52 51]
abbrev aLH:LA:=[lC 54 2 50 52,G 55 2 54,⟨S 12,N,x (.agg 2) (c (.agg [(.bool false),(I j 0)]))⟩,W 2 12 55]
abbrev aLG:LA:=[G 57 2 12,H 58 2 10,G 59 2 58,P 60 108 [s 57,s 59],M 56 60,lQ 61 56 0,lQ 62 56 1,⟨S 13,N,x (.agg 2) (c (.agg [(.bool false),(I j 0)]))⟩,W 2 13 61,M 14 62]
abbrev aLF:LA:=[M 63 14,A 64 (e true (.iface true) (s 63) (c .nilIface))]
abbrev aLE:LA:=[lG 15]
abbrev aLD:LD:=[(M 66 5,[]),(H 67 1 10,[]),(E 68 67,[1]),(M 69 5,[]),(H 70 1 10,[]),(E 71 70,[4]),(lE 72 69 71,[3,4,5]),(E 73 72,[3,4,5,6]),(G 74 2 13,[]),(⟨S 75,N,.aAc 109 [s 73,s 74] [s 67]⟩,[3,4,5,6,7,8]),(M 65 75,[3,4,5,6,7,8,9]),(lQ 76 65 0,[3,4,5,6,7,8,9,10]),(lQ 77 65 1,[3,4,5,6,7,8,9,10]),(lE 78 66 68,Z12),(⟨N,N,t F (s 78) (s 76)⟩,[0,1,2,3,4,5,6,7,8,9,10,11,13]),(M 15 77,Z15)]
abbrev aLC:LA:=[M 79 15]
abbrev aLB:LA:=[M 80 6,H 81 1 10,E 82 81,⟨S 83,N,y F [s 82]⟩,⟨S 84,N,a F 8 (s 80) (s 83)⟩,M 6 84]
abbrev aLA:LA:=[lB 85 52,M 52 85]
abbrev aRs:aZ:=(Q (O aLI) (Q (C (s 53) Z (X 4)) (Q (K 5 (Q (O aLH) (Q (O aLG) (Q (Q (O aLF) (C (s 64) (X 5) Z)) (Q (O aLE) (Q (D 16 aLD aAO) (Q (O aLC) (C (s 79) (O aLB) Z)))))))) (O aLA))))
abbrev aK9:LA:=[lB 86 42,M 42 86]
abbrev aRr:aZ:=(Q (O aRh) (Q (C (s 43) Z (X 2)) (Q (K 3 (Q (O aLL) (Q (Q (O aLK) (C (s 49) (X 3) Z)) (Q (O aLJ) (K 4 (R aRs)))))) (O aK9))))
abbrev aRq:aZ:=(Q (Q (O aRm) (C (s 28) Z (X 0))) (K 1 (Q (O aRl) (Q (O aRk) (Q (O aRj) (Q (O aRi) (K 2 (R aRr))))))))
abbrev aK8:LA:=[M 87 5,M 4 87]
def g54:LFn:=⟨(Q (O aIY) (Q (O aRp) (Q (O aRo) (Q (O aRn) (Q (K 0 (R aRq)) (Q (O aK8) .ret)))))),88,[.slot 4]⟩
theorem aX6:aH Tryz.prog 72=some g54:=Zz
abbrev aRf:LA:=[M 6 0,lR 7 6,H 8 3 7,E 9 8,⟨S 10,N,.mp (.rng (s 9))⟩]
abbrev aRe:LA:=[⟨S 11,N,.mp (.nxt (s 10))⟩,lQ 12 11 0]
abbrev aRd:LA:=[⟨S 13,N,.mp (.key (s 10))⟩,lQ 14 13 0,lQ 15 13 1,⟨S 4,N,x (.agg 3) (c (.agg [(I j 0),(I j 0),(I j 0)]))⟩,W 3 4 14,M 5 15]
abbrev aRc:LA:=[M 16 5,A 17 (b .gtr (s 16) (B 0))]
abbrev aRb:LA:=[M 18 3,G 19 3 4,⟨S 20,N,y (.agg 3) [s 19]⟩,lS 21 3 24 18 20,M 3 21]
abbrev aRg:aZ:=(Q (O aRe) (Q (C (s 12) Z (X 0)) (K 1 (Q (O aRd) (Q (O aRc) (C (s 17) (O aRb) Z))))))
abbrev aRa:LA:=[M 22 3,M 2 22]
def g55:LFn:=⟨(Q (O aMd) (Q (O aMc) (Q (Q (O aRf) (K 0 (R aRg))) (Q (O aRa) .ret)))),23,[.slot 2]⟩
theorem aX5:aH Tryz.prog 74=some g55:=Zz
abbrev aK7:LA:=[A 6 (m (c (.sl (.agg 2) .nil [])))]
abbrev aRX:LA:=[A 7 (m (c (.sl (.agg 2) .nil [])))]
abbrev aRW:LA:=[M 14 1,lP 15 14,lF 16 0]
abbrev aRV:LA:=[lA 17 16 15]
abbrev aRU:LA:=[lC 18 3 14 16,G 19 3 18,⟨S 9,N,x (.agg 3) (c (.agg [(I j 0),(I j 0),(I j 0)]))⟩,W 3 9 19]
abbrev aRT:LD:=[(M 20 0,[]),(lR 21 20,[0]),(H 22 2 21,[0,1]),(E 23 22,Z3),(H 24 0 9,[]),(E 25 24,[4]),(lE 26 23 25,Z6),(E 27 26,Z7),(M 28 2,[]),(lE 29 27 28,Z9),(E 30 29,Z10),(lP 31 30,Z11),(lF 32 0,[])]
abbrev aRS:LA:=[lA 33 32 31]
abbrev aRR:LA:=[lC 34 2 30 32,G 35 2 34,⟨S 11,N,x (.agg 2) (c (.agg [(.bool false),(I j 0)]))⟩,W 2 11 35]
abbrev aRQ:LA:=[G 37 2 11,H 38 1 9,G 39 2 38,P 40 83 [s 37,s 39],M 36 40,lQ 41 36 0,lQ 42 36 1,⟨S 12,N,x (.agg 2) (c (.agg [(I j 0),(I j 0)]))⟩,W 2 12 41,M 13 42]
abbrev aRP:LA:=[M 43 13,A 44 (e false (.iface true) (s 43) (c .nilIface))]
abbrev aK6:LA:=[M 45 7,G 46 2 12,⟨S 47,N,y (.agg 2) [s 46]⟩,lS 48 2 16 45 47,M 7 48]
abbrev aK5:LA:=[lB 49 32,M 32 49]
abbrev aRZ:aZ:=(Q (O aRS) (Q (C (s 33) Z (X 2)) (Q (K 3 (Q (O aRR) (Q (O aRQ) (Q (O aRP) (C (s 44) (O aK6) Z))))) (O aK5))))
abbrev aK4:LA:=[lB 50 16,M 16 50]
abbrev aRY:aZ:=(Q (O aRV) (Q (C (s 17) Z (X 0)) (Q (K 1 (Q (O aRU) (Q (D 13 aRT aAO) (K 2 (R aRZ))))) (O aK4))))
abbrev aK3:LA:=[M 51 7,P 52 110 [s 51],M 6 52]
def g56:LFn:=⟨(Q (O aK7) (Q (O aRX) (Q (Q (O aRW) (K 0 (R aRY))) (Q (O aK3) .ret)))),53,[.slot 6]⟩
theorem aX4:aH Tryz.prog 75=some g56:=Zz
abbrev aFK:LA:=[lG 4]
abbrev aCr:LA:=[M 5 0,M 6 1,P 7 111 [s 5,s 6],A 8 (b .geq (s 7) (B 0)),M 4 8]
def g57:LFn:=⟨(Q (O aFK) (Q (O aCr) .ret)),9,[.slot 4]⟩
theorem aX3:aH Tryz.prog 76=some g57:=Zz
abbrev aFJ:LA:=[Y 3 2 1,lG 4]
abbrev aCq:LA:=[M 5 0,A 6 (.aCc (.func 112) [] [s 3]),P 7 76 [s 5,s 6],M 4 7]
def g58:LFn:=⟨(Q (O aFJ) (Q (O aCq) .ret)),8,[.slot 4]⟩
theorem aX2:aH Tryz.prog 78=some g58:=Zz
abbrev aRO:LA:=[Y 1 2 0,⟨S 2,N,x (.agg 2) (c (.agg [(.bool false),(I j 0)]))⟩]
abbrev aRN:LA:=[G 3 2 1,W 2 2 3]
def g59:LFn:=⟨(Q (O aRO) (Q (O aRN) .ret)),4,[.cell 2 (.agg 2)]⟩
theorem aX1:aH Tryz.prog 79=some g59:=Zz
abbrev aRI:LA:=[⟨S 4,N,x (.agg 2) (c (.agg [(I j 0),(.sl (.agg 4) .nil [])]))⟩,lF 5 0]
abbrev aRH:LA:=[M 16 0,A 17 (b .lss (s 16) (B 0)),M 18 17,lM 19 18 0,U 20 18 (b .gtr (s 19) (B 200)),lH 21 18 20]
abbrev aRG:LA:=[A 22 (.build [(I j 0),(.sl (.agg 4) .nil [])] []),W 2 4 22,lF 5 1]
abbrev aRF:LA:=[M 23 0,A 24 (.build [(I j 0),(.sl (.agg 4) .nil [])] [(0,F,(s 23))]),⟨S 6,N,x (.agg 2) (c (.agg [(I j 0),(.sl (.agg 4) .nil [])]))⟩,W 2 6 24]
abbrev aRE:LA:=[M 25 7,M 26 1,lP 27 26,lA 28 25 27]
abbrev aRD:LA:=[M 31 1,M 32 7,lC 33 4 31 32,G 34 4 33,⟨S 8,N,x (.agg 4) (c (.agg [(I j 0),(I j 0),(.bool false),(I j 0)]))⟩,W 4 8 34]
abbrev aRC:LA:=[H 35 0 8,E 36 35,A 37 (b .lss (s 36) (B 0)),M 38 37,lO 39 38 1 8,lN 40 38 39,U 41 38 (b .lss (s 40) (B 0)),lH 42 38 41,M 43 42,lO 44 43 0 8,lN 45 43 44,lM 46 43 0,U 47 43 (b .geq (s 45) (s 46)),lH 48 43 47,M 49 48,lO 50 49 1 8,lN 51 49 50,lM 52 49 0,U 53 49 (b .geq (s 51) (s 52)),lH 54 49 53,M 55 54,lO 56 55 2 8,U 57 55 (l (.agg 2) (s 56)),⟨S 58,S (55,false),k 113 [s 57]⟩,U 59 55 (.not (s 58)),lH 60 55 59]
abbrev aRB:LA:=[A 61 (.build [(I j 0),(.sl (.agg 4) .nil [])] []),W 2 4 61,lF 5 1]
abbrev aRA:LA:=[H 62 1 6,E 63 62,G 64 4 8,P 65 114 [s 63,s 64],H 66 1 6,⟨N,N,t F (s 66) (s 65)⟩]
abbrev aK2:LA:=[M 29 7,lB 30 29,M 7 30]
abbrev aRM:aZ:=(Q (Q (O aRE) (C (s 28) Z (X 0))) (Q (K 1 (Q (O aRD) (Q (Q (O aRC) (C (s 60) (Q (O aRB) .ret) Z)) (O aRA)))) (O aK2)))
abbrev aK1:LA:=[M 67 10,H 68 1 6,E 69 68,lP 70 69,lA 71 67 70]
abbrev aK0:LA:=[M 74 9,H 75 1 6,E 76 75,M 77 10,lC 78 4 76 77,H 79 2 78,H 80 1 79,E 81 80,A 82 (b .add (s 74) (s 81)),M 9 82]
abbrev aKz:LA:=[M 72 10,lB 73 72,M 10 73]
abbrev aRL:aZ:=(Q (Q (O aK1) (C (s 71) Z (X 2))) (Q (K 3 (O aK0)) (O aKz)))
abbrev aKy:LA:=[M 83 9,A 84 (b .gtr (s 83) (B 1048576))]
abbrev aKx:LA:=[A 85 (.build [(I j 0),(.sl (.agg 4) .nil [])] []),W 2 4 85,lF 5 1]
abbrev aKw:LD:=[(G 86 2 6,[]),(P 87 115 [s 86,Bb],[0]),(G 88 2 6,[]),(P 89 115 [s 88,Ba],Z3),(M 11 87,Z4),(M 12 89,Z5)]
abbrev aKv:LA:=[M 90 13,M 91 0,lA 92 90 91]
abbrev aKu:LA:=[M 95 11,M 96 13,lE 97 95 96,E 98 97,M 99 13,lE 100 98 99,E 101 100]
abbrev aKt:LA:=[A 102 (.build [(I j 0),(.sl (.agg 4) .nil [])] []),W 2 4 102,lF 5 9]
abbrev aKs:LA:=[M 93 13,lB 94 93,M 13 94]
abbrev aRK:aZ:=(Q (Q (O aKv) (C (s 92) Z (X 4))) (Q (K 5 (Q (O aKu) (C (s 101) (Q (O aKt) .ret) Z))) (O aKs)))
abbrev aKr:LA:=[M 103 14,H 104 1 6,E 105 104,lP 106 105,lA 107 103 106]
abbrev aKq:LA:=[H 110 1 6,E 111 110,M 112 14,lC 113 4 111 112,G 114 4 113,⟨S 15,N,x (.agg 4) (c (.agg [(I j 0),(I j 0),(.bool false),(I j 0)]))⟩,W 4 15 114]
abbrev aKp:LD:=[(H 115 2 15,[]),(H 116 0 115,[0]),(E 117 116,[0,1]),(M 118 117,Z3),(lL 119 118 0 15,Z4),(lK 120 118 119,Z5),(lL 121 118 1 15,Z4),(lK 122 118 121,[0,1,2,3,6]),(T 123 118 (b .eql (s 120) (s 122)),Z8),(lJ 124 118 123,Z9),(lM 125 124 12,Z10),(lO 126 124 1 15,Z10),(lN 127 124 126,[0,1,2,3,4,5,6,7,8,9,11]),(U 128 124 (i F (s 125) (s 127)),Z13),(lN 129 124 128,Z14),(lO 130 124 0 15,Z10),(lN 131 124 130,[0,1,2,3,4,5,6,7,8,9,15]),(U 132 124 (i F (s 129) (s 131)),Z17),(lN 133 124 132,Z18),(T 134 118 (p (s 124) Bb (s 133)),Z19),(lI 135 118 134,Z20)]
abbrev aKo:LA:=[A 136 (.build [(I j 0),(.sl (.agg 4) .nil [])] []),W 2 4 136,lF 5 9]
abbrev aKn:LA:=[M 108 14,lB 109 108,M 14 109]
abbrev aRJ:aZ:=(Q (Q (O aKr) (C (s 107) Z (X 6))) (Q (K 7 (Q (O aKq) (Q (D 21 aKp aAO) (C (s 135) (Q (O aKo) .ret) Z)))) (O aKn)))
abbrev aKm:LA:=[G 137 2 6,W 2 4 137,lF 5 0]
def g60:LFn:=⟨(Q (O aRI) (Q (Q (O aRH) (C (s 21) (Q (O aRG) .ret) Z)) (Q (O aRF) (Q (Q (O aD5) (K 0 (R aRM))) (Q (O aGX) (Q (Q (O aIn) (K 2 (R aRL))) (Q (Q (O aKy) (C (s 84) (Q (O aKx) .ret) Z)) (Q (D 6 aKw aAO) (Q (Q (O aHb) (K 4 (R aRK))) (Q (Q (O aId) (K 6 (R aRJ))) (Q (O aKm) .ret))))))))))),138,[.cell 4 (.agg 2),.slot 5]⟩
theorem aXq:aH Tryz.prog 80=some g60:=Zz
abbrev aQ3:LA:=[M 9 4,M 10 0,lP 11 10,lA 12 9 11]
abbrev aQ2:LA:=[A 5 (m Bb),lF 6 0]
abbrev aQ1:LA:=[M 15 7,M 16 0,lP 17 16,lA 18 15 17]
abbrev aQ0:LD:=[(M 21 0,[]),(M 22 7,[]),(lC 23 4 21 22,[0,1]),(H 24 0 23,Z3),(G 25 3 24,Z4),(M 26 0,[]),(M 27 4,[]),(lC 28 4 26 27,[5,6]),(H 29 0 28,[5,6,7]),(G 30 3 29,[5,6,7,8]),(A 31 (e false (.plain (.agg 3) [.int,.int,.int]) (s 25) (s 30)),Z10)]
abbrev aQz:LA:=[M 32 5,M 33 32,lJ 34 33 7,lJ 35 33 4,T 36 33 (b .geq (s 34) (s 35)),lI 37 33 36,M 5 37]
abbrev aQy:LA:=[M 38 6,M 39 0,M 40 7,lC 41 4 39 40,H 42 3 41,E 43 42,A 44 (b .add (s 38) (s 43)),M 6 44]
abbrev aKk:LA:=[M 19 7,lB 20 19,M 7 20]
abbrev aQ6:aZ:=(Q (Q (O aQ1) (C (s 18) Z (X 2))) (Q (K 3 (Q (D 11 aQ0 aAO) (C (s 31) (Q (O aQz) (O aQy)) Z))) (O aKk)))
abbrev aKj:LA:=[M 45 5,A 46 (.not (s 45)),M 47 46,lM 48 47 6,U 49 47 (b .eql (s 48) (B 0)),lH 50 47 49]
abbrev aKi:LD:=[(M 51 8,[]),(M 52 3,[]),(lP 53 52,[1]),(lA 54 51 53,Z3),(M 55 54,Z4),(lJ 56 55 3,Z5),(lJ 57 55 8,Z5),(T 58 55 (i (.agg 4) (s 56) (s 57)),Z7),(lL 59 55 0 58,Z8),(T 60 55 (l (.agg 3) (s 59)),Z9),(lJ 61 55 0,Z5),(lJ 62 55 4,Z5),(T 63 55 (i (.agg 4) (s 61) (s 62)),[0,1,2,3,4,10,11]),(lL 64 55 0 63,[0,1,2,3,4,10,11,12]),(T 65 55 (l (.agg 3) (s 64)),[0,1,2,3,4,10,11,12,13]),(⟨S 66,S (55,true),k 116 [s 60,s 65]⟩,Z15),(lI 67 55 66,Z16)]
abbrev aKh:LA:=[M 68 8,lB 69 68,M 8 69]
abbrev aQ5:aZ:=(Q (Q (D 17 aKi aAO) (C (s 67) Z (X 4))) (K 5 (O aKh)))
abbrev aFH:LD:=[(⟨S 70,N,y (.agg 4) []⟩,[]),(M 71 3,[]),(M 72 8,[]),(A 73 (.slc (.agg 4) (s 71) .none (.some (s 72)) .none),[1,2]),(lS 74 4 32 70 73,Z4),(M 75 0,[]),(M 76 4,[]),(lC 77 4 75 76,[5,6]),(H 78 0 77,[5,6,7]),(G 79 3 78,[5,6,7,8]),(M 80 6,[]),(A 81 (.build [(I j 0),(I j 0),(I j 0),(I j 0)] [(0,(.agg 3),(s 79)),(3,F,(s 80))]),[5,6,7,8,9,10]),(⟨S 82,N,y (.agg 4) [s 81]⟩,[5,6,7,8,9,10,11]),(lS 83 4 32 74 82,Z13),(M 84 3,[]),(M 85 8,[]),(A 86 (.slc (.agg 4) (s 84) (.some (s 85)) .none .none),[14,15]),(lS 87 4 32 83 86,Z17)]
abbrev aDr:LA:=[M 3 87]
abbrev aFG:LA:=[M 13 4,lB 14 13,M 4 14]
abbrev aQ4:aZ:=(Q (Q (O aQ3) (C (s 12) Z (X 0))) (Q (K 1 (Q (O aQ2) (Q (Q (O aD5) (K 2 (R aQ6))) (Q (Q (O aKj) (C (s 50) (X 1) Z)) (Q (O aD6) (Q (K 4 (R aQ5)) (D 18 aFH aDr))))))) (O aFG)))
abbrev aKg:LA:=[M 88 3,M 2 88]
def g61:LFn:=⟨(Q (O aIZ) (Q (O aLX) (Q (Q (O aGZ) (K 0 (R aQ4))) (Q (O aKg) .ret)))),89,[.slot 2]⟩
theorem aXp:aH Tryz.prog 81=some g61:=Zz
abbrev aQx:LA:=[Y 3 2 0,lG 4]
abbrev aQw:LA:=[G 8 2 3,H 9 1 1,G 10 2 9,P 11 83 [s 8,s 10],M 7 11,lQ 12 7 0,lQ 13 7 1,⟨S 5,N,x (.agg 2) (c (.agg [(I j 0),(I j 0)]))⟩,W 2 5 12,M 6 13]
abbrev aQv:LA:=[M 14 6,A 15 (e false (.iface true) (s 14) (c .nilIface)),M 16 15,T 17 16 (l (.agg 2) (s 5)),lL 18 16 1 2,T 19 16 (l (.agg 2) (s 18)),⟨S 20,S (16,true),k 84 [s 17,s 19]⟩,lI 21 16 20,M 4 21]
def g62:LFn:=⟨(Q (O aQx) (Q (O aQw) (Q (O aQv) .ret))),22,[.slot 4]⟩
theorem aXo:aH Tryz.prog 82=some g62:=Zz
abbrev aQu:LA:=[Y 2 2 0,Y 3 2 1,⟨S 4,N,x (.agg 2) (c (.agg [(I j 0),(I j 0)]))⟩,A 5 (m (c .nilIface))]
abbrev aQt:LA:=[G 7 2 2,P 8 117 [s 7],A 9 (.not (s 8)),M 10 9,U 11 10 (l (.agg 2) (s 3)),⟨S 12,S (10,false),k 66 [s 11]⟩,U 13 10 (.not (s 12)),lH 14 10 13]
abbrev aQs:LA:=[A 15 (.build [(I j 0),(I j 0)] []),A 16 (.aBS 64 (B 2)),W 2 4 15,M 5 16]
abbrev aQr:LA:=[H 17 0 3,E 18 17,H 19 1 2,E 20 19,A 21 (.build [(I j 0),(I j 0)] [(0,F,(s 18)),(1,F,(s 20))]),⟨S 6,N,x (.agg 2) (c (.agg [(I j 0),(I j 0)]))⟩,W 2 6 21]
abbrev aQq:LA:=[H 22 0 2,E 23 22,A 24 (.not (s 23))]
abbrev aQp:LA:=[H 25 1 6,E 26 25,H 27 1 3,E 28 27,A 29 (b .add (s 26) (s 28)),H 30 1 6,⟨N,N,t F (s 30) (s 29)⟩]
abbrev aQo:LA:=[G 31 2 6,P 32 66 [s 31],A 33 (.not (s 32))]
abbrev aQn:LA:=[A 34 (.build [(I j 0),(I j 0)] []),A 35 (.aBS 64 (B 1)),W 2 4 34,M 5 35]
abbrev aQm:LA:=[G 36 2 6,W 2 4 36,A 5 (m (c .nilIface))]
def g63:LFn:=⟨(Q (O aQu) (Q (Q (O aQt) (C (s 14) (Q (O aQs) .ret) Z)) (Q (O aQr) (Q (Q (O aQq) (C (s 24) (O aQp) Z)) (Q (Q (O aQo) (C (s 33) (Q (O aQn) .ret) Z)) (Q (O aQm) .ret)))))),37,[.cell 4 (.agg 2),.slot 5]⟩
theorem aXn:aH Tryz.prog 83=some g63:=Zz
abbrev aFF:LA:=[Y 2 2 0,Y 3 2 1,lG 4]
abbrev aFE:LA:=[H 5 0 2,E 6 5,H 7 0 3,E 8 7,A 9 (b .leq (s 6) (s 8)),M 10 9,lL 11 10 1 2,lK 12 10 11,lL 13 10 1 3,lK 14 10 13,T 15 10 (b .leq (s 12) (s 14)),lI 16 10 15,M 4 16]
def g64:LFn:=⟨(Q (O aFF) (Q (O aFE) .ret)),17,[.slot 4]⟩
theorem aXm:aH Tryz.prog 84=some g64:=Zz
abbrev aFD:LA:=[Y 2 2 0,Y 3 2 1,lG 4]
abbrev aFC:LA:=[H 5 0 2,E 6 5,H 7 0 3,E 8 7,A 9 (b .gtr (s 6) (s 8)),A 10 (.not (s 9)),M 11 10,lL 12 11 1 2,lK 13 11 12,lL 14 11 1 3,lK 15 11 14,T 16 11 (b .gtr (s 13) (s 15)),T 17 11 (.not (s 16)),lI 18 11 17,M 4 18]
def g65:LFn:=⟨(Q (O aFD) (Q (O aFC) .ret)),19,[.slot 4]⟩
theorem aXl:aH Tryz.prog 86=some g65:=Zz
abbrev aQl:LA:=[Y 3 2 0,A 6 (m (c (.sl (.agg 2) .nil [])))]
abbrev aQk:LA:=[G 7 2 3,P 8 49 [s 7],A 9 (.not (s 8)),M 10 9,lM 11 10 1,U 12 10 (b .lss (s 11) (B 0)),lH 13 10 12,M 14 13,lM 15 14 2,U 16 14 (b .lss (s 15) (B 0)),lH 17 14 16,M 18 17,lM 19 18 1,lO 20 18 0 3,lN 21 18 20,U 22 18 (b .geq (s 19) (s 21)),lH 23 18 22,M 24 23,lM 25 24 2,lO 26 24 0 3,lN 27 24 26,U 28 24 (b .geq (s 25) (s 27)),lH 29 24 28]
abbrev aQj:LA:=[G 30 2 3,M 31 1,P 32 119 [s 30,s 31],M 33 2,lE 34 32 33,E 35 34,M 6 35]
def g66:LFn:=⟨(Q (O aQl) (Q (Q (O aQk) (C (s 29) (Q (O aK7) .ret) Z)) (Q (O aQj) .ret))),36,[.slot 6]⟩
theorem aXk:aH Tryz.prog 87=some g66:=Zz
abbrev aQi:LA:=[Y 2 2 0,Y 3 2 1,⟨S 4,N,x (.agg 2) (c (.agg [(I j 0),(I j 0)]))⟩,lF 5 0]
abbrev aQh:LA:=[G 7 2 2,P 8 113 [s 7],A 9 (.not (s 8)),M 10 9,U 11 10 (l (.agg 2) (s 3)),⟨S 12,S (10,false),k 53 [s 11]⟩,U 13 10 (.not (s 12)),lH 14 10 13]
abbrev aQg:LA:=[A 15 (.build [(I j 0),(I j 0)] []),W 2 4 15,lF 5 2]
abbrev aQf:LA:=[H 16 1 3,E 17 16,M 6 17]
abbrev aQe:LA:=[H 18 0 2,E 19 18]
abbrev aQd:LA:=[M 20 6,H 21 1 2,E 22 21,A 23 (b .add (s 20) (s 22)),A 24 (b .gtr (s 23) (B 1048576))]
abbrev aQc:LA:=[A 25 (.build [(I j 0),(I j 0)] []),W 2 4 25,lF 5 1]
abbrev aQb:LA:=[H 26 0 3,E 27 26,M 28 6,H 29 1 2,E 30 29,A 31 (b .add (s 28) (s 30)),A 32 (.build [(I j 0),(I j 0)] [(0,F,(s 27)),(1,F,(s 31))]),W 2 4 32,lF 5 0]
def g67:LFn:=⟨(Q (O aQi) (Q (Q (O aQh) (C (s 14) (Q (O aQg) .ret) Z)) (Q (O aQf) (Q (Q (O aQe) (C (s 19) (O aD7) Z)) (Q (Q (O aQd) (C (s 24) (Q (O aQc) .ret) Z)) (Q (O aQb) .ret)))))),33,[.cell 4 (.agg 2),.slot 5]⟩
theorem aXj:aH Tryz.prog 88=some g67:=Zz
abbrev aIX:LA:=[A 2 (m (c (.sl (.agg 2) .nil [])))]
abbrev aKf:LA:=[A 3 (m (c (.sl (.agg 2) .nil [])))]
abbrev aQX:LA:=[M 8 4,M 9 0,lP 10 9,lA 11 8 10]
abbrev aQW:LA:=[M 14 0,M 15 4,lC 16 2 14 15,G 17 2 16,P 18 53 [s 17],M 5 18]
abbrev aQV:LA:=[M 19 6,M 20 0,lP 21 20,lA 22 19 21]
abbrev aQU:LD:=[(M 25 0,[]),(M 26 6,[]),(lC 27 2 25 26,[0,1]),(G 28 2 27,Z3),(P 29 53 [s 28],Z4),(M 30 29,Z5),(lJ 31 30 0,Z6),(lJ 32 30 6,Z6),(T 33 30 (i (.agg 2) (s 31) (s 32)),Z8),(T 34 30 (l (.agg 2) (s 33)),Z9),(lJ 35 30 0,Z6),(lJ 36 30 4,Z6),(T 37 30 (i (.agg 2) (s 35) (s 36)),[0,1,2,3,4,5,10,11]),(T 38 30 (l (.agg 2) (s 37)),[0,1,2,3,4,5,10,11,12]),(⟨S 39,S (30,true),k 86 [s 34,s 38]⟩,Z14),(lI 40 30 39,Z15),(M 41 40,Z16),(lJ 42 41 0,Z17),(lJ 43 41 6,Z17),(T 44 41 (i (.agg 2) (s 42) (s 43)),Z19),(T 45 41 (l (.agg 2) (s 44)),Z20),(lJ 46 41 0,Z17),(lJ 47 41 4,Z17),(T 48 41 (i (.agg 2) (s 46) (s 47)),[0,1,2,3,4,5,6,7,8,9,10,11,12,13,14,15,16,21,22]),(T 49 41 (l (.agg 2) (s 48)),[0,1,2,3,4,5,6,7,8,9,10,11,12,13,14,15,16,21,22,23]),(T 50 41 (e true (.plain (.agg 2) [.int,.int]) (s 45) (s 49)),Z25),(lJ 51 41 50,Z26),(lM 52 51 6,Z27),(lM 53 51 4,Z27),(U 54 51 (b .lss (s 52) (s 53)),Z29),(T 55 41 (p (s 51) Bb (s 54)),Z30),(lI 56 41 55,Z31)]
abbrev aQT:LA:=[lG 5]
abbrev aQS:LA:=[M 23 6,lB 24 23,M 6 24]
abbrev aQa:aZ:=(Q (Q (O aQV) (C (s 22) Z (X 2))) (Q (K 3 (Q (D 32 aQU aAO) (C (s 56) (O aQT) Z))) (O aQS)))
abbrev aKe:LA:=[M 57 5,A 58 (.not (s 57))]
abbrev aKd:LD:=[(M 59 7,[]),(M 60 3,[]),(lP 61 60,[1]),(lA 62 59 61,Z3),(M 63 62,Z4),(lJ 64 63 3,Z5),(lJ 65 63 7,Z5),(T 66 63 (i (.agg 2) (s 64) (s 65)),Z7),(T 67 63 (l (.agg 2) (s 66)),Z8),(lJ 68 63 0,Z5),(lJ 69 63 4,Z5),(T 70 63 (i (.agg 2) (s 68) (s 69)),[0,1,2,3,4,9,10]),(T 71 63 (l (.agg 2) (s 70)),[0,1,2,3,4,9,10,11]),(⟨S 72,S (63,true),k 120 [s 67,s 71]⟩,Z13),(lI 73 63 72,Z14)]
abbrev aKc:LA:=[M 74 7,lB 75 74,M 7 75]
abbrev aQZ:aZ:=(Q (Q (D 15 aKd aAO) (C (s 73) Z (X 4))) (K 5 (O aKc)))
abbrev aFB:LD:=[(⟨S 76,N,y (.agg 2) []⟩,[]),(M 77 3,[]),(M 78 7,[]),(A 79 (.slc (.agg 2) (s 77) .none (.some (s 78)) .none),[1,2]),(lS 80 2 16 76 79,Z4),(M 81 0,[]),(M 82 4,[]),(lC 83 2 81 82,[5,6]),(G 84 2 83,[5,6,7]),(⟨S 85,N,y (.agg 2) [s 84]⟩,[5,6,7,8]),(lS 86 2 16 80 85,Z10),(M 87 3,[]),(M 88 7,[]),(A 89 (.slc (.agg 2) (s 87) (.some (s 88)) .none .none),[11,12]),(lS 90 2 16 86 89,Z14)]
abbrev aDq:LA:=[M 3 90]
abbrev aKb:LA:=[M 12 4,lB 13 12,M 4 13]
abbrev aQY:aZ:=(Q (Q (O aQX) (C (s 11) Z (X 0))) (Q (K 1 (Q (O aQW) (Q (Q (O aD7) (K 2 (R aQa))) (Q (Q (O aKe) (C (s 58) (X 1) Z)) (Q (O aD5) (Q (K 4 (R aQZ)) (D 15 aFB aDq))))))) (O aKb)))
abbrev aKa:LA:=[M 91 3,M 2 91]
def g68:LFn:=⟨(Q (O aIX) (Q (O aKf) (Q (Q (O aGZ) (K 0 (R aQY))) (Q (O aKa) .ret)))),92,[.slot 2]⟩
theorem aXi:aH Tryz.prog 89=some g68:=Zz
abbrev aQQ:LA:=[E 6 1,A 7 (e false .ptr (s 6) (c .aAJ))]
abbrev aQP:LA:=[E 8 1,lR 9 8,H 10 3 9,E 11 10,P 12 92 [s 11],P 13 91 [s 12,(c (.fn (.func 93) [] []))],lP 14 13,lF 15 0]
abbrev aQO:LA:=[lC 17 3 13 15,G 18 3 17,⟨S 4,N,x (.agg 3) (c (.agg [(I j 0),(I j 0),(I j 0)]))⟩,W 3 4 18]
abbrev aQN:LD:=[(E 19 1,[]),(lR 20 19,[0]),(H 21 3 20,[0,1]),(E 22 21,Z3),(G 23 3 4,[]),(A 24 (.aBp (.agg 3) [.int,.int,.int] (I j 0) false (s 22) (s 23)),Z5),(M 5 24,Z6)]
abbrev aQM:LA:=[M 25 5,A 26 (b .gtr (s 25) (B 0)),M 27 26,lJ 28 27 0,T 29 27 (l (.agg 3) (s 4)),lJ 30 27 5,⟨S 31,S (27,true),.aAe (s 28) [s 29,s 30]⟩,T 32 27 (.not (s 31)),lI 33 27 32]
abbrev aQL:LA:=[lB 34 15,M 15 34]
abbrev aQR:aZ:=(Q (O aLY) (Q (C (s 16) Z (X 0)) (Q (K 1 (Q (O aQO) (Q (D 7 aQN aAO) (Q (O aQM) (C (s 33) .ret Z))))) (O aQL))))
def g69:LFn:=⟨(Q (Q (O aQQ) (C (s 7) .ret Z)) (Q (O aQP) (K 0 (R aQR)))),35,[]⟩
theorem aXh:aH Tryz.prog 90=some g69:=Zz
abbrev aQA:LA:=[Y 2 3 0,Y 3 3 1,lF 4 0]
abbrev aP9:LD:=[(H 5 0 2,[]),(E 6 5,[0]),(H 7 0 3,[]),(E 8 7,[2]),(P 9 125 [s 6,s 8],Z4),(H 10 1 2,[]),(G 11 2 10,[5]),(H 12 1 3,[]),(G 13 2 12,[7]),(P 14 126 [s 11,s 13],Z9),(⟨S 15,N,y F [s 9,s 14]⟩,Z10),(P 16 124 [s 15],Z11),(M 4 16,Z12)]
def g70:LFn:=⟨(Q (O aQA) (Q (D 13 aP9 aAO) .ret)),17,[.slot 4]⟩
theorem aXW:aH Tryz.prog 93=some g70:=Zz
abbrev aP8:LA:=[G 4 4 2,E 5 1,P 6 95 [s 4,s 5],A 7 (.not (s 6)),M 3 7]
def g71:LFn:=⟨(Q (O aLN) (Q (O aP8) .ret)),8,[.slot 3]⟩
theorem aXV:aH Tryz.prog 94=some g71:=Zz
abbrev aP7:LA:=[Y 2 4 0,lG 4]
abbrev aP6:LA:=[H 5 0 2,E 6 5,A 7 (b .geq (s 6) (B 0)),M 8 7,lL 9 8 0 2,lK 10 8 9,lJ 11 8 1,T 12 8 (b .lss (s 10) (s 11)),lI 13 8 12,M 14 13,lL 15 14 1 2,lK 16 14 15,T 17 14 (b .geq (s 16) (B 0)),lI 18 14 17,M 19 18,lL 20 19 1 2,lK 21 19 20,lJ 22 19 1,T 23 19 (b .lss (s 21) (s 22)),lI 24 19 23,M 25 24,lL 26 25 2 2,T 27 25 (l (.agg 2) (s 26)),⟨S 28,S (25,true),k 117 [s 27]⟩,lI 29 25 28,M 4 29]
def g72:LFn:=⟨(Q (O aP7) (Q (O aP6) .ret)),30,[.slot 4]⟩
theorem aXU:aH Tryz.prog 95=some g72:=Zz
abbrev aP3:LA:=[M 6 0,lP 7 6,A 8 (b .lss (s 7) (B 2))]
abbrev aP2:LA:=[M 9 0,M 2 9]
abbrev aP1:LA:=[lF 3 1]
abbrev aP0:LA:=[M 10 3,M 11 0,lP 12 11,lA 13 10 12]
abbrev aPz:LD:=[(M 16 0,[]),(M 17 3,[]),(lC 18 4 16 17,[0,1]),(G 19 4 18,Z3),(M 20 0,[]),(M 21 3,[]),(A 22 (b .sub (s 21) (B 1)),[5]),(lC 23 4 20 22,[4,5,6]),(G 24 4 23,[4,5,6,7]),(A 25 (e false (.plain (.agg 4) [.int,.int,.bool,.int]) (s 19) (s 24)),Z9)]
abbrev aPy:LA:=[M 26 0,M 27 3,A 28 (.slc (.agg 4) (s 26) (.some (s 27)) .none .none),M 4 28]
abbrev aPx:LA:=[lF 5 1]
abbrev aPw:LA:=[M 29 5,M 30 4,lP 31 30,lA 32 29 31]
abbrev aPv:LD:=[(M 35 4,[]),(M 36 5,[]),(lC 37 4 35 36,[0,1]),(G 38 4 37,Z3),(M 39 4,[]),(M 40 5,[]),(A 41 (b .sub (s 40) (B 1)),[5]),(lC 42 4 39 41,[4,5,6]),(G 43 4 42,[4,5,6,7]),(A 44 (e true (.plain (.agg 4) [.int,.int,.bool,.int]) (s 38) (s 43)),Z9)]
abbrev aKY:LA:=[M 45 0,M 46 3,M 47 4,M 48 5,lC 49 4 47 48,G 50 4 49,lC 51 4 45 46,W 4 51 50]
abbrev aKX:LA:=[M 52 3,lB 53 52,M 3 53]
abbrev aKW:LA:=[M 33 5,lB 34 33,M 5 34]
abbrev aP5:aZ:=(Q (Q (O aPw) (C (s 32) Z (X 2))) (Q (K 3 (Q (D 10 aPv aAO) (C (s 44) (Q (O aKY) (O aKX)) Z))) (O aKW)))
abbrev aKV:LA:=[M 54 0,M 55 3,A 56 (.slc (.agg 4) (s 54) (.some (s 55)) .none .none),⟨N,N,.clear (.agg 4) (s 56) (.agg [(I j 0),(I j 0),(.bool false),(I j 0)])⟩]
abbrev aKU:LA:=[M 57 0,M 58 3,A 59 (.slc (.agg 4) (s 57) .none (.some (s 58)) .none),M 2 59]
abbrev aKT:LA:=[M 14 3,lB 15 14,M 3 15]
abbrev aP4:aZ:=(Q (Q (O aP0) (C (s 13) Z (X 0))) (Q (K 1 (Q (D 10 aPz aAO) (C (s 25) (Q (O aPy) (Q (Q (O aPx) (K 2 (R aP5))) (Q (O aKV) (Q (O aKU) .ret)))) Z))) (O aKT)))
abbrev aKS:LA:=[M 60 0,M 2 60]
def g73:LFn:=⟨(Q (O aIZ) (Q (Q (O aP3) (C (s 8) (Q (O aP2) .ret) Z)) (Q (Q (O aP1) (K 0 (R aP4))) (Q (O aKS) .ret)))),61,[.slot 2]⟩
theorem aXT:aH Tryz.prog 97=some g73:=Zz
abbrev aPu:LA:=[Y 2 4 0,Y 3 4 1,lF 4 0]
abbrev aPt:LD:=[(H 5 0 2,[]),(E 6 5,[0]),(H 7 0 3,[]),(E 8 7,[2]),(P 9 125 [s 6,s 8],Z4),(H 10 1 2,[]),(E 11 10,[5]),(H 12 1 3,[]),(E 13 12,[7]),(P 14 125 [s 11,s 13],Z9),(H 15 2 2,[]),(H 16 0 15,[10]),(E 17 16,[10,11]),(P 18 131 [s 17],Z13),(H 19 2 3,[]),(H 20 0 19,[14]),(E 21 20,[14,15]),(P 22 131 [s 21],Z17),(P 23 125 [s 18,s 22],Z18),(H 24 2 2,[]),(H 25 1 24,[19]),(E 26 25,[19,20]),(H 27 2 3,[]),(H 28 1 27,[22]),(E 29 28,[22,23]),(P 30 125 [s 26,s 29],Z25),(⟨S 31,N,y F [s 9,s 14,s 23,s 30]⟩,Z26),(P 32 124 [s 31],Z27),(M 4 32,Z28)]
def g74:LFn:=⟨(Q (O aPu) (Q (D 29 aPt aAO) .ret)),33,[.slot 4]⟩
theorem aXS:aH Tryz.prog 100=some g74:=Zz
abbrev aPr:LA:=[lF 3 0]
abbrev aPq:LA:=[M 12 3,H 13 2 5,H 14 1 13,E 15 14,A 16 (b .add (s 12) (s 15)),M 3 16]
abbrev aPs:aZ:=(Q (O aIf) (Q (C (s 9) Z (X 0)) (Q (K 1 (Q (O aLW) (O aPq))) (O aMb))))
def g75:LFn:=⟨(Q (O aDM) (Q (O aPr) (Q (Q (O aIg) (K 0 (R aPs))) (Q (O aMa) .ret)))),19,[.slot 2]⟩
theorem aXR:aH Tryz.prog 101=some g75:=Zz
abbrev aPl:LA:=[M 14 0,⟨S 15,N,.mkz F 8 (s 14) (I j 0)⟩,M 5 15]
abbrev aPk:LA:=[M 16 1,lP 17 16,lF 18 0]
abbrev aPj:LA:=[lA 19 18 17]
abbrev aPi:LA:=[lC 20 4 16 18,G 21 4 20,⟨S 7,N,x (.agg 4) (c (.agg [(I j 0),(I j 0),(.bool false),(I j 0)]))⟩,W 4 7 21]
abbrev aPh:LA:=[H 22 2 7,H 23 1 22,E 24 23,A 25 (b .eql (s 24) (B 0))]
abbrev aPg:LA:=[M 26 5,H 27 1 7,E 28 27,lE 29 26 28,E 30 29,lB 31 30,lE 32 26 28,⟨N,N,t F (s 32) (s 31)⟩]
abbrev aPf:LA:=[lB 33 18,M 18 33]
abbrev aPp:aZ:=(Q (O aPj) (Q (C (s 19) Z (X 0)) (Q (K 1 (Q (O aPi) (Q (O aPh) (C (s 25) (O aPg) Z)))) (O aPf))))
abbrev aPe:LA:=[A 8 (m (c (.sl F .nil [])))]
abbrev aPd:LA:=[M 34 5,lP 35 34,lF 36 0]
abbrev aKR:LA:=[lA 37 36 35]
abbrev aKQ:LA:=[M 38 36,lE 39 34 36,E 40 39,M 9 38,M 10 40]
abbrev aKP:LA:=[M 41 10,A 42 (b .eql (s 41) (B 0))]
abbrev aKO:LA:=[M 43 8,M 44 9,⟨S 45,N,y F [s 44]⟩,⟨S 46,N,a F 8 (s 43) (s 45)⟩,M 8 46]
abbrev aKN:LA:=[lB 47 36,M 36 47]
abbrev aPo:aZ:=(Q (O aKR) (Q (C (s 37) Z (X 2)) (Q (K 3 (Q (O aKQ) (Q (O aKP) (C (s 42) (O aKO) Z)))) (O aKN))))
abbrev aKM:LA:=[M 48 11,M 49 8,lP 50 49,lA 51 48 50]
abbrev aKL:LA:=[M 54 1,lP 55 54,lF 56 0]
abbrev aKK:LA:=[lC 58 4 54 56,G 59 4 58,⟨S 13,N,x (.agg 4) (c (.agg [(I j 0),(I j 0),(.bool false),(I j 0)]))⟩,W 4 13 59]
abbrev aKJ:LD:=[(H 60 0 13,[]),(E 61 60,[0]),(M 62 8,[]),(M 63 11,[]),(lE 64 62 63,[2,3]),(E 65 64,[2,3,4]),(A 66 (b .neq (s 61) (s 65)),Z6),(M 67 66,Z7),(lO 68 67 2 13,Z8),(lO 69 67 1 68,Z9),(lN 70 67 69,Z10),(U 71 67 (b .gtr (s 70) (B 0)),Z11),(lH 72 67 71,Z12)]
abbrev aKI:LA:=[M 73 5,H 74 1 13,E 75 74,lE 76 73 75,E 77 76,A 78 (b .sub (s 77) (B 1)),lE 79 73 75,⟨N,N,t F (s 79) (s 78)⟩]
abbrev aKH:LA:=[M 80 5,H 81 1 13,E 82 81,lE 83 80 82,E 84 83,A 85 (b .eql (s 84) (B 0))]
abbrev aKG:LA:=[M 86 8,H 87 1 13,E 88 87,⟨S 89,N,y F [s 88]⟩,⟨S 90,N,a F 8 (s 86) (s 89)⟩,M 8 90]
abbrev aKF:LA:=[lB 91 56,M 56 91]
abbrev aPn:aZ:=(Q (O aLs) (Q (C (s 57) Z (X 6)) (Q (K 7 (Q (O aKK) (Q (Q (D 13 aKJ aAO) (C (s 72) (X 7) Z)) (Q (O aKI) (Q (O aKH) (C (s 85) (O aKG) Z)))))) (O aKF))))
abbrev aKE:LA:=[M 52 11,lB 53 52,M 11 53]
abbrev aPm:aZ:=(Q (Q (O aKM) (C (s 51) Z (X 4))) (Q (K 5 (Q (O aKL) (K 6 (R aPn)))) (O aKE)))
abbrev aKD:LA:=[M 92 8,lP 93 92,M 94 0,lA 95 93 94,M 4 95]
def g76:LFn:=⟨(Q (O aFZ) (Q (O aPl) (Q (Q (O aPk) (K 0 (R aPp))) (Q (O aPe) (Q (Q (O aPd) (K 2 (R aPo))) (Q (Q (O aFa) (K 4 (R aPm))) (Q (O aKD) .ret))))))),96,[.slot 4]⟩
theorem aXQ:aH Tryz.prog 102=some g76:=Zz
abbrev aPc:LA:=[⟨S 2,N,x F (s 0)⟩,⟨S 3,N,x F (s 1)⟩,lG 4]
abbrev aPb:LA:=[E 5 3,A 6 (.aCc (.func 132) [] [s 2,s 3]),P 7 96 [s 5,s 6],M 4 7]
def g77:LFn:=⟨(Q (O aPc) (Q (O aPb) .ret)),8,[.slot 4]⟩
theorem aXP:aH Tryz.prog 103=some g77:=Zz
abbrev aFA:LA:=[lG 4]
abbrev aE9:LA:=[M 5 0,A 6 (b .geq (s 5) (B 0)),M 7 6,lJ 8 7 0,lJ 9 7 1,T 10 7 (b .leq (s 8) (s 9)),lI 11 7 10,M 4 11]
def g78:LFn:=⟨(Q (O aFA) (Q (O aE9) .ret)),12,[.slot 4]⟩
theorem aXO:aH Tryz.prog 104=some g78:=Zz
abbrev aPa:LA:=[Y 2 2 0,Y 3 2 1,⟨S 4,N,x (.agg 2) (c (.agg [(.bool false),(I j 0)]))⟩,A 5 (m (c .nilIface))]
abbrev aPZ:LA:=[G 7 2 2,P 8 117 [s 7],A 9 (.not (s 8)),M 10 9,U 11 10 (l (.agg 2) (s 3)),⟨S 12,S (10,false),k 117 [s 11]⟩,U 13 10 (.not (s 12)),lH 14 10 13]
abbrev aPY:LA:=[A 15 (.build [(.bool false),(I j 0)] []),A 16 (.aBS 64 (B 2)),W 2 4 15,M 5 16]
abbrev aPX:LA:=[H 17 0 3,E 18 17]
abbrev aPW:LA:=[G 19 2 3,W 2 4 19,A 5 (m (c .nilIface))]
abbrev aPV:LA:=[H 20 0 2,E 21 20,H 22 1 2,E 23 22,H 24 1 3,E 25 24,A 26 (b .add (s 23) (s 25)),A 27 (.build [(.bool false),(I j 0)] [(0,F,(s 21)),(1,F,(s 26))]),⟨S 6,N,x (.agg 2) (c (.agg [(.bool false),(I j 0)]))⟩,W 2 6 27]
abbrev aPU:LA:=[G 28 2 6,P 29 117 [s 28],A 30 (.not (s 29))]
abbrev aPT:LA:=[A 31 (.build [(.bool false),(I j 0)] []),A 32 (.aBS 64 (B 1)),W 2 4 31,M 5 32]
abbrev aPS:LA:=[G 33 2 6,W 2 4 33,A 5 (m (c .nilIface))]
def g79:LFn:=⟨(Q (O aPa) (Q (Q (O aPZ) (C (s 14) (Q (O aPY) .ret) Z)) (Q (Q (O aPX) (C (s 18) (Q (O aPW) .ret) Z)) (Q (O aPV) (Q (Q (O aPU) (C (s 30) (Q (O aPT) .ret) Z)) (Q (O aPS) .ret)))))),34,[.cell 4 (.agg 2),.slot 5]⟩
theorem aXN:aH Tryz.prog 108=some g79:=Zz
abbrev aPR:LA:=[Y 3 2 1,A 4 (m (c (.sl (.agg 2) .nil []))),lG 5]
abbrev aPQ:LA:=[M 6 0,A 7 (.aCc (.func 134) [] [s 3]),P 8 85 [s 6,s 7]]
abbrev aPP:LA:=[M 9 0,M 4 9,lG 5]
abbrev aPO:LA:=[M 10 0,A 11 (.aCc (.func 137) [] [s 3]),P 12 136 [s 10,s 11],M 0 12]
abbrev aPN:LA:=[M 13 0,G 14 2 3,⟨S 15,N,y (.agg 2) [s 14]⟩,lS 16 2 16 13 15,M 0 16]
abbrev aPM:LA:=[M 17 0,P 18 138 [s 17,(c (.fn (.func 139) [] []))]]
abbrev aPL:LA:=[M 19 0,M 4 19,A 5 (m Bb)]
def g80:LFn:=⟨(Q (O aPR) (Q (Q (O aPQ) (C (s 8) (Q (O aPP) .ret) Z)) (Q (O aPO) (Q (O aPN) (Q (O aPM) (Q (O aPL) .ret)))))),20,[.slot 4,.slot 5]⟩
theorem aVs:aH Tryz.prog 109=some g80:=Zz
abbrev aPJ:LA:=[M 6 0,P 7 141 [s 6],P 8 140 [s 7,(c (.fn (.func 126) [] []))],lP 9 8,lF 10 0]
abbrev aPI:LA:=[lC 12 2 8 10,G 13 2 12,⟨S 5,N,x (.agg 2) (c (.agg [(I j 0),(I j 0)]))⟩,W 2 5 13]
abbrev aPH:LA:=[G 14 2 5,P 15 66 [s 14],M 16 15,lJ 17 16 3,T 18 16 (l (.agg 2) (s 5)),⟨S 19,S (16,true),k 78 [s 17,s 18]⟩,T 20 16 (.not (s 19)),lI 21 16 20]
abbrev aPG:LA:=[M 22 3,G 23 2 5,⟨S 24,N,y (.agg 2) [s 23]⟩,lS 25 2 16 22 24,M 3 25]
abbrev aPF:LA:=[lB 26 10,M 10 26]
abbrev aPK:aZ:=(Q (O aIb) (Q (C (s 11) Z (X 0)) (Q (K 1 (Q (O aPI) (Q (O aPH) (C (s 21) (O aPG) Z)))) (O aPF))))
abbrev aPE:LA:=[M 27 3,M 2 27]
def g81:LFn:=⟨(Q (O aIX) (Q (O aKf) (Q (Q (O aPJ) (K 0 (R aPK))) (Q (O aPE) .ret)))),28,[.slot 2]⟩
theorem aXC:aH Tryz.prog 110=some g81:=Zz
abbrev aE8:LA:=[lF 4 0]
abbrev aE7:LA:=[M 6 0,lP 7 6,lF 8 0]
abbrev aE6:LA:=[lA 9 8 7]
abbrev aE5:LA:=[M 10 8,M 5 10]
abbrev aE4:LA:=[M 11 1,M 12 0,M 13 5,lC 14 2 12 13,G 15 2 14,⟨S 16,N,.aAe (s 11) [s 15]⟩]
abbrev aE3:LA:=[M 17 5,M 4 17]
abbrev aE2:LA:=[lB 18 8,M 8 18]
abbrev aPD:aZ:=(Q (O aE6) (Q (C (s 9) Z (X 0)) (Q (K 1 (Q (O aE5) (Q (O aE4) (C (s 16) (Q (O aE3) .ret) Z)))) (O aE2))))
abbrev aE1:LA:=[A 4 (m (B (-1)))]
def g82:LFn:=⟨(Q (O aE8) (Q (Q (O aE7) (K 0 (R aPD))) (Q (O aE1) .ret))),19,[.slot 4]⟩
theorem aXB:aH Tryz.prog 111=some g82:=Zz
abbrev aE0:LA:=[Y 2 2 0,lG 3]
abbrev aCp:LA:=[G 4 2 2,G 5 2 1,P 6 84 [s 4,s 5],M 3 6]
def g83:LFn:=⟨(Q (O aE0) (Q (O aCp) .ret)),7,[.slot 3]⟩
theorem aXA:aH Tryz.prog 112=some g83:=Zz
abbrev aPC:LA:=[H 3 1 1,E 4 3,A 5 (b .geq (s 4) (B 0)),M 6 5,lL 7 6 1 1,lK 8 6 7,T 9 6 (b .leq (s 8) (B 1048576)),lI 10 6 9,M 2 10]
def g84:LFn:=⟨(Q (O aJ2) (Q (O aPC) .ret)),11,[.slot 2]⟩
theorem aW9:aH Tryz.prog 113=some g84:=Zz
abbrev aPA:LA:=[Y 3 4 1,A 4 (m (c (.sl (.agg 4) .nil [])))]
abbrev aO9:LD:=[(M 6 5,[]),(M 7 0,[]),(lP 8 7,[1]),(lA 9 6 8,Z3),(M 10 9,Z4),(lJ 11 10 0,Z5),(lJ 12 10 5,Z5),(T 13 10 (i (.agg 4) (s 11) (s 12)),Z7),(T 14 10 (l (.agg 4) (s 13)),Z8),(T 15 10 (l (.agg 4) (s 3)),Z5),(⟨S 16,S (10,true),k 142 [s 14,s 15]⟩,Z10),(lI 17 10 16,Z11)]
abbrev aO8:LA:=[M 18 5,lB 19 18,M 5 19]
abbrev aPB:aZ:=(Q (Q (D 12 aO9 aAO) (C (s 17) Z (X 0))) (K 1 (O aO8)))
abbrev aO7:LD:=[(M 20 5,[]),(M 21 0,[]),(lP 22 21,[1]),(lA 23 20 22,Z3),(M 24 23,Z4),(lJ 25 24 0,Z5),(lJ 26 24 5,Z5),(T 27 24 (i (.agg 4) (s 25) (s 26)),Z7),(T 28 24 (l (.agg 4) (s 27)),Z8),(T 29 24 (l (.agg 4) (s 3)),Z5),(T 30 24 (e false (.plain (.agg 4) [.int,.int,.bool,.int]) (s 28) (s 29)),Z10),(lI 31 24 30,Z11)]
abbrev aO6:LA:=[M 32 0,M 4 32]
abbrev aO5:LD:=[(⟨S 33,N,y (.agg 4) []⟩,[]),(M 34 0,[]),(M 35 5,[]),(A 36 (.slc (.agg 4) (s 34) .none (.some (s 35)) .none),[1,2]),(lS 37 4 32 33 36,Z4),(G 38 4 3,[]),(⟨S 39,N,y (.agg 4) [s 38]⟩,[5]),(lS 40 4 32 37 39,Z7),(M 41 0,[]),(M 42 5,[]),(A 43 (.slc (.agg 4) (s 41) (.some (s 42)) .none .none),[8,9]),(lS 44 4 32 40 43,Z11),(M 4 44,Z12)]
def g85:LFn:=⟨(Q (O aPA) (Q (O aGY) (Q (K 0 (R aPB)) (Q (Q (D 12 aO7 aAO) (C (s 31) (Q (O aO6) .ret) Z)) (Q (D 13 aO5 aAO) .ret))))),45,[.slot 4]⟩
theorem aW8:aH Tryz.prog 114=some g85:=Zz
abbrev aOz:LA:=[H 11 0 2,E 12 11,⟨S 13,N,.mkz F 24 (s 12) (.sl F .nil [])⟩,M 5 13]
abbrev aOy:LA:=[M 14 6,H 15 0 2,E 16 15,lA 17 14 16]
abbrev aOx:LA:=[M 20 5,M 21 6,H 22 0 2,E 23 22,⟨S 24,N,.mkz F 1 (s 23) (.bool false)⟩,lE 25 20 21,⟨N,N,t F (s 25) (s 24)⟩]
abbrev aOw:LA:=[M 18 6,lB 19 18,M 6 19]
abbrev aO4:aZ:=(Q (Q (O aOy) (C (s 17) Z (X 0))) (Q (K 1 (O aOx)) (O aOw)))
abbrev aOv:LA:=[M 26 7,H 27 1 2,E 28 27,lP 29 28,lA 30 26 29]
abbrev aOu:LA:=[M 33 1,A 34 (.not (s 33)),M 35 34,lO 36 35 1 2,lN 37 35 36,lM 38 35 7,U 39 35 (i (.agg 4) (s 37) (s 38)),lO 40 35 2 39,lO 41 35 1 40,lN 42 35 41,U 43 35 (b .eql (s 42) (B 0)),lH 44 35 43]
abbrev aOt:LD:=[(M 45 5,[]),(H 46 1 2,[]),(E 47 46,[1]),(M 48 7,[]),(lC 49 4 47 48,[1,2,3]),(H 50 0 49,[1,2,3,4]),(E 51 50,[1,2,3,4,5]),(lE 52 45 51,Z7),(E 53 52,Z8),(H 54 1 2,[]),(E 55 54,[9]),(M 56 7,[]),(lC 57 4 55 56,[9,10,11]),(H 58 1 57,[9,10,11,12]),(E 59 58,[9,10,11,12,13]),(lE 60 53 59,Z15)]
abbrev aJ3:LA:=[⟨N,N,t F (s 60) Bb⟩]
abbrev aKC:LA:=[M 31 7,lB 32 31,M 7 32]
abbrev aO3:aZ:=(Q (Q (O aOv) (C (s 30) Z (X 2))) (Q (K 3 (Q (O aOu) (C (s 44) (D 16 aOt aJ3) Z))) (O aKC)))
abbrev aKB:LA:=[M 61 8,H 62 0 2,E 63 62,lA 64 61 63]
abbrev aKA:LA:=[M 67 9,H 68 0 2,E 69 68,lA 70 67 69]
abbrev aJ9:LA:=[M 73 10,H 74 0 2,E 75 74,lA 76 73 75,M 77 76,lJ 78 77 5,lJ 79 77 9,T 80 77 (i F (s 78) (s 79)),lK 81 77 80,lJ 82 77 8,T 83 77 (i F (s 81) (s 82)),lK 84 77 83,lI 85 77 84]
abbrev aJ8:LD:=[(M 88 5,[]),(M 89 9,[]),(lE 90 88 89,[0,1]),(E 91 90,Z3),(M 92 10,[]),(M 93 5,[]),(M 94 9,[]),(lE 95 93 94,[5,6]),(E 96 95,[5,6,7]),(M 97 10,[]),(lE 98 96 97,[5,6,7,8,9]),(E 99 98,[5,6,7,8,9,10]),(M 100 99,[5,6,7,8,9,10,11]),(lM 101 100 5,[5,6,7,8,9,10,11,12]),(lM 102 100 8,[5,6,7,8,9,10,11,12]),(U 103 100 (i F (s 101) (s 102)),[5,6,7,8,9,10,11,12,13,14]),(lN 104 100 103,[5,6,7,8,9,10,11,12,13,14,15]),(lM 105 100 10,[5,6,7,8,9,10,11,12]),(U 106 100 (i F (s 104) (s 105)),[5,6,7,8,9,10,11,12,13,14,15,16,17]),(lN 107 100 106,[5,6,7,8,9,10,11,12,13,14,15,16,17,18]),(lH 108 100 107,[5,6,7,8,9,10,11,12,13,14,15,16,17,18,19]),(lE 109 91 92,Z21)]
abbrev aIW:LA:=[⟨N,N,t F (s 109) (s 108)⟩]
abbrev aJ7:LA:=[M 86 10,lB 87 86,M 10 87]
abbrev aO2:aZ:=(Q (Q (O aJ9) (C (s 85) Z (X 8))) (Q (K 9 (D 22 aJ8 aIW)) (O aJ7)))
abbrev aJ6:LA:=[M 71 9,lB 72 71,M 9 72]
abbrev aO1:aZ:=(Q (Q (O aKA) (C (s 70) Z (X 6))) (Q (K 7 (Q (O aIn) (K 8 (R aO2)))) (O aJ6)))
abbrev aJ5:LA:=[M 65 8,lB 66 65,M 8 66]
abbrev aO0:aZ:=(Q (Q (O aKB) (C (s 64) Z (X 4))) (Q (K 5 (Q (O aGX) (K 6 (R aO1)))) (O aJ5)))
abbrev aJ4:LA:=[M 110 5,M 4 110]
def g86:LFn:=⟨(Q (O aIY) (Q (O aOz) (Q (Q (O aD7) (K 0 (R aO4))) (Q (Q (O aD5) (K 2 (R aO3))) (Q (Q (O aD6) (K 4 (R aO0))) (Q (O aJ4) .ret)))))),111,[.slot 4]⟩
theorem aW7:aH Tryz.prog 115=some g86:=Zz
abbrev aNh:LA:=[Y 2 3 0,Y 3 3 1,lG 4]
abbrev aHh:LA:=[H 5 0 2,E 6 5,H 7 0 3,E 8 7,A 9 (b .neq (s 6) (s 8))]
abbrev aHg:LA:=[H 10 0 2,E 11 10,H 12 0 3,E 13 12,lA 14 11 13,M 4 14]
abbrev aNg:LA:=[H 15 1 2,G 16 2 15,H 17 1 3,G 18 2 17,P 19 120 [s 16,s 18],M 4 19]
def g87:LFn:=⟨(Q (O aNh) (Q (Q (O aHh) (C (s 9) (Q (O aHg) .ret) Z)) (Q (O aNg) .ret))),20,[.slot 4]⟩
theorem aW6:aH Tryz.prog 116=some g87:=Zz
abbrev aNf:LA:=[H 3 1 1,E 4 3,P 5 104 [s 4,(B 1048576)],M 2 5]
def g88:LFn:=⟨(Q (O aJ2) (Q (O aNf) .ret)),6,[.slot 2]⟩
theorem aW5:aH Tryz.prog 117=some g88:=Zz
abbrev aNZ:LA:=[H 15 0 2,E 16 15,⟨S 17,N,.mkz F 24 (s 16) (.sl (.agg 2) .nil [])⟩,M 5 17]
abbrev aNY:LA:=[M 18 5,M 19 1,A 20 (.build [(.bool false),(I j 0)] []),⟨S 21,N,y (.agg 2) [s 20]⟩,lE 22 18 19,⟨N,N,t F (s 22) (s 21)⟩]
abbrev aNX:LA:=[M 23 6,H 24 0 2,E 25 24,A 26 (b .mul (B 2) (s 25)),A 27 (b .leq (s 23) (s 26))]
abbrev aNW:LA:=[H 30 0 2,E 31 30,⟨S 32,N,.mkz F 24 (s 31) (.sl (.agg 2) .nil [])⟩,M 7 32]
abbrev aNV:LA:=[M 33 8,H 34 0 2,E 35 34,lA 36 33 35]
abbrev aNU:LD:=[(M 39 7,[]),(M 40 8,[]),(M 41 7,[]),(M 42 8,[]),(lE 43 41 42,[2,3]),(E 44 43,[2,3,4]),(M 45 5,[]),(M 46 8,[]),(lE 47 45 46,[6,7]),(E 48 47,[6,7,8]),(lS 49 2 16 44 48,[2,3,4,5,6,7,8,9]),(lE 50 39 40,Z11)]
abbrev aIs:LA:=[⟨N,N,t F (s 50) (s 49)⟩]
abbrev aNT:LA:=[M 37 8,lB 38 37,M 8 38]
abbrev aNe:aZ:=(Q (Q (O aNV) (C (s 36) Z (X 2))) (Q (K 3 (D 12 aNU aIs)) (O aNT)))
abbrev aI5:LA:=[M 51 9,H 52 1 2,E 53 52,lP 54 53,lA 55 51 54]
abbrev aI4:LA:=[H 58 1 2,E 59 58,M 60 9,lC 61 4 59 60,G 62 4 61,⟨S 10,N,x (.agg 4) (c (.agg [(I j 0),(I j 0),(.bool false),(I j 0)]))⟩,W 4 10 62]
abbrev aI3:LA:=[M 63 11,M 64 5,H 65 0 10,E 66 65,lE 67 64 66,E 68 67,lP 69 68,lA 70 63 69]
abbrev aI2:LD:=[(M 74 5,[]),(H 75 0 10,[]),(E 76 75,[1]),(lE 77 74 76,Z3),(E 78 77,Z4),(M 79 11,[]),(lC 80 2 78 79,Z6),(G 81 2 80,Z7),(H 82 2 10,[]),(G 83 2 82,[8]),(⟨S 84,N,.aAc 143 [s 81,s 83] []⟩,Z10),(M 73 84,Z11),(lQ 85 73 0,Z12),(lQ 86 73 1,Z12),(⟨S 12,N,x (.agg 2) (c (.agg [(.bool false),(I j 0)]))⟩,[]),(W 2 12 85,[0,1,2,3,4,5,6,7,8,9,10,11,12,14]),(M 13 86,Z16)]
abbrev aI1:LA:=[M 87 13,A 88 (b .eql (s 87) (B 0))]
abbrev aI0:LD:=[(M 89 7,[]),(H 90 1 10,[]),(E 91 90,[1]),(M 92 7,[]),(H 93 1 10,[]),(E 94 93,[4]),(lE 95 92 94,[3,4,5]),(E 96 95,[3,4,5,6]),(G 97 2 12,[]),(⟨S 98,N,y (.agg 2) [s 97]⟩,[8]),(lS 99 2 16 96 98,[3,4,5,6,7,8,9]),(lE 100 89 91,Z11)]
abbrev aGb:LA:=[⟨N,N,t F (s 100) (s 99)⟩]
abbrev aIz:LA:=[M 71 11,lB 72 71,M 11 72]
abbrev aNd:aZ:=(Q (Q (O aI3) (C (s 70) Z (X 6))) (Q (K 7 (Q (D 17 aI2 aAO) (Q (O aI1) (C (s 88) (D 12 aI0 aGb) Z)))) (O aIz)))
abbrev aIy:LA:=[M 56 9,lB 57 56,M 9 57]
abbrev aNc:aZ:=(Q (Q (O aI5) (C (s 55) Z (X 4))) (Q (K 5 (Q (O aI4) (Q (O aFa) (K 6 (R aNd))))) (O aIy)))
abbrev aIx:LA:=[M 101 14,H 102 0 2,E 103 102,lA 104 101 103]
abbrev aIw:LA:=[M 107 5,M 108 14,M 109 7,M 110 14,lE 111 109 110,E 112 111,P 113 144 [s 112],lE 114 107 108,⟨N,N,t F (s 114) (s 113)⟩]
abbrev aIv:LA:=[M 105 14,lB 106 105,M 14 106]
abbrev aNb:aZ:=(Q (Q (O aIx) (C (s 104) Z (X 8))) (Q (K 9 (O aIw)) (O aIv)))
abbrev aIu:LA:=[M 28 6,lB 29 28,M 6 29]
abbrev aNa:aZ:=(Q (Q (O aNX) (C (s 27) Z (X 0))) (Q (K 1 (Q (O aNW) (Q (Q (O aD6) (K 2 (R aNe))) (Q (Q (O aGX) (K 4 (R aNc))) (Q (O aId) (K 8 (R aNb))))))) (O aIu)))
abbrev aIt:LA:=[M 115 5,M 4 115]
def g89:LFn:=⟨(Q (O aIY) (Q (O aNZ) (Q (O aNY) (Q (Q (O aD7) (K 0 (R aNa))) (Q (O aIt) .ret))))),116,[.slot 4]⟩
theorem aW4:aH Tryz.prog 119=some g89:=Zz
abbrev aBk:LA:=[Y 2 2 0,Y 3 2 1,lG 4]
abbrev aBj:LA:=[H 5 0 2,E 6 5,H 7 0 3,E 8 7,lA 9 6 8,M 10 9,lO 11 10 0 2,lN 12 10 11,lO 13 10 0 3,lN 14 10 13,U 15 10 (b .eql (s 12) (s 14)),lM 16 10 15,lL 17 16 1 2,lK 18 16 17,lL 19 16 1 3,lK 20 16 19,T 21 16 (b .lss (s 18) (s 20)),U 22 10 (p (s 16) (s 21) Ba),lH 23 10 22,M 4 23]
def g90:LFn:=⟨(Q (O aBk) (Q (O aBj) .ret)),24,[.slot 4]⟩
theorem aW3:aH Tryz.prog 120=some g90:=Zz
abbrev aHf:LA:=[Y 2 2 0,Y 3 2 1,lF 4 0]
abbrev aNS:LD:=[(H 5 0 2,[]),(E 6 5,[0]),(H 7 0 3,[]),(E 8 7,[2]),(P 9 125 [s 6,s 8],Z4),(H 10 1 2,[]),(E 11 10,[5]),(H 12 1 3,[]),(E 13 12,[7]),(P 14 125 [s 11,s 13],Z9),(⟨S 15,N,y F [s 9,s 14]⟩,Z10),(P 16 124 [s 15],Z11),(M 4 16,Z12)]
def g91:LFn:=⟨(Q (O aHf) (Q (D 13 aNS aAO) .ret)),17,[.slot 4]⟩
theorem aW2:aH Tryz.prog 126=some g91:=Zz
abbrev aNQ:LA:=[M 3 0]
abbrev aNP:LA:=[lF 2 1]
def g92:LFn:=⟨(Q (O aDM) (Q (Q (O aNQ) (C (s 3) (Q (O aNP) .ret) Z)) (Q (O aDM) .ret))),4,[.slot 2]⟩
theorem aW1:aH Tryz.prog 131=some g92:=Zz
abbrev aNO:LA:=[Y 3 4 0,lG 4]
abbrev aNN:LA:=[H 5 2 3,H 6 0 5,E 7 6,M 8 7,lK 9 8 1,lK 10 8 2,lL 11 8 1 3,lK 12 8 11,lL 13 8 0 3,lK 14 8 13,⟨S 15,S (8,true),k 133 [s 9,s 10,s 12,s 14]⟩,lI 16 8 15,M 4 16]
def g93:LFn:=⟨(Q (O aNO) (Q (O aNN) .ret)),17,[.slot 4]⟩
theorem aW0:aH Tryz.prog 132=some g93:=Zz
abbrev aHe:LA:=[lG 8]
abbrev aNK:LA:=[M 13 0,⟨S 14,N,.mkz F 1 (s 13) (.bool false)⟩,M 9 14]
abbrev aNJ:LA:=[M 15 2,⟨S 16,N,y F [s 15]⟩,M 10 16]
abbrev aNI:LA:=[M 17 10,lP 18 17,A 19 (b .gtr (s 18) (B 0))]
abbrev aNH:LA:=[M 22 10,A 23 (i F (s 22) (B 0)),E 24 23,M 25 3,A 26 (b .eql (s 24) (s 25))]
abbrev aNG:LA:=[A 8 (m Bb)]
abbrev aNF:LA:=[M 27 1,lP 28 27,lF 29 0]
abbrev aNE:LA:=[lA 30 29 28]
abbrev aND:LA:=[lC 31 4 27 29,G 32 4 31,⟨S 12,N,x (.agg 4) (c (.agg [(I j 0),(I j 0),(.bool false),(I j 0)]))⟩,W 4 12 32]
abbrev aNC:LD:=[(H 33 0 12,[]),(E 34 33,[0]),(M 35 10,[]),(A 36 (i F (s 35) (B 0)),[2]),(E 37 36,[2,3]),(A 38 (b .eql (s 34) (s 37)),Z5),(M 39 38,Z6),(lJ 40 39 9,Z7),(lL 41 39 1 12,Z7),(lK 42 39 41,[0,1,2,3,4,5,6,8]),(T 43 39 (i F (s 40) (s 42)),Z10),(lK 44 39 43,Z11),(T 45 39 (.not (s 44)),Z12),(lI 46 39 45,Z13)]
abbrev aIr:LA:=[M 47 9,H 48 1 12,E 49 48,lE 50 47 49,⟨N,N,t F (s 50) Bb⟩]
abbrev aIq:LA:=[M 51 10,H 52 1 12,E 53 52,⟨S 54,N,y F [s 53]⟩,⟨S 55,N,a F 8 (s 51) (s 54)⟩,M 10 55]
abbrev aIp:LA:=[lB 56 29,M 29 56]
abbrev aNM:aZ:=(Q (O aNE) (Q (C (s 30) Z (X 2)) (Q (K 3 (Q (O aND) (Q (D 14 aNC aAO) (C (s 46) (Q (O aIr) (O aIq)) Z)))) (O aIp))))
abbrev aIo:LA:=[M 20 10,A 21 (.slc F (s 20) (.some (B 1)) .none .none),M 10 21]
abbrev aNL:aZ:=(Q (Q (O aNI) (C (s 19) Z (X 0))) (Q (K 1 (Q (Q (O aNH) (C (s 26) (Q (O aNG) .ret) Z)) (Q (O aNF) (K 2 (R aNM))))) (O aIo)))
def g94:LFn:=⟨(Q (O aHe) (Q (O aNK) (Q (Q (O aNJ) (K 0 (R aNL))) (Q (O aHe) .ret)))),57,[.slot 8]⟩
theorem aWz:aH Tryz.prog 133=some g94:=Zz
abbrev aHd:LA:=[Y 2 2 0,lG 3]
abbrev aNB:LA:=[G 4 2 2,G 5 2 1,P 6 135 [s 4,s 5],M 3 6]
def g95:LFn:=⟨(Q (O aHd) (Q (O aNB) .ret)),7,[.slot 3]⟩
theorem aWy:aH Tryz.prog 134=some g95:=Zz
abbrev aHc:LA:=[Y 2 2 0,Y 3 2 1,lG 4]
abbrev aNA:LA:=[H 5 0 2,E 6 5,M 7 6,lO 8 7 0 3,lN 9 7 8,U 10 7 (.not (s 9)),lH 11 7 10,M 12 11,lL 13 12 1 2,lK 14 12 13,lL 15 12 1 3,lK 16 12 15,T 17 12 (b .leq (s 14) (s 16)),lI 18 12 17,M 4 18]
def g96:LFn:=⟨(Q (O aHc) (Q (O aNA) .ret)),19,[.slot 4]⟩
theorem aWx:aH Tryz.prog 135=some g96:=Zz
abbrev aM0:LA:=[G 4 2 1,G 5 2 2,P 6 135 [s 4,s 5],M 3 6]
def g97:LFn:=⟨(Q (O aHd) (Q (O aM0) .ret)),7,[.slot 3]⟩
theorem aWw:aH Tryz.prog 137=some g97:=Zz
abbrev aMz:LD:=[(H 5 0 2,[]),(E 6 5,[0]),(P 7 131 [s 6],[0,1]),(H 8 0 3,[]),(E 9 8,[3]),(P 10 131 [s 9],Z5),(A 11 (b .sub (s 7) (s 10)),Z6),(M 4 11,Z7)]
def g98:LFn:=⟨(Q (O aHf) (Q (D 8 aMz aAO) .ret)),12,[.slot 4]⟩
theorem aWv:aH Tryz.prog 139=some g98:=Zz
abbrev aMy:LA:=[Y 2 4 0,Y 3 4 1,lG 4]
abbrev aMx:LA:=[H 15 1 2,E 16 15,H 17 1 3,E 18 17,A 19 (b .neq (s 16) (s 18))]
abbrev aMw:LA:=[H 20 1 2,E 21 20,H 22 1 3,E 23 22,lA 24 21 23,M 4 24]
abbrev aMv:LA:=[H 25 2 2,H 26 0 25,E 27 26,H 28 2 3,H 29 0 28,E 30 29,A 31 (e true (.plain F [.bool]) (s 27) (s 30))]
abbrev aMu:LA:=[H 32 2 3,H 33 0 32,E 34 33,M 4 34]
abbrev aMt:LA:=[H 35 2 2,H 36 1 35,E 37 36,H 38 2 3,H 39 1 38,E 40 39,lA 41 37 40,M 4 41]
def g99:LFn:=⟨(Q (O aMy) (Q (Q (O aHh) (C (s 9) (Q (O aHg) .ret) Z)) (Q (Q (O aMx) (C (s 19) (Q (O aMw) .ret) Z)) (Q (Q (O aMv) (C (s 31) (Q (O aMu) .ret) Z)) (Q (O aMt) .ret))))),42,[.slot 4]⟩
theorem aWu:aH Tryz.prog 142=some g99:=Zz
abbrev aMs:LA:=[Y 2 2 0,Y 3 2 1,⟨S 4,N,x (.agg 2) (c (.agg [(.bool false),(I j 0)]))⟩,lF 5 0]
abbrev aMr:LA:=[G 6 2 2,P 7 113 [s 6],A 8 (.not (s 7)),M 9 8,U 10 9 (l (.agg 2) (s 3)),⟨S 11,S (9,false),k 113 [s 10]⟩,U 12 9 (.not (s 11)),lH 13 9 12]
abbrev aMq:LA:=[A 14 (.build [(.bool false),(I j 0)] []),W 2 4 14,lF 5 2]
abbrev aMp:LA:=[H 15 0 3,E 16 15]
abbrev aMo:LA:=[G 17 2 3,W 2 4 17,lF 5 0]
abbrev aMn:LA:=[H 18 1 2,E 19 18,H 20 1 3,E 21 20,A 22 (b .add (s 19) (s 21)),A 23 (b .gtr (s 22) (B 1048576))]
abbrev aMm:LA:=[A 24 (.build [(.bool false),(I j 0)] []),W 2 4 24,lF 5 1]
abbrev aMl:LA:=[H 25 0 2,E 26 25,H 27 1 2,E 28 27,H 29 1 3,E 30 29,A 31 (b .add (s 28) (s 30)),A 32 (.build [(.bool false),(I j 0)] [(0,F,(s 26)),(1,F,(s 31))]),W 2 4 32,lF 5 0]
def aY9:LFn:=⟨(Q (O aMs) (Q (Q (O aMr) (C (s 13) (Q (O aMq) .ret) Z)) (Q (Q (O aMp) (C (s 16) (Q (O aMo) .ret) Z)) (Q (Q (O aMn) (C (s 23) (Q (O aMm) .ret) Z)) (Q (O aMl) .ret))))),33,[.cell 4 (.agg 2),.slot 5]⟩
theorem aVH:aH Tryz.prog 143=some aY9:=Zz
abbrev aMi:LA:=[A 3 (m (c (.sl (.agg 2) .nil []))),A 4 (m (c (.sl (.agg 2) .nil [])))]
abbrev aMh:LA:=[M 8 5,M 9 0,lP 10 9,lA 11 8 10]
abbrev aMg:LA:=[M 14 7,M 15 0,lP 16 15,lA 17 14 16]
abbrev aMf:LD:=[(M 20 0,[]),(M 21 7,[]),(lC 22 2 20 21,[0,1]),(G 23 2 22,Z3),(M 24 0,[]),(M 25 5,[]),(lC 26 2 24 25,[4,5]),(G 27 2 26,[4,5,6]),(P 28 155 [s 23,s 27],Z8),(M 29 28,Z9),(lJ 30 29 0,Z10),(lJ 31 29 7,Z10),(T 32 29 (i (.agg 2) (s 30) (s 31)),Z12),(T 33 29 (l (.agg 2) (s 32)),Z13),(lJ 34 29 0,Z10),(lJ 35 29 5,Z10),(T 36 29 (i (.agg 2) (s 34) (s 35)),[0,1,2,3,4,5,6,7,8,9,14,15]),(T 37 29 (l (.agg 2) (s 36)),[0,1,2,3,4,5,6,7,8,9,14,15,16]),(T 38 29 (e true (.plain (.agg 2) [.bool,.int]) (s 33) (s 37)),Z18),(lJ 39 29 38,Z19),(lM 40 39 7,Z20),(lM 41 39 5,Z20),(U 42 39 (b .lss (s 40) (s 41)),Z22),(T 43 29 (p (s 39) Bb (s 42)),Z23),(lI 44 29 43,Z24)]
abbrev aMe:LA:=[M 18 7,lB 19 18,M 7 19]
abbrev aMk:aZ:=(Q (Q (O aMg) (C (s 17) Z (X 2))) (Q (K 3 (Q (D 25 aMf aAO) (C (s 44) (O aIc) Z))) (O aMe)))
abbrev aIm:LA:=[M 45 6,M 46 45,lJ 47 46 0,lJ 48 46 5,T 49 46 (i (.agg 2) (s 47) (s 48)),lL 50 46 0 49,lK 51 46 50,lI 52 46 51]
abbrev aIl:LA:=[M 53 4,M 54 0,M 55 5,lC 56 2 54 55,G 57 2 56,⟨S 58,N,y (.agg 2) [s 57]⟩,lS 59 2 16 53 58,M 4 59]
abbrev aIk:LA:=[M 60 6,M 61 60,lJ 62 61 0,lJ 63 61 5,T 64 61 (i (.agg 2) (s 62) (s 63)),lL 65 61 0 64,lK 66 61 65,T 67 61 (.not (s 66)),lI 68 61 67]
abbrev aIj:LA:=[M 69 3,M 70 0,M 71 5,lC 72 2 70 71,G 73 2 72,⟨S 74,N,y (.agg 2) [s 73]⟩,lS 75 2 16 69 74,M 3 75]
abbrev aIi:LA:=[M 12 5,lB 13 12,M 5 13]
abbrev aMj:aZ:=(Q (Q (O aMh) (C (s 11) Z (X 0))) (Q (K 1 (Q (O aN6) (Q (Q (O aD5) (K 2 (R aMk))) (Q (Q (O aIm) (C (s 52) (O aIl) Z)) (Q (O aIk) (C (s 68) (O aIj) Z)))))) (O aIi)))
abbrev aIh:LA:=[M 76 3,M 77 4,lS 78 2 16 76 77,M 2 78]
def aY8:LFn:=⟨(Q (O aIX) (Q (O aMi) (Q (Q (O aGY) (K 0 (R aMj))) (Q (O aIh) .ret)))),79,[.slot 2]⟩
theorem aVG:aH Tryz.prog 144=some aY8:=Zz
abbrev aMZ:LA:=[H 5 0 2,E 6 5,A 7 (.not (s 6)),M 8 7,lL 9 8 0 3,lK 10 8 9,lI 11 8 10]
abbrev aMY:LA:=[H 12 1 2,E 13 12,H 14 1 3,E 15 14,A 16 (b .leq (s 13) (s 15)),M 4 16]
def aY7:LFn:=⟨(Q (O aHc) (Q (Q (O aMZ) (C (s 11) (Q (O aFZ) .ret) Z)) (Q (O aMY) .ret))),17,[.slot 4]⟩
theorem aVF:aH Tryz.prog 155=some aY7:=Zz
end L
end Go.Proofs.YtecepaehmojpgaaGreat
