/-
The functions of the code,lowered:printed by a program,checked by the kernel. No conditions.
-/
import Derived.Test.YtgbiopfghdilnaaGreatDoorKcb
import Derived.Test.YtgbiopfghdilnaaGreatDoorProg
namespace Go.Proofs.YtgbiopfghdilnaaGreatDoor
open Go.RowKit
open aJ renaming slot→s,const→c
open aT renaming move→m,load→l,fldA→f,bin→b,eq→e,idxA→i,pick→p,ext→q,nilCheck→n,len→w
open LOp renaming val→v,call→k,box→x,bslice→y,append→a,store→t
open aP renaming seq→Q,ops→O,cond→C,block→K,loop→R,skip→Z,exit→X,draw→D
open Sh renaming leaf→F
open V renaming int→I
open Go.IntKind renaming i64→j
open Option renaming some→S,none→N
namespace L
abbrev A(n:Nat)(x:aT):aA:=⟨S n,N,v x⟩
abbrev M(n i:Nat):=A n (m (s i))
abbrev E(n i:Nat):=A n (l F (s i))
abbrev G(n k i:Nat):=A n (l (.agg k) (s i))
abbrev H(n k i:Nat):=A n (f k (s i))
abbrev W(k i o:Nat):aA:=⟨N,N,t (.agg k) (s i) (s o)⟩
abbrev Y(n k i:Nat):aA:=⟨S n,N,x (.agg k) (s i)⟩
abbrev P(n i:Nat)(x:List aJ):aA:=⟨S n,N,k i x⟩
abbrev T(n i:Nat)(x:aT):aA:=⟨S n,S (i,true),v x⟩
abbrev U(n i:Nat)(x:aT):aA:=⟨S n,S (i,false),v x⟩
abbrev B(n:Int):=c (I j n)
abbrev Ba:=c (.bool false)
abbrev Bb:=c (.bool true)
abbrev Z3:List Nat:=[0,1,2]
abbrev Z4:List Nat:=[0,1,2,3]
abbrev Z5:List Nat:=[0,1,2,3,4]
abbrev Z6:List Nat:=[0,1,2,3,4,5]
abbrev Z7:List Nat:=[0,1,2,3,4,5,6]
abbrev Z8:List Nat:=[0,1,2,3,4,5,6,7]
abbrev Z9:List Nat:=[0,1,2,3,4,5,6,7,8]
abbrev Z10:List Nat:=[0,1,2,3,4,5,6,7,8,9]
abbrev Z11:List Nat:=[0,1,2,3,4,5,6,7,8,9,10]
abbrev Z12:List Nat:=[0,1,2,3,4,5,6,7,8,9,10,11]
abbrev Z13:List Nat:=[0,1,2,3,4,5,6,7,8,9,10,11,12]
abbrev Z14:List Nat:=[0,1,2,3,4,5,6,7,8,9,10,11,12,13]
abbrev Z15:List Nat:=[0,1,2,3,4,5,6,7,8,9,10,11,12,13,14]
abbrev LA:=List aA
abbrev LD:=List (aA×List Nat)
abbrev lA(n i o:Nat):=A n (b .lss (s i) (s o))
abbrev lB(n i:Nat):=A n (b .add (s i) (B 1))
abbrev lC(n k o z:Nat):=A n (i (.agg k) (s o) (s z))
abbrev lE(n o z:Nat):=A n (i F (s o) (s z))
abbrev lF(n:Nat)(z:Int):=A n (m (B z))
abbrev lG(n:Nat):=A n (m Ba)
abbrev lH(n i o:Nat):=A n (p (s i) Bb (s o))
abbrev lI(n i o:Nat):=A n (p (s i) (s o) Ba)
abbrev lJ(n i o:Nat):=T n i (m (s o))
abbrev lK(n i o:Nat):=T n i (l F (s o))
abbrev lL(n i k o:Nat):=T n i (f k (s o))
abbrev lM(n i o:Nat):=U n i (m (s o))
abbrev lN(n i o:Nat):=U n i (l F (s o))
abbrev lO(n i k o:Nat):=U n i (f k (s o))
abbrev lP(n i:Nat):=A n (w (s i))
abbrev lQ(n i o:Nat):=A n (q (s i) o)
abbrev lR(o i:Nat):=A o (n (s i))
abbrev lS(n k z i o:Nat):aA:=⟨S n,N,a (.agg k) z (s i) (s o)⟩
attribute[go_sem] A M E G H W Y P T U B Ba Bb Z3 Z4 Z5 Z6 Z7 Z8 Z9 Z10 Z11 Z12 Z13 Z14 Z15 lA lB lC lE lF lG lH lI lJ lK lL lM lN lO lP lQ lR lS
abbrev aRu:LA:=[Y 2 6 0,lG 4]
abbrev aWg:LA:=[P 15 7 [],A 16 (.not (s 15))]
abbrev aA9:LA:=[lG 4]
abbrev aWf:LA:=[G 17 6 2,P 18 8 [s 17,(B 300)],A 19 (b .lss (s 18) (B 0)),M 20 19,lM 21 20 1,U 22 20 (w (s 21)),U 23 20 (b .gtr (s 22) (B 20)),lH 24 20 23]
abbrev aDu:LA:=[A 4 (m Bb)]
abbrev aWe:LA:=[G 26 6 2,P 27 9 [s 26],M 25 27,lQ 28 25 0,lQ 29 25 1,⟨S 5,N,x (.agg 7) (c (.agg [(.str ⟨#[]⟩),(.sl (.agg 4) .nil []),(I j 0),(I j 0),(.sl (.agg 17) .nil []),(I j 0),(.sl (.agg 5) .nil [])]))⟩,W 7 5 28,M 6 29]
abbrev aWd:LA:=[G 31 6 2,P 32 15 [s 31],P 33 14 [s 32],M 30 33,lQ 34 30 0,lQ 35 30 1,M 7 34,M 8 35]
abbrev aWc:LA:=[M 36 6,P 37 16 [s 36],M 38 8,A 39 (b .neq (s 37) (s 38)),M 40 39,lO 41 40 6 5,lN 42 40 41,U 43 40 (w (s 42)),lM 44 40 7,U 45 40 (w (s 44)),U 46 40 (b .neq (s 43) (s 45)),lH 47 40 46,M 48 47,U 49 48 (l (.agg 7) (s 5)),⟨S 50,S (48,false),k 13 [s 49]⟩,lM 51 48 7,⟨S 52,S (48,false),k 17 [s 51]⟩,⟨S 53,S (48,false),k 11 [s 50,s 52]⟩,U 54 48 (.not (s 53)),lH 55 48 54]
abbrev aWb:LA:=[A 9 (m (c (.sl F .nil [])))]
abbrev aRt:LA:=[H 56 6 5,E 57 56,lP 58 57,lF 59 0]
abbrev aRs:LA:=[lA 60 59 58]
abbrev aRr:LA:=[M 61 59,lC 62 5 57 59,G 63 5 62,⟨S 11,N,x (.agg 5) (c (.agg [(I j 0),(I j 0),(.sl F .nil []),(.sl F .nil []),(.sl F .nil [])]))⟩,M 10 61,W 5 11 63]
abbrev aRq:LA:=[M 64 7,M 65 10,lC 66 5 64 65,G 67 5 66,⟨S 12,N,x (.agg 5) (c (.agg [(I j 0),(I j 0),(.sl F .nil []),(.sl F .nil []),(.sl F .nil [])]))⟩,W 5 12 67]
abbrev aRp:LA:=[H 68 0 11,E 69 68,H 70 0 12,E 71 70,A 72 (b .neq (s 69) (s 71)),M 73 72,lO 74 73 1 11,lN 75 73 74,lO 76 73 1 12,lN 77 73 76,U 78 73 (b .neq (s 75) (s 77)),lH 79 73 78,M 80 79,lO 81 80 2 11,lN 82 80 81,lO 83 80 2 12,lN 84 80 83,⟨S 85,S (80,false),k 11 [s 82,s 84]⟩,U 86 80 (.not (s 85)),lH 87 80 86,M 88 87,lO 89 88 3 11,lN 90 88 89,lO 91 88 3 12,lN 92 88 91,⟨S 93,S (88,false),k 11 [s 90,s 92]⟩,U 94 88 (.not (s 93)),lH 95 88 94,M 96 95,lO 97 96 4 11,lN 98 96 97,lO 99 96 4 12,lN 100 96 99,⟨S 101,S (96,false),k 18 [s 98,s 100]⟩,U 102 96 (.not (s 101)),lH 103 96 102]
abbrev aRo:LA:=[M 104 1,lP 105 104,lF 106 0]
abbrev aRn:LA:=[lA 107 106 105]
abbrev aRm:LA:=[lE 108 104 106,E 109 108,M 14 109]
abbrev aRl:LA:=[H 110 0 12,E 111 110,A 112 (b .eql (s 111) (B 1)),M 113 112,lJ 114 113 14,lL 115 113 4 2,lK 116 113 115,lL 117 113 1 12,lK 118 113 117,T 119 113 (i (.agg 17) (s 116) (s 118)),lL 120 113 1 119,lL 121 113 0 120,lK 122 113 121,T 123 113 (b .eql (s 114) (s 122)),lI 124 113 123,M 125 124,lJ 126 125 9,T 127 125 (w (s 126)),T 128 125 (b .eql (s 127) (B 0)),lJ 129 125 128,lM 130 129 9,lM 131 129 9,U 132 129 (w (s 131)),U 133 129 (b .sub (s 132) (B 1)),U 134 129 (i F (s 130) (s 133)),lN 135 129 134,lM 136 129 10,U 137 129 (b .neq (s 135) (s 136)),T 138 125 (p (s 129) Bb (s 137)),lI 139 125 138]
abbrev aRk:LA:=[M 140 9,M 141 10,⟨S 142,N,y F [s 141]⟩,⟨S 143,N,a F 8 (s 140) (s 142)⟩,M 9 143]
abbrev aRj:LA:=[lB 144 106,M 106 144]
abbrev aWi:aP:=(Q (O aRn) (Q (C (s 107) Z (X 2)) (Q (K 3 (Q (O aRm) (Q (O aRl) (C (s 139) (O aRk) Z)))) (O aRj))))
abbrev aRi:LA:=[lB 145 59,M 59 145]
abbrev aWh:aP:=(Q (O aRs) (Q (C (s 60) Z (X 0)) (Q (K 1 (Q (O aRr) (Q (O aRq) (Q (Q (O aRp) (C (s 103) (Q (O aA9) .ret) Z)) (Q (O aRo) (K 2 (R aWi))))))) (O aRi))))
abbrev aRh:LA:=[G 146 7 5,M 147 1,P 148 19 [s 146,s 147],M 149 9,P 150 18 [s 148,s 149],M 4 150]
def g0:LFn:=⟨(Q (O aRu) (Q (Q (O aWg) (C (s 16) (Q (O aA9) .ret) Z)) (Q (Q (O aWf) (C (s 24) (Q (O aDu) .ret) Z)) (Q (O aWe) (Q (O aWd) (Q (Q (O aWc) (C (s 55) (Q (O aA9) .ret) Z)) (Q (O aWb) (Q (Q (O aRt) (K 0 (R aWh))) (Q (O aRh) .ret))))))))),151,[.slot 4]⟩
theorem g0z:aF Tryz.prog 4=some g0:=Zz
abbrev aV9:LA:=[lG 0]
abbrev aV8:LA:=[⟨S 7,N,k 33 [(c (.str ⟨#[112,40,88,44,32,90,41,32,58,45,32,101,40,88,44,32,89,41,44,32,101,40,89,44,32,90,41,46]⟩))]⟩,M 6 7,lQ 8 6 0,lQ 9 6 1,lQ 10 6 2,⟨S 1,N,x (.agg 6) (c (.agg [(.str ⟨#[]⟩),(.sl (.agg 4) .nil []),(I j 0),(I j 0),(.sl (.agg 17) .nil []),(I j 0)]))⟩,W 6 1 8,M 2 9,M 3 10]
abbrev aV7:LA:=[G 12 6 1,P 13 9 [s 12],M 11 13,lQ 14 11 0,lQ 15 11 1,⟨S 4,N,x (.agg 7) (c (.agg [(.str ⟨#[]⟩),(.sl (.agg 4) .nil []),(I j 0),(I j 0),(.sl (.agg 17) .nil []),(I j 0),(.sl (.agg 5) .nil [])]))⟩,W 7 4 14,M 5 15]
abbrev aV6:LA:=[M 16 3,A 17 (e false (.iface true) (s 16) (c .nilIface)),M 18 17,lJ 19 18 5,T 20 18 (e false (.iface true) (s 19) (c .nilIface)),lI 21 18 20,M 22 21,lL 23 22 6 4,lK 24 22 23,T 25 22 (w (s 24)),T 26 22 (b .eql (s 25) (B 2)),lI 27 22 26,M 28 27,lL 29 28 6 4,lK 30 28 29,T 31 28 (i (.agg 5) (s 30) (B 1)),lL 32 28 4 31,lK 33 28 32,⟨S 34,S (28,true),y F [(B 0)]⟩,⟨S 35,S (28,true),k 18 [s 33,s 34]⟩,lI 36 28 35,M 37 36,lL 38 37 6 4,lK 39 37 38,T 40 37 (i (.agg 5) (s 39) (B 1)),lL 41 37 2 40,lK 42 37 41,⟨S 43,S (37,true),y F [(c (.str ⟨#[88]⟩)),(c (.str ⟨#[89]⟩))]⟩,⟨S 44,S (37,true),k 11 [s 42,s 43]⟩,lI 45 37 44,M 46 45,T 47 46 (l (.agg 7) (s 4)),⟨S 48,S (46,true),k 13 [s 47]⟩,⟨S 49,S (46,true),y F [(c (.str ⟨#[88]⟩)),(c (.str ⟨#[89]⟩)),(c (.str ⟨#[90]⟩))]⟩,⟨S 50,S (46,true),k 11 [s 48,s 49]⟩,lI 51 46 50,M 0 51]
def g1:LFn:=⟨(Q (O aV9) (Q (O aV8) (Q (O aV7) (Q (O aV6) .ret)))),52,[.slot 0]⟩
theorem g1z:aF Tryz.prog 7=some g1:=Zz
abbrev aQP:LA:=[Y 2 6 0,lF 4 0]
abbrev aVw:LA:=[H 7 0 2,G 8 2 7,M 9 1,P 10 34 [s 8,s 9],M 1 10]
abbrev aVv:LA:=[H 11 4 2,E 12 11,lP 13 12,lF 14 0]
abbrev aTn:LA:=[lA 15 14 13]
abbrev aVu:LA:=[lC 16 17 12 14,G 17 17 16,⟨S 6,N,x (.agg 17) (c (.agg [(I j 0),(.str ⟨#[]⟩),(.sl (.agg 4) .nil []),(I j 0),(I j 0),(.str ⟨#[]⟩),(I j 0),(I j 0),(.str ⟨#[]⟩),(.sl (.agg 6) .nil []),(I j 0),(.str ⟨#[]⟩),(I j 0),(I j 0),(.str ⟨#[]⟩),(.sl (.agg 6) .nil []),(I j 0)]))⟩,W 17 6 17]
abbrev aVt:LA:=[M 18 1,A 19 (b .lss (s 18) (B 0))]
abbrev aEg:LA:=[A 4 (m (B (-1)))]
abbrev aVs:LD:=[(H 20 10 6,[]),(G 21 6 20,[0]),(H 22 4 6,[]),(G 23 6 22,[2]),(H 24 1 6,[]),(G 25 2 24,[4]),(M 26 1,[]),(P 27 34 [s 25,s 26],[4,5,6]),(P 28 35 [s 23,s 27],[2,3,4,5,6,7]),(P 29 35 [s 21,s 28],Z9)]
abbrev aQO:LA:=[M 1 29]
abbrev aVr:LA:=[lB 30 14,M 14 30]
abbrev aVx:aP:=(Q (O aTn) (Q (C (s 15) Z (X 0)) (Q (K 1 (Q (O aVu) (Q (Q (O aVt) (C (s 19) (Q (O aEg) .ret) Z)) (D 10 aVs aQO)))) (O aVr))))
abbrev aVq:LA:=[M 31 1,M 4 31]
def g2:LFn:=⟨(Q (O aQP) (Q (O aVw) (Q (Q (O aVv) (K 0 (R aVx))) (Q (O aVq) .ret)))),32,[.slot 4]⟩
theorem g2z:aF Tryz.prog 8=some g2:=Zz
abbrev aVe:LA:=[Y 1 6 0,⟨S 2,N,x (.agg 7) (c (.agg [(.str ⟨#[]⟩),(.sl (.agg 4) .nil []),(I j 0),(I j 0),(.sl (.agg 17) .nil []),(I j 0),(.sl (.agg 5) .nil [])]))⟩,A 3 (m (c .nilIface))]
abbrev aVd:LA:=[G 13 6 1,P 14 36 [s 13],A 15 (.not (s 14)),M 12 15]
abbrev aVc:LA:=[⟨S 16,N,v (.build [(.str ⟨#[]⟩),(.sl (.agg 4) .nil []),(I j 0),(I j 0),(.sl (.agg 17) .nil []),(I j 0),(.sl (.agg 5) .nil [])] [])⟩,A 17 (.mkif 100 (B 2)),W 7 2 16,M 3 17]
abbrev aVb:LA:=[G 19 6 1,P 20 37 [s 19],lP 21 20,A 22 (b .gtr (s 21) (B 0)),M 18 22]
abbrev aVa:LA:=[⟨S 23,N,v (.build [(.str ⟨#[]⟩),(.sl (.agg 4) .nil []),(I j 0),(I j 0),(.sl (.agg 17) .nil []),(I j 0),(.sl (.agg 5) .nil [])] [])⟩,A 24 (.mkif 100 (B 8)),W 7 2 23,M 3 24]
abbrev aVZ:LA:=[G 25 6 1,⟨S 26,N,v (.build [(.str ⟨#[]⟩),(.sl (.agg 4) .nil []),(I j 0),(I j 0),(.sl (.agg 17) .nil []),(I j 0),(.sl (.agg 5) .nil [])] [(0,(.agg 6),(s 25))])⟩,⟨S 4,N,x (.agg 7) (c (.agg [(.str ⟨#[]⟩),(.sl (.agg 4) .nil []),(I j 0),(I j 0),(.sl (.agg 17) .nil []),(I j 0),(.sl (.agg 5) .nil [])]))⟩,W 7 4 26]
abbrev aNs:LA:=[A 5 (m (c (.sl F .nil [])))]
abbrev aVY:LA:=[G 27 6 1,P 28 10 [s 27],lP 29 28,lF 30 0]
abbrev aVX:LA:=[lA 31 30 29]
abbrev aVW:LA:=[lE 32 28 30,E 33 32,M 7 33]
abbrev aQL:LA:=[H 34 4 1,E 35 34,M 36 7,lC 37 17 35 36,G 38 17 37,⟨S 8,N,x (.agg 17) (c (.agg [(I j 0),(.str ⟨#[]⟩),(.sl (.agg 4) .nil []),(I j 0),(I j 0),(.str ⟨#[]⟩),(I j 0),(I j 0),(.str ⟨#[]⟩),(.sl (.agg 6) .nil []),(I j 0),(.str ⟨#[]⟩),(I j 0),(I j 0),(.str ⟨#[]⟩),(.sl (.agg 6) .nil []),(I j 0)]))⟩,W 17 8 38]
abbrev aQK:LA:=[G 39 17 8,P 40 38 [s 39],M 41 7,M 42 5,M 43 5,P 44 39 [s 43],A 45 (.build [(I j 0),(I j 0),(.sl F .nil []),(.sl F .nil []),(.sl F .nil [])] [(0,F,(s 40)),(1,F,(s 41)),(2,F,(s 42)),(3,F,(s 44))]),⟨S 9,N,x (.agg 5) (c (.agg [(I j 0),(I j 0),(.sl F .nil []),(.sl F .nil []),(.sl F .nil [])]))⟩,W 5 9 45]
abbrev aQJ:LA:=[G 46 17 8,P 47 40 [s 46],lP 48 47,lF 49 0]
abbrev aQI:LA:=[lA 50 49 48]
abbrev aQH:LA:=[lE 51 47 49,E 52 51,M 11 52]
abbrev aQG:LA:=[M 53 5,M 54 11,P 55 41 [s 53,s 54],A 56 (.not (s 55))]
abbrev aQF:LA:=[H 57 3 9,E 58 57,M 59 11,⟨S 60,N,y F [s 59]⟩,⟨S 61,N,a F 16 (s 58) (s 60)⟩,H 62 3 9,⟨N,N,t F (s 62) (s 61)⟩]
abbrev aQE:LA:=[lB 63 49,M 49 63]
abbrev aVg:aP:=(Q (O aQI) (Q (C (s 50) Z (X 3)) (Q (K 4 (Q (O aQH) (Q (O aQG) (C (s 56) (O aQF) Z)))) (O aQE))))
abbrev aQD:LA:=[H 64 0 9,E 65 64,A 66 (b .neq (s 65) (B 3))]
abbrev aQC:LA:=[H 67 1 8,G 68 2 67,M 69 5,P 70 42 [s 68,s 69],H 71 4 9,⟨N,N,t F (s 71) (s 70)⟩]
abbrev aQB:LA:=[H 72 6 4,E 73 72,G 74 5 9,⟨S 75,N,y (.agg 5) [s 74]⟩,lS 76 5 88 73 75,H 77 6 4,⟨N,N,t F (s 77) (s 76)⟩]
abbrev aQA:LA:=[H 78 3 9,E 79 78,M 5 79]
abbrev aP9:LA:=[lB 80 30,M 30 80]
abbrev aVf:aP:=(Q (O aVX) (Q (C (s 31) Z (X 1)) (Q (K 2 (Q (O aVW) (Q (O aQL) (Q (O aQK) (Q (Q (O aQJ) (K 3 (R aVg))) (Q (Q (O aQD) (C (s 66) (O aQC) Z)) (Q (O aQB) (O aQA)))))))) (O aP9))))
abbrev aP8:LA:=[G 81 7 4,W 7 2 81,A 3 (m (c .nilIface))]
def g3:LFn:=⟨(Q (O aVe) (Q (K 0 (Q (O aVd) (C (s 12) (Q (O aVc) .ret) (Q (O aVb) (C (s 18) (Q (O aVa) .ret) Z))))) (Q (O aVZ) (Q (O aNs) (Q (Q (O aVY) (K 1 (R aVf))) (Q (O aP8) .ret)))))),82,[.cell 2 (.agg 7),.slot 3]⟩
theorem g3z:aF Tryz.prog 9=some g3:=Zz
abbrev aEf:LA:=[Y 1 6 0,A 2 (m (c (.sl F .nil [])))]
abbrev aVM:LA:=[⟨S 3,N,x F (c (.sl F .nil []))⟩]
abbrev aVL:LA:=[G 5 6 1,P 6 43 [s 5]]
abbrev aVK:LA:=[M 4 7]
abbrev aVJ:LA:=[E 9 3,M 10 4,⟨S 11,N,y F [s 10]⟩,⟨S 12,N,a F 8 (s 9) (s 11)⟩,⟨N,N,t F (s 3) (s 12)⟩]
abbrev aVN:aP:=(K 1 (O aVJ))
abbrev aVI:LA:=[E 13 3,M 2 13]
def g4:LFn:=⟨(Q (O aEf) (Q (O aVM) (Q (Q (O aVL) (K 0 (.range (s 6) [7,8] (O aVK) aVN))) (Q (O aVI) .ret)))),14,[.slot 2]⟩
theorem g4z:aF Tryz.prog 10=some g4:=Zz
abbrev aTh:LA:=[M 6 0,lP 7 6,M 8 1,lP 9 8,A 10 (b .neq (s 7) (s 9))]
abbrev aTg:LA:=[M 11 0,lP 12 11,lF 13 0]
abbrev aOt:LA:=[lA 14 13 12]
abbrev aTf:LA:=[M 15 13,M 5 15]
abbrev aTe:LD:=[(M 16 0,[]),(M 17 5,[]),(lE 18 16 17,[0,1]),(E 19 18,Z3),(M 20 1,[]),(M 21 5,[]),(lE 22 20 21,[4,5]),(E 23 22,[4,5,6]),(A 24 (b .neq (s 19) (s 23)),Z8)]
abbrev aAr:LA:=[]
abbrev aTd:LA:=[lB 25 13,M 13 25]
abbrev aU9:aP:=(Q (O aOt) (Q (C (s 14) Z (X 0)) (Q (K 1 (Q (O aTf) (Q (D 9 aTe aAr) (C (s 24) (Q (O aA9) .ret) Z)))) (O aTd))))
def g5:LFn:=⟨(Q (O aA9) (Q (Q (O aTh) (C (s 10) (Q (O aA9) .ret) Z)) (Q (Q (O aTg) (K 0 (R aU9))) (Q (O aDu) .ret)))),26,[.slot 4]⟩
theorem g5z:aF Tryz.prog 11=some g5:=Zz
abbrev aUx:LA:=[H 6 0 1,H 7 1 6,E 8 7,P 9 44 [(c (.sl F .nil [])),s 8],M 3 9]
abbrev aUw:LA:=[H 10 4 1,E 11 10,lP 12 11,lF 13 0]
abbrev aUv:LA:=[lC 15 17 11 13,G 16 17 15,⟨S 5,N,x (.agg 17) (c (.agg [(I j 0),(.str ⟨#[]⟩),(.sl (.agg 4) .nil []),(I j 0),(I j 0),(.str ⟨#[]⟩),(I j 0),(I j 0),(.str ⟨#[]⟩),(.sl (.agg 6) .nil []),(I j 0),(.str ⟨#[]⟩),(I j 0),(I j 0),(.str ⟨#[]⟩),(.sl (.agg 6) .nil []),(I j 0)]))⟩,W 17 5 16]
abbrev aUu:LA:=[M 17 3,G 18 17 5,P 19 45 [s 18],P 20 44 [s 17,s 19],M 3 20]
abbrev aUt:LA:=[lB 21 13,M 13 21]
abbrev aUy:aP:=(Q (O aOt) (Q (C (s 14) Z (X 0)) (Q (K 1 (Q (O aUv) (O aUu))) (O aUt))))
abbrev aUs:LA:=[M 22 3,M 2 22]
def g6:LFn:=⟨(Q (O aEf) (Q (O aUx) (Q (Q (O aUw) (K 0 (R aUy))) (Q (O aUs) .ret)))),23,[.slot 2]⟩
theorem g6z:aF Tryz.prog 12=some g6:=Zz
abbrev aS1:LA:=[Y 1 7 0,A 2 (m (c (.sl F .nil [])))]
abbrev aS0:LA:=[H 3 6 1,E 4 3,lP 5 4,A 6 (b .eql (s 5) (B 0))]
abbrev aEG:LA:=[A 2 (m (c (.sl F .nil [])))]
abbrev aSz:LA:=[H 7 6 1,E 8 7,H 9 6 1,E 10 9,lP 11 10,A 12 (b .sub (s 11) (B 1)),lC 13 5 8 12,H 14 3 13,E 15 14,P 16 39 [s 15],M 2 16]
def g7:LFn:=⟨(Q (O aS1) (Q (Q (O aS0) (C (s 6) (Q (O aEG) .ret) Z)) (Q (O aSz) .ret))),17,[.slot 2]⟩
theorem g7z:aF Tryz.prog 13=some g7:=Zz
abbrev aSn:LA:=[Y 1 6 0,A 2 (m (c (.sl (.agg 5) .nil []))),lF 3 0]
abbrev aSm:LA:=[G 13 6 1,P 14 46 [s 13],M 4 14]
abbrev aSl:LA:=[M 15 4,A 16 (b .neq (s 15) (B 0))]
abbrev aSk:LA:=[M 17 4,A 2 (m (c (.sl (.agg 5) .nil []))),M 3 17]
abbrev aSj:LA:=[A 5 (m (c (.sl (.agg 5) .nil [])))]
abbrev aSi:LA:=[A 6 (m (c (.sl F .nil [])))]
abbrev aSh:LA:=[G 18 6 1,P 19 47 [s 18],M 7 19]
abbrev aSg:LA:=[lF 8 0]
abbrev aSf:LA:=[M 20 8,M 21 7,lP 22 21,lA 23 20 22]
abbrev aSe:LD:=[(H 26 4 1,[]),(E 27 26,[0]),(M 28 7,[]),(M 29 8,[]),(lE 30 28 29,[2,3]),(E 31 30,[2,3,4]),(lC 32 17 27 31,Z6),(G 33 17 32,Z7),(⟨S 9,N,x (.agg 17) (c (.agg [(I j 0),(.str ⟨#[]⟩),(.sl (.agg 4) .nil []),(I j 0),(I j 0),(.str ⟨#[]⟩),(I j 0),(I j 0),(.str ⟨#[]⟩),(.sl (.agg 6) .nil []),(I j 0),(.str ⟨#[]⟩),(I j 0),(I j 0),(.str ⟨#[]⟩),(.sl (.agg 6) .nil []),(I j 0)]))⟩,[])]
abbrev aMd:LA:=[W 17 9 33]
abbrev aMr:LD:=[(H 34 0 9,[]),(E 35 34,[0]),(M 36 7,[]),(M 37 8,[]),(lE 38 36 37,[2,3]),(E 39 38,[2,3,4]),(M 40 6,[]),(A 41 (.build [(I j 0),(I j 0),(.sl F .nil []),(.sl F .nil []),(.sl F .nil [])] [(0,F,(s 35)),(1,F,(s 39)),(2,F,(s 40))]),Z7),(⟨S 10,N,x (.agg 5) (c (.agg [(I j 0),(I j 0),(.sl F .nil []),(.sl F .nil []),(.sl F .nil [])]))⟩,[])]
abbrev aGL:LA:=[W 5 10 41]
abbrev aMq:LA:=[⟨S 42,N,y F []⟩,M 43 6,⟨S 44,N,a F 16 (s 42) (s 43)⟩,H 45 3 10,⟨N,N,t F (s 45) (s 44)⟩]
abbrev aMp:LA:=[G 46 17 9,P 47 48 [s 46],M 11 47]
abbrev aMo:LA:=[lF 12 0]
abbrev aMn:LA:=[M 48 12,M 49 11,lP 50 49,lA 51 48 50]
abbrev aMm:LD:=[(H 54 3 10,[]),(E 55 54,[0]),(M 56 11,[]),(M 57 12,[]),(lE 58 56 57,[2,3]),(E 59 58,[2,3,4]),(P 60 49 [s 55,s 59],Z6),(A 61 (.not (s 60)),Z7)]
abbrev aMl:LD:=[(H 62 3 10,[]),(E 63 62,[0]),(M 64 11,[]),(M 65 12,[]),(lE 66 64 65,[2,3]),(E 67 66,[2,3,4]),(⟨S 68,N,y F [s 67]⟩,[2,3,4,5]),(⟨S 69,N,a F 16 (s 63) (s 68)⟩,Z7),(H 70 3 10,Z8)]
abbrev aGK:LA:=[⟨N,N,t F (s 70) (s 69)⟩]
abbrev aMk:LA:=[M 52 12,lB 53 52,M 12 53]
abbrev aSp:aP:=(Q (Q (O aMn) (C (s 51) Z (X 2))) (Q (K 3 (Q (D 8 aMm aAr) (C (s 61) (D 9 aMl aGK) Z))) (O aMk)))
abbrev aMj:LA:=[H 71 0 9,E 72 71,A 73 (b .neq (s 72) (B 3))]
abbrev aMi:LA:=[H 74 1 9,G 75 2 74,M 76 6,P 77 50 [s 75,s 76],H 78 4 10,⟨N,N,t F (s 78) (s 77)⟩]
abbrev aMh:LA:=[M 79 5,G 80 5 10,⟨S 81,N,y (.agg 5) [s 80]⟩,lS 82 5 88 79 81,M 5 82]
abbrev aMg:LA:=[H 83 3 10,E 84 83,M 6 84]
abbrev aMf:LA:=[M 24 8,lB 25 24,M 8 25]
abbrev aSo:aP:=(Q (Q (O aSf) (C (s 23) Z (X 0))) (Q (K 1 (Q (D 9 aSe aMd) (Q (D 9 aMr aGL) (Q (O aMq) (Q (O aMp) (Q (Q (O aMo) (K 2 (R aSp))) (Q (Q (O aMj) (C (s 73) (O aMi) Z)) (Q (O aMh) (O aMg))))))))) (O aMf)))
abbrev aMe:LA:=[M 85 5,M 2 85,lF 3 0]
def g8:LFn:=⟨(Q (O aSn) (Q (Q (O aSm) (Q (O aSl) (C (s 16) (Q (O aSk) .ret) Z))) (Q (O aSj) (Q (O aSi) (Q (O aSh) (Q (Q (O aSg) (K 0 (R aSo))) (Q (O aMe) .ret))))))),86,[.slot 2,.slot 3]⟩
theorem g8z:aF Tryz.prog 14=some g8:=Zz
abbrev aSU:LA:=[Y 1 6 0,⟨S 2,N,x (.agg 6) (c (.agg [(.str ⟨#[]⟩),(.sl (.agg 4) .nil []),(I j 0),(I j 0),(.sl (.agg 17) .nil []),(I j 0)]))⟩]
abbrev aST:LD:=[(H 6 0 1,[]),(G 7 2 6,[0]),(P 8 51 [s 7],[0,1]),(H 9 2 1,[]),(E 10 9,[3]),(H 11 3 1,[]),(E 12 11,[5]),(H 13 5 1,[]),(E 14 13,[7]),(⟨S 15,N,v (.build [(.str ⟨#[]⟩),(.sl (.agg 4) .nil []),(I j 0),(I j 0),(.sl (.agg 17) .nil []),(I j 0)] [(0,(.agg 2),(s 8)),(2,F,(s 10)),(3,F,(s 12)),(5,F,(s 14))])⟩,Z9),(⟨S 3,N,x (.agg 6) (c (.agg [(.str ⟨#[]⟩),(.sl (.agg 4) .nil []),(I j 0),(I j 0),(.sl (.agg 17) .nil []),(I j 0)]))⟩,[])]
abbrev aMG:LA:=[W 6 3 15]
abbrev aSS:LA:=[H 16 4 1,E 17 16,lP 18 17,lF 19 0]
abbrev aSR:LA:=[lA 20 19 18]
abbrev aSQ:LA:=[lC 21 17 17 19,G 22 17 21,⟨S 5,N,x (.agg 17) (c (.agg [(I j 0),(.str ⟨#[]⟩),(.sl (.agg 4) .nil []),(I j 0),(I j 0),(.str ⟨#[]⟩),(I j 0),(I j 0),(.str ⟨#[]⟩),(.sl (.agg 6) .nil []),(I j 0),(.str ⟨#[]⟩),(I j 0),(I j 0),(.str ⟨#[]⟩),(.sl (.agg 6) .nil []),(I j 0)]))⟩,W 17 5 22]
abbrev aSP:LD:=[(H 23 4 3,[]),(E 24 23,[0]),(G 25 17 5,[]),(P 26 52 [s 25],[2]),(⟨S 27,N,y (.agg 17) [s 26]⟩,[2,3]),(lS 28 17 224 24 27,Z5),(H 29 4 3,Z6)]
abbrev aMF:LA:=[⟨N,N,t F (s 29) (s 28)⟩]
abbrev aSO:LA:=[lB 30 19,M 19 30]
abbrev aSV:aP:=(Q (O aSR) (Q (C (s 20) Z (X 0)) (Q (K 1 (Q (O aSQ) (D 7 aSP aMF))) (O aSO))))
abbrev aSN:LA:=[G 31 6 3,W 6 2 31]
def g9:LFn:=⟨(Q (O aSU) (Q (D 11 aST aMG) (Q (Q (O aSS) (K 0 (R aSV))) (Q (O aSN) .ret)))),32,[.cell 2 (.agg 6)]⟩
theorem g9z:aF Tryz.prog 15=some g9:=Zz
abbrev aBj:LA:=[lF 2 0]
abbrev aSD:LA:=[M 5 0,A 6 (e false (.iface true) (s 5) (c .nilIface))]
abbrev aSC:LA:=[M 8 0,A 9 (.asrt 100 (I j 0) (s 8)),M 7 9,lQ 10 7 0,lQ 11 7 1,M 3 10,M 4 11]
abbrev aSB:LA:=[M 12 4,M 13 12,lJ 14 13 3,T 15 13 (b .neq (s 14) (B 0)),lI 16 13 15]
abbrev aSA:LA:=[M 17 3,M 2 17]
abbrev aR9:LA:=[A 2 (m (B (-1)))]
def g10:LFn:=⟨(Q (O aBj) (Q (Q (O aSD) (C (s 6) (Q (O aBj) .ret) Z)) (Q (Q (O aSC) (Q (O aSB) (C (s 16) (Q (O aSA) .ret) Z))) (Q (O aR9) .ret)))),18,[.slot 2]⟩
theorem aXG:aF Tryz.prog 16=some g10:=Zz
abbrev aR4:LA:=[M 3 0,lP 4 3,A 5 (b .eql (s 4) (B 0))]
abbrev aR3:LA:=[M 6 0,M 7 0,lP 8 7,A 9 (b .sub (s 8) (B 1)),lC 10 5 6 9,H 11 3 10,E 12 11,M 2 12]
def g11:LFn:=⟨(Q (O aEG) (Q (Q (O aR4) (C (s 5) (Q (O aEG) .ret) Z)) (Q (O aR3) .ret))),13,[.slot 2]⟩
theorem aW9:aF Tryz.prog 17=some g11:=Zz
abbrev aR2:aP:=(Q (O aOt) (Q (C (s 14) Z (X 0)) (Q (K 1 (Q (O aTf) (Q (D 9 aTe aAr) (C (s 24) (Q (O aA9) .ret) Z)))) (O aTd))))
def g12:LFn:=⟨(Q (O aA9) (Q (Q (O aTh) (C (s 10) (Q (O aA9) .ret) Z)) (Q (Q (O aTg) (K 0 (R aR2))) (Q (O aDu) .ret)))),26,[.slot 4]⟩
theorem aTx:aF Tryz.prog 18=some g12:=Zz
abbrev aR0:LA:=[Y 2 7 0,A 4 (m (c (.sl F .nil [])))]
abbrev aRz:LA:=[H 8 6 2,E 9 8,lP 10 9,lF 11 0]
abbrev aKH:LA:=[lA 12 11 10]
abbrev aRy:LA:=[M 13 11,lC 14 5 9 11,G 15 5 14,⟨S 7,N,x (.agg 5) (c (.agg [(I j 0),(I j 0),(.sl F .nil []),(.sl F .nil []),(.sl F .nil [])]))⟩,M 6 13,W 5 7 15]
abbrev aRx:LA:=[H 16 0 7,E 17 16,A 18 (b .eql (s 17) (B 1)),M 19 18,lJ 20 19 1,lL 21 19 0 2,lL 22 19 4 21,lK 23 19 22,lL 24 19 1 7,lK 25 19 24,T 26 19 (i (.agg 17) (s 23) (s 25)),lL 27 19 1 26,lL 28 19 0 27,lK 29 19 28,⟨S 30,S (19,true),k 41 [s 20,s 29]⟩,lI 31 19 30]
abbrev aKG:LA:=[M 32 5,M 33 6,⟨S 34,N,y F [s 33]⟩,⟨S 35,N,a F 8 (s 32) (s 34)⟩,M 5 35]
abbrev aRw:LA:=[lB 36 11,M 11 36]
abbrev aR1:aP:=(Q (O aKH) (Q (C (s 12) Z (X 0)) (Q (K 1 (Q (O aRy) (Q (O aRx) (C (s 31) (O aKG) Z)))) (O aRw))))
abbrev aRv:LA:=[M 37 5,M 4 37]
def g13:LFn:=⟨(Q (O aR0) (Q (O aNs) (Q (Q (O aRz) (K 0 (R aR1))) (Q (O aRv) .ret)))),38,[.slot 4]⟩
theorem aWu:aF Tryz.prog 19=some g13:=Zz
abbrev aRg:LA:=[⟨S 2,N,x (.agg 6) (c (.agg [(.str ⟨#[]⟩),(.sl (.agg 4) .nil []),(I j 0),(I j 0),(.sl (.agg 17) .nil []),(I j 0)]))⟩,lF 3 0,A 4 (m (c .nilIface))]
abbrev aRf:LA:=[M 5 0,P 6 74 [s 5,(c (.fn (.func 75) [] []))],lQ 7 6 0,lQ 8 6 1,lQ 9 6 2,W 6 2 7,M 3 8,M 4 9]
def g14:LFn:=⟨(Q (O aRg) (Q (O aRf) .ret)),10,[.cell 2 (.agg 6),.slot 3,.slot 4]⟩
theorem aWo:aF Tryz.prog 33=some g14:=Zz
abbrev aRd:LA:=[Y 2 2 0,lF 4 0]
abbrev aRc:LA:=[M 7 1,H 8 0 2,E 9 8,A 10 (.slen (s 9)),A 11 (b .quo (s 10) (B 50)),A 12 (b .add (B 1) (s 11)),A 13 (b .sub (s 7) (s 12)),M 1 13]
abbrev aRb:LA:=[H 14 1 2,E 15 14,lP 16 15,lF 17 0]
abbrev aRa:LA:=[lA 18 17 16]
abbrev aRZ:LA:=[lC 19 4 15 17,G 20 4 19,⟨S 6,N,x (.agg 4) (c (.agg [(.str ⟨#[]⟩),(I j 0),(I j 0),(.str ⟨#[]⟩)]))⟩,W 4 6 20]
abbrev aRY:LA:=[M 21 1,H 22 0 6,E 23 22,A 24 (.slen (s 23)),H 25 1 6,H 26 2 25,E 27 26,A 28 (.slen (s 27)),A 29 (b .add (s 24) (s 28)),A 30 (b .quo (s 29) (B 50)),A 31 (b .add (B 1) (s 30)),A 32 (b .sub (s 21) (s 31)),M 1 32]
abbrev aRX:LA:=[M 33 1,A 34 (b .lss (s 33) (B 0))]
abbrev aRW:LA:=[lB 35 17,M 17 35]
abbrev aRe:aP:=(Q (O aRa) (Q (C (s 18) Z (X 0)) (Q (K 1 (Q (O aRZ) (Q (O aRY) (Q (O aRX) (C (s 34) (Q (O aEg) .ret) Z))))) (O aRW))))
abbrev aRV:LA:=[M 36 1,M 4 36]
def g15:LFn:=⟨(Q (O aRd) (Q (O aRc) (Q (Q (O aRb) (K 0 (R aRe))) (Q (O aRV) .ret)))),37,[.slot 4]⟩
theorem aWn:aF Tryz.prog 34=some g15:=Zz
abbrev aRT:LA:=[M 7 1,H 8 1 2,H 9 0 8,E 10 9,A 11 (.slen (s 10)),H 12 1 2,H 13 1 12,H 14 2 13,E 15 14,A 16 (.slen (s 15)),A 17 (b .add (s 11) (s 16)),A 18 (b .quo (s 17) (B 50)),A 19 (b .add (B 1) (s 18)),A 20 (b .sub (s 7) (s 19)),M 1 20]
abbrev aRS:LA:=[H 21 5 2,E 22 21,lP 23 22,lF 24 0]
abbrev aRR:LA:=[lA 25 24 23]
abbrev aRQ:LA:=[lC 26 6 22 24,G 27 6 26,⟨S 6,N,x (.agg 6) (c (.agg [(I j 0),(.str ⟨#[]⟩),(I j 0),(I j 0),(.str ⟨#[]⟩),(.sl (.agg 6) .nil [])]))⟩,W 6 6 27]
abbrev aRP:LA:=[M 28 1,A 29 (b .lss (s 28) (B 0))]
abbrev aRO:LA:=[G 30 6 6,M 31 1,P 32 35 [s 30,s 31],M 1 32]
abbrev aRN:LA:=[lB 33 24,M 24 33]
abbrev aRU:aP:=(Q (O aRR) (Q (C (s 25) Z (X 0)) (Q (K 1 (Q (O aRQ) (Q (Q (O aRP) (C (s 29) (Q (O aEg) .ret) Z)) (O aRO)))) (O aRN))))
abbrev aRM:LA:=[M 34 1,M 4 34]
def g16:LFn:=⟨(Q (O aQP) (Q (O aRT) (Q (Q (O aRS) (K 0 (R aRU))) (Q (O aRM) .ret)))),35,[.slot 4]⟩
theorem aWm:aF Tryz.prog 35=some g16:=Zz
abbrev aCK:LA:=[Y 1 6 0,lG 2]
abbrev aRL:LA:=[H 3 0 1,G 4 2 3,P 5 76 [s 4],M 6 5,T 7 6 (l (.agg 6) (s 1)),⟨S 8,S (6,true),k 77 [s 7]⟩,lI 9 6 8,M 10 9,lL 11 10 4 1,lK 12 10 11,T 13 10 (w (s 12)),T 14 10 (b .leq (s 13) (B 8)),lI 15 10 14,M 16 15,lL 17 16 4 1,lK 18 16 17,⟨S 19,S (16,true),k 78 [s 18,(c (.fn (.func 79) [] []))]⟩,lI 20 16 19,M 2 20]
def g17:LFn:=⟨(Q (O aCK) (Q (O aRL) .ret)),21,[.slot 2]⟩
theorem aWl:aF Tryz.prog 36=some g17:=Zz
abbrev aRK:LD:=[(G 3 6 1,[]),(G 4 6 1,[]),(P 5 81 [s 4],[1]),(P 6 80 [s 3,s 5,Ba],Z3),(M 2 6,Z4)]
def g18:LFn:=⟨(Q (O aEf) (Q (D 5 aRK aAr) .ret)),7,[.slot 2]⟩
theorem aWk:aF Tryz.prog 37=some g18:=Zz
abbrev aRJ:LA:=[Y 1 17 0,lF 2 0]
abbrev aFT:LA:=[H 3 0 1,E 4 3]
abbrev aFS:LA:=[A 6 (b .eql (s 4) (B 1)),M 5 6]
abbrev aFR:LA:=[lF 2 1]
abbrev aRI:LA:=[A 8 (b .eql (s 4) (B 2)),M 7 8]
abbrev aEC:LA:=[lF 2 2]
abbrev aFQ:LA:=[lF 2 3]
def g19:LFn:=⟨(Q (O aRJ) (Q (Q (O aFT) (K 0 (Q (O aFS) (C (s 5) (Q (O aFR) .ret) (Q (O aRI) (C (s 7) (Q (O aEC) .ret) Z)))))) (Q (O aFQ) .ret))),9,[.slot 2]⟩
theorem aWj:aF Tryz.prog 38=some g19:=Zz
abbrev aHw:LA:=[Y 1 17 0,A 2 (m (c (.sl F .nil [])))]
abbrev aRH:LA:=[G 3 17 1,P 4 45 [s 3],P 5 44 [(c (.sl F .nil [])),s 4],M 2 5]
def g20:LFn:=⟨(Q (O aHw) (Q (O aRH) .ret)),6,[.slot 2]⟩
theorem aWa:aF Tryz.prog 40=some g20:=Zz
abbrev aRG:LA:=[M 5 0,M 6 1,P 7 82 [s 5,s 6],A 8 (b .geq (s 7) (B 0)),M 4 8]
def g21:LFn:=⟨(Q (O aA9) (Q (O aRG) .ret)),9,[.slot 4]⟩
theorem aTr:aF Tryz.prog 41=some g21:=Zz
abbrev aHv:LA:=[Y 2 2 0,A 4 (m (c (.sl F .nil [])))]
abbrev aRE:LA:=[H 8 1 2,E 9 8,lP 10 9,lF 11 0]
abbrev aRD:LA:=[M 13 11,lC 14 4 9 11,G 15 4 14,⟨S 7,N,x (.agg 4) (c (.agg [(.str ⟨#[]⟩),(I j 0),(I j 0),(.str ⟨#[]⟩)]))⟩,M 6 13,W 4 7 15]
abbrev aRC:LA:=[H 16 0 7,E 17 16,⟨S 18,N,v (b .eql (s 17) (c (.str ⟨#[]⟩)))⟩,M 19 18,lM 20 19 1,lO 21 19 0 7,lN 22 19 21,⟨S 23,S (19,false),k 41 [s 20,s 22]⟩,lH 24 19 23]
abbrev aRB:LA:=[M 25 5,M 26 6,⟨S 27,N,y F [s 26]⟩,⟨S 28,N,a F 8 (s 25) (s 27)⟩,M 5 28]
abbrev aRA:LA:=[lB 29 11,M 11 29]
abbrev aRF:aP:=(Q (O aKH) (Q (C (s 12) Z (X 0)) (Q (K 1 (Q (O aRD) (Q (O aRC) (C (s 24) (O aRB) Z)))) (O aRA))))
abbrev aQ9:LA:=[M 30 5,M 4 30]
def g22:LFn:=⟨(Q (O aHv) (Q (O aNs) (Q (Q (O aRE) (K 0 (R aRF))) (Q (O aQ9) .ret)))),31,[.slot 4]⟩
theorem aWZ:aF Tryz.prog 42=some g22:=Zz
abbrev aHu:LA:=[Y 1 6 0,A 2 (m (c .aAY))]
abbrev aQ8:LA:=[A 3 (.mkfn (.func 83) [] [s 1]),M 2 3]
def g23:LFn:=⟨(Q (O aHu) (Q (O aQ8) .ret)),4,[.slot 2]⟩
theorem aWY:aF Tryz.prog 43=some g23:=Zz
abbrev aEB:LA:=[A 4 (m (c (.sl F .nil [])))]
abbrev aQ6:LA:=[M 7 1,lP 8 7,lF 9 0]
abbrev aQ5:LA:=[lA 10 9 8]
abbrev aQ4:LA:=[lC 11 4 7 9,G 12 4 11,⟨S 6,N,x (.agg 4) (c (.agg [(.str ⟨#[]⟩),(I j 0),(I j 0),(.str ⟨#[]⟩)]))⟩,W 4 6 12]
abbrev aQ3:LA:=[H 13 0 6,E 14 13,⟨S 15,N,v (b .neq (s 14) (c (.str ⟨#[]⟩)))⟩,M 16 15,lJ 17 16 0,lL 18 16 0 6,lK 19 16 18,⟨S 20,S (16,true),k 41 [s 17,s 19]⟩,T 21 16 (.not (s 20)),lI 22 16 21]
abbrev aQ2:LA:=[M 23 0,H 24 0 6,E 25 24,⟨S 26,N,y F [s 25]⟩,⟨S 27,N,a F 16 (s 23) (s 26)⟩,M 0 27]
abbrev aQ1:LA:=[lB 28 9,M 9 28]
abbrev aQ7:aP:=(Q (O aQ5) (Q (C (s 10) Z (X 0)) (Q (K 1 (Q (O aQ4) (Q (O aQ3) (C (s 22) (O aQ2) Z)))) (O aQ1))))
abbrev aQ0:LA:=[M 29 0,M 4 29]
def g24:LFn:=⟨(Q (O aEB) (Q (Q (O aQ6) (K 0 (R aQ7))) (Q (O aQ0) .ret))),30,[.slot 4]⟩
theorem aWX:aF Tryz.prog 44=some g24:=Zz
abbrev aHt:LA:=[Y 1 17 0,A 2 (m (c (.sl (.agg 4) .nil [])))]
abbrev aQz:LD:=[(H 3 1 1,[]),(H 4 1 3,[0]),(E 5 4,[0,1]),(H 6 4 1,[]),(G 7 6 6,[3]),(P 8 89 [s 7],[3,4]),(P 9 88 [s 8],[3,4,5]),(H 10 10 1,[]),(G 11 6 10,[7]),(P 12 89 [s 11],[3,4,5,6,7,8]),(P 13 88 [s 12],[3,4,5,6,7,8,9]),(⟨S 14,N,y F [s 5,s 9,s 13]⟩,Z11),(P 15 87 [s 14],Z12),(M 2 15,Z13)]
def g25:LFn:=⟨(Q (O aHt) (Q (D 14 aQz aAr) .ret)),16,[.slot 2]⟩
theorem aWW:aF Tryz.prog 45=some g25:=Zz
abbrev aQy:LA:=[Y 1 6 0,lF 2 0]
abbrev aQx:LA:=[G 3 6 1,P 4 90 [s 3],A 5 (.not (s 4))]
abbrev aQw:LA:=[G 6 6 1,P 7 91 [s 6,Ba],lP 8 7,A 9 (b .gtr (s 8) (B 0))]
abbrev aQv:LA:=[lF 2 8]
def g26:LFn:=⟨(Q (O aQy) (Q (Q (O aQx) (C (s 5) (Q (O aEC) .ret) Z)) (Q (Q (O aQw) (C (s 9) (Q (O aQv) .ret) Z)) (Q (O aBj) .ret)))),10,[.slot 2]⟩
theorem aWV:aF Tryz.prog 46=some g26:=Zz
abbrev aFP:LA:=[A 3 (m (c (.sl F .nil [])))]
abbrev aQq:LA:=[H 10 4 1,E 11 10,lP 12 11,⟨S 13,N,.mkz F 1 (s 12) (.bool false)⟩,M 5 13]
abbrev aQp:LA:=[A 6 (m (B (-1)))]
abbrev aQo:LA:=[H 14 4 1,E 15 14,lP 16 15,A 17 (b .sub (s 16) (B 1)),M 7 17]
abbrev aQn:LA:=[M 18 7,A 19 (b .geq (s 18) (B 0))]
abbrev aQm:LA:=[H 22 4 1,E 23 22,M 24 7,lC 25 17 23 24,G 26 17 25,⟨S 8,N,x (.agg 17) (c (.agg [(I j 0),(.str ⟨#[]⟩),(.sl (.agg 4) .nil []),(I j 0),(I j 0),(.str ⟨#[]⟩),(I j 0),(I j 0),(.str ⟨#[]⟩),(.sl (.agg 6) .nil []),(I j 0),(.str ⟨#[]⟩),(I j 0),(I j 0),(.str ⟨#[]⟩),(.sl (.agg 6) .nil []),(I j 0)]))⟩,W 17 8 26]
abbrev aQl:LA:=[M 27 5,M 28 7,lE 29 27 28,E 30 29,A 31 (.not (s 30)),M 32 31,lL 33 32 0 8,lK 34 32 33,T 35 32 (b .neq (s 34) (B 1)),lJ 36 32 35,lJ 37 36 4,T 38 36 (l (.agg 17) (s 8)),⟨S 39,S (36,true),k 48 [s 38]⟩,⟨S 40,S (36,true),k 92 [s 37,s 39]⟩,T 41 32 (p (s 36) (s 40) Ba),lJ 42 32 41,lM 43 42 4,U 44 42 (l (.agg 17) (s 8)),⟨S 45,S (42,false),k 93 [s 43,s 44]⟩,T 46 32 (p (s 42) Bb (s 45)),lI 47 32 46]
abbrev aQk:LA:=[M 48 7,M 6 48]
abbrev aHs:LA:=[M 20 7,A 21 (b .sub (s 20) (B 1)),M 7 21]
abbrev aQt:aP:=(Q (Q (O aQn) (C (s 19) Z (X 2))) (Q (K 3 (Q (O aQm) (Q (O aQl) (C (s 47) (O aQk) Z)))) (O aHs)))
abbrev aEi:LA:=[lF 9 0]
abbrev aHr:LA:=[M 49 9,H 50 4 1,E 51 50,lP 52 51,lA 53 49 52,M 54 53,lJ 55 54 6,T 56 54 (b .lss (s 55) (B 0)),lI 57 54 56]
abbrev aHq:LA:=[M 60 5,M 61 9,lE 62 60 61,E 63 62,A 64 (.not (s 63)),M 65 64,lL 66 65 4 1,lK 67 65 66,lJ 68 65 9,T 69 65 (i (.agg 17) (s 67) (s 68)),lL 70 65 0 69,lK 71 65 70,T 72 65 (b .eql (s 71) (B 1)),lI 73 65 72]
abbrev aHp:LA:=[M 74 9,M 6 74]
abbrev aHo:LA:=[M 58 9,lB 59 58,M 9 59]
abbrev aQs:aP:=(Q (Q (O aHr) (C (s 57) Z (X 4))) (Q (K 5 (Q (O aHq) (C (s 73) (O aHp) Z))) (O aHo)))
abbrev aHn:LA:=[M 75 6,A 76 (b .lss (s 75) (B 0))]
abbrev aHm:LA:=[M 77 3,M 2 77]
abbrev aHl:LA:=[M 78 5,M 79 6,lE 80 78 79,⟨N,N,t F (s 80) Bb⟩]
abbrev aHk:LA:=[M 81 3,M 82 6,⟨S 83,N,y F [s 82]⟩,⟨S 84,N,a F 8 (s 81) (s 83)⟩,M 3 84]
abbrev aHj:LA:=[M 85 4,H 86 4 1,E 87 86,M 88 6,lC 89 17 87 88,G 90 17 89,P 91 48 [s 90],⟨S 92,N,a F 16 (s 85) (s 91)⟩,M 4 92]
abbrev aQr:aP:=(K 1 (Q (O aQp) (Q (Q (O aQo) (K 2 (R aQt))) (Q (Q (O aEi) (K 4 (R aQs))) (Q (Q (O aHn) (C (s 76) (Q (O aHm) .ret) Z)) (Q (O aHl) (Q (O aHk) (O aHj))))))))
def g27:LFn:=⟨(Q (O aEf) (Q (O aFP) (Q (O aEB) (Q (O aQq) (K 0 (R aQr)))))),93,[.slot 2]⟩
theorem aWU:aF Tryz.prog 47=some g27:=Zz
abbrev aQj:LA:=[G 3 17 1,P 4 95 [s 3],P 5 94 [s 4],M 2 5]
def g28:LFn:=⟨(Q (O aHw) (Q (O aQj) .ret)),6,[.slot 2]⟩
theorem aWT:aF Tryz.prog 48=some g28:=Zz
abbrev aDL:LA:=[lF 5 0]
abbrev aHi:LA:=[M 6 5,M 7 0,lP 8 7,lA 9 6 8]
abbrev aHh:LA:=[M 12 0,M 13 5,lE 14 12 13,E 15 14,M 16 1,A 17 (b .eql (s 15) (s 16))]
abbrev aFO:LA:=[M 10 5,lB 11 10,M 5 11]
abbrev aQi:aP:=(Q (Q (O aHi) (C (s 9) Z (X 0))) (Q (K 1 (Q (O aHh) (C (s 17) (Q (O aDu) .ret) Z))) (O aFO)))
def g29:LFn:=⟨(Q (O aA9) (Q (Q (O aDL) (K 0 (R aQi))) (Q (O aA9) .ret))),18,[.slot 4]⟩
theorem aWS:aF Tryz.prog 49=some g29:=Zz
abbrev aEA:LA:=[lF 6 0]
abbrev aQg:LA:=[M 7 6,H 8 1 2,E 9 8,lP 10 9,lA 11 7 10]
abbrev aQf:LA:=[H 14 1 2,E 15 14,M 16 6,lC 17 4 15 16,H 18 0 17,E 19 18,A 20 (.slen (s 19)),A 21 (b .eql (s 20) (B 0)),M 22 21,lM 23 22 1,lO 24 22 1 2,lN 25 22 24,lM 26 22 6,U 27 22 (i (.agg 4) (s 25) (s 26)),lO 28 22 0 27,lN 29 22 28,⟨S 30,S (22,false),k 49 [s 23,s 29]⟩,lH 31 22 30]
abbrev aQe:LA:=[M 12 6,lB 13 12,M 6 13]
abbrev aQh:aP:=(Q (Q (O aQg) (C (s 11) Z (X 0))) (Q (K 1 (Q (O aQf) (C (s 31) (O aKG) Z))) (O aQe)))
abbrev aQd:LA:=[M 36 5,M 4 36]
def g30:LFn:=⟨(Q (O aHv) (Q (O aNs) (Q (Q (O aEA) (K 0 (R aQh))) (Q (O aQd) .ret)))),37,[.slot 4]⟩
theorem aWR:aF Tryz.prog 50=some g30:=Zz
abbrev aQb:LA:=[Y 1 2 0,⟨S 2,N,x (.agg 2) (c (.agg [(.str ⟨#[]⟩),(.sl (.agg 4) .nil [])]))⟩]
abbrev aQa:LA:=[H 6 0 1,E 7 6,⟨S 8,N,v (.build [(.str ⟨#[]⟩),(.sl (.agg 4) .nil [])] [(0,F,(s 7))])⟩,⟨S 3,N,x (.agg 2) (c (.agg [(.str ⟨#[]⟩),(.sl (.agg 4) .nil [])]))⟩,W 2 3 8]
abbrev aQZ:LA:=[H 9 1 1,E 10 9,lP 11 10,lF 12 0]
abbrev aFN:LA:=[lA 13 12 11]
abbrev aQY:LA:=[lC 14 4 10 12,G 15 4 14,⟨S 5,N,x (.agg 4) (c (.agg [(.str ⟨#[]⟩),(I j 0),(I j 0),(.str ⟨#[]⟩)]))⟩,W 4 5 15]
abbrev aQX:LA:=[H 16 1 3,E 17 16,G 18 4 5,⟨S 19,N,y (.agg 4) [s 18]⟩,lS 20 4 48 17 19,H 21 1 3,⟨N,N,t F (s 21) (s 20)⟩]
abbrev aQW:LA:=[lB 22 12,M 12 22]
abbrev aQc:aP:=(Q (O aFN) (Q (C (s 13) Z (X 0)) (Q (K 1 (Q (O aQY) (O aQX))) (O aQW))))
abbrev aQV:LA:=[G 23 2 3,W 2 2 23]
def g31:LFn:=⟨(Q (O aQb) (Q (O aQa) (Q (Q (O aQZ) (K 0 (R aQc))) (Q (O aQV) .ret)))),24,[.cell 2 (.agg 2)]⟩
theorem aWQ:aF Tryz.prog 51=some g31:=Zz
abbrev aQU:LA:=[Y 1 17 0,⟨S 2,N,x (.agg 17) (c (.agg [(I j 0),(.str ⟨#[]⟩),(.sl (.agg 4) .nil []),(I j 0),(I j 0),(.str ⟨#[]⟩),(I j 0),(I j 0),(.str ⟨#[]⟩),(.sl (.agg 6) .nil []),(I j 0),(.str ⟨#[]⟩),(I j 0),(I j 0),(.str ⟨#[]⟩),(.sl (.agg 6) .nil []),(I j 0)]))⟩]
abbrev aQT:LD:=[(H 3 0 1,[]),(E 4 3,[0]),(H 5 1 1,[]),(G 6 2 5,[2]),(P 7 51 [s 6],[2,3]),(H 8 3 1,[]),(E 9 8,[5]),(H 10 4 1,[]),(G 11 6 10,[7]),(P 12 96 [s 11],[2,3,4,7,8]),(H 13 10 1,[]),(G 14 6 13,[10]),(P 15 96 [s 14],[2,3,4,7,8,9,10,11]),(H 16 16 1,[]),(E 17 16,[13]),(⟨S 18,N,v (.build [(I j 0),(.str ⟨#[]⟩),(.sl (.agg 4) .nil []),(I j 0),(I j 0),(.str ⟨#[]⟩),(I j 0),(I j 0),(.str ⟨#[]⟩),(.sl (.agg 6) .nil []),(I j 0),(.str ⟨#[]⟩),(I j 0),(I j 0),(.str ⟨#[]⟩),(.sl (.agg 6) .nil []),(I j 0)] [(0,F,(s 4)),(1,(.agg 2),(s 7)),(3,F,(s 9)),(4,(.agg 6),(s 12)),(10,(.agg 6),(s 15)),(16,F,(s 17))])⟩,Z15)]
abbrev aHg:LA:=[W 17 2 18]
def g32:LFn:=⟨(Q (O aQU) (Q (D 16 aQT aHg) .ret)),19,[.cell 2 (.agg 17)]⟩
theorem aWP:aF Tryz.prog 52=some g32:=Zz
abbrev aHf:LA:=[Y 1 3 0,lG 2]
abbrev aQS:LA:=[H 7 2 1,E 8 7,⟨S 9,N,v (b .eql (s 8) (c (.str ⟨#[]⟩)))⟩,M 10 9,lL 11 10 1 1,lK 12 10 11,⟨S 13,S (10,true),k 97 [s 12]⟩,lI 14 10 13,M 2 14]
abbrev aQR:LA:=[A 16 (b .eql (s 4) (B 2)),M 15 16]
abbrev aQQ:LA:=[H 17 1 1,E 18 17,A 19 (b .eql (s 18) (B 0)),M 20 19,lL 21 20 2 1,lK 22 20 21,⟨S 23,S (20,true),k 98 [s 22]⟩,lI 24 20 23,M 2 24]
abbrev aAh:LA:=[lG 2]
def g33:LFn:=⟨(Q (O aHf) (Q (Q (O aFT) (K 0 (Q (O aFS) (C (s 5) (Q (O aQS) .ret) (Q (O aQR) (C (s 15) (Q (O aQQ) .ret) Z)))))) (Q (O aAh) .ret))),25,[.slot 2]⟩
theorem aTq:aF Tryz.prog 54=some g33:=Zz
abbrev aQN:LA:=[Y 2 3 0,Y 3 3 1,lF 4 0]
abbrev aQM:LD:=[(H 5 0 2,[]),(E 6 5,[0]),(H 7 0 3,[]),(E 8 7,[2]),(P 9 106 [s 6,s 8],Z4),(H 10 1 2,[]),(E 11 10,[5]),(H 12 1 3,[]),(E 13 12,[7]),(P 14 107 [s 11,s 13],Z9),(H 15 2 2,[]),(E 16 15,[10]),(H 17 2 3,[]),(E 18 17,[12]),(P 19 108 [s 16,s 18],Z14),(⟨S 20,N,y F [s 9,s 14,s 19]⟩,Z15),(P 21 105 [s 20],[0,1,2,3,4,5,6,7,8,9,10,11,12,13,14,15]),(M 4 21,[0,1,2,3,4,5,6,7,8,9,10,11,12,13,14,15,16])]
def g34:LFn:=⟨(Q (O aQN) (Q (D 18 aQM aAr) .ret)),22,[.slot 4]⟩
theorem aWO:aF Tryz.prog 65=some g34:=Zz
abbrev aP7:LA:=[⟨S 4,N,x (.agg 6) (c (.agg [(.str ⟨#[]⟩),(.sl (.agg 4) .nil []),(I j 0),(I j 0),(.sl (.agg 17) .nil []),(I j 0)]))⟩,lF 5 0,A 6 (m (c .nilIface))]
abbrev aP6:LA:=[⟨S 7,N,x (.agg 6) (c (.agg [(.str ⟨#[]⟩),(.sl (.agg 4) .nil []),(I j 0),(I j 0),(.sl (.agg 17) .nil []),(I j 0)]))⟩]
abbrev aP5:LA:=[M 14 0,P 15 115 [s 14],M 13 15,lQ 16 13 0,lQ 17 13 1,lQ 18 13 2,M 8 16,M 9 17,M 10 18]
abbrev aP4:LA:=[M 19 10,A 20 (e true (.iface true) (s 19) (c .nilIface))]
abbrev aP3:LA:=[G 21 6 7,M 22 9,M 23 10,W 6 4 21,M 5 22,M 6 23]
abbrev aP2:LA:=[M 24 8,M 25 0,A 26 (.slen (s 25)),A 27 (.build [(.sl (.agg 3) .nil []),(I j 0),(I j 0),(I j 0),(I j 0),(I j 0)] [(0,F,(s 24)),(2,F,(s 26))]),Y 28 6 27,M 11 28]
abbrev aP1:LA:=[M 29 1,M 30 11,⟨S 31,N,.callv (s 29) [s 30]⟩,⟨S 12,N,x (.agg 6) (c (.agg [(.str ⟨#[]⟩),(.sl (.agg 4) .nil []),(I j 0),(I j 0),(.sl (.agg 17) .nil []),(I j 0)]))⟩,W 6 12 31]
abbrev aP0:LD:=[(M 32 11,[]),(lR 33 32,[0]),(H 34 1 33,[0,1]),(E 35 34,Z3),(M 36 11,[]),(lR 37 36,[4]),(H 38 0 37,[4,5]),(E 39 38,[4,5,6]),(lP 40 39,[4,5,6,7]),(lA 41 35 40,Z9)]
abbrev aPz:LA:=[M 42 11,M 43 11,P 44 117 [s 43],P 45 116 [s 42,s 44,(B 2)]]
abbrev aPy:LA:=[M 46 11,lR 47 46,H 48 5 47,E 49 48,A 50 (b .neq (s 49) (B 0))]
abbrev aHe:LD:=[(G 51 6 7,[]),(M 52 11,[]),(lR 53 52,[1]),(H 54 4 53,[1,2]),(E 55 54,[1,2,3]),(M 56 11,[]),(lR 57 56,[5]),(H 58 5 57,[5,6]),(E 59 58,[5,6,7]),(A 60 (.mkif 100 (s 59)),[5,6,7,8]),(W 6 4 51,[0]),(M 5 55,[0,1,2,3,4,10]),(M 6 60,Z12)]
abbrev aHd:LA:=[G 61 6 12,W 6 4 61,lF 5 0,A 6 (m (c .nilIface))]
def g35:LFn:=⟨(Q (O aP7) (Q (O aP6) (Q (O aP5) (Q (Q (O aP4) (C (s 20) (Q (O aP3) .ret) Z)) (Q (O aP2) (Q (O aP1) (Q (Q (D 10 aP0 aAr) (C (s 41) (O aPz) Z)) (Q (Q (O aPy) (C (s 50) (Q (D 14 aHe aAr) .ret) Z)) (Q (O aHd) .ret))))))))),62,[.cell 4 (.agg 6),.slot 5,.slot 6]⟩
theorem aWN:aF Tryz.prog 74=some g35:=Zz
abbrev aPw:LA:=[⟨S 2,N,x (.agg 6) (c (.agg [(.str ⟨#[]⟩),(.sl (.agg 4) .nil []),(I j 0),(I j 0),(.sl (.agg 17) .nil []),(I j 0)]))⟩]
abbrev aPv:LA:=[M 5 0,P 6 117 [s 5],⟨S 7,N,v (.build [(.str ⟨#[]⟩),(.sl (.agg 4) .nil []),(I j 0),(I j 0),(.sl (.agg 17) .nil []),(I j 0)] [(5,F,(s 6))])⟩,⟨S 3,N,x (.agg 6) (c (.agg [(.str ⟨#[]⟩),(.sl (.agg 4) .nil []),(I j 0),(I j 0),(.sl (.agg 17) .nil []),(I j 0)]))⟩,W 6 3 7]
abbrev aPu:LA:=[M 8 0,P 9 118 [s 8,s 3]]
abbrev aPt:LA:=[M 10 0,⟨S 11,N,k 119 [s 10,(c (.str ⟨#[58,45]⟩))]⟩]
abbrev aPs:LA:=[M 12 4,M 13 12,lJ 14 13 0,T 15 13 (n (s 14)),lL 16 13 5 15,lK 17 13 16,T 18 13 (b .eql (s 17) (B 0)),lI 19 13 18]
abbrev aPr:LA:=[H 22 4 3,E 23 22,lP 24 23,A 25 (b .geq (s 24) (B 8))]
abbrev aPq:LA:=[M 26 0,M 27 0,P 28 117 [s 27],P 29 116 [s 26,s 28,(B 3)]]
abbrev aPp:LD:=[(H 30 4 3,[]),(E 31 30,[0]),(M 32 0,[]),(P 33 120 [s 32],[2]),(⟨S 34,N,y (.agg 17) [s 33]⟩,[2,3]),(lS 35 17 224 31 34,Z5),(H 36 4 3,Z6)]
abbrev aHa:LA:=[⟨N,N,t F (s 36) (s 35)⟩]
abbrev aPo:LA:=[M 20 0,⟨S 21,N,k 119 [s 20,(c (.str ⟨#[44]⟩))]⟩,M 4 21]
abbrev aPx:aP:=(Q (Q (O aPs) (C (s 19) Z (X 0))) (Q (K 1 (Q (Q (O aPr) (C (s 25) (Q (O aPq) (X 0)) Z)) (D 7 aPp aHa))) (O aPo)))
abbrev aHc:LA:=[M 37 0,⟨S 38,N,k 121 [s 37,(c (.str ⟨#[46]⟩))]⟩]
abbrev aHb:LA:=[G 39 6 3,W 6 2 39]
def g36:LFn:=⟨(Q (O aPw) (Q (O aPv) (Q (O aPu) (Q (Q (O aPt) (C (s 11) (Q (O aDu) (K 0 (R aPx))) Z)) (Q (O aHc) (Q (O aHb) .ret)))))),40,[.cell 2 (.agg 6)]⟩
theorem aWM:aF Tryz.prog 75=some g36:=Zz
abbrev aHZ:LA:=[Y 1 2 0,lG 2]
abbrev aPn:LA:=[H 3 0 1,E 4 3,P 5 122 [s 4],M 6 5,lL 7 6 1 1,lK 8 6 7,T 9 6 (w (s 8)),T 10 6 (b .leq (s 9) (B 6)),lI 11 6 10,M 12 11,lL 13 12 1 1,lK 14 12 13,⟨S 15,S (12,true),k 123 [s 14,(c (.fn (.func 124) [] []))]⟩,lI 16 12 15,M 2 16]
def g37:LFn:=⟨(Q (O aHZ) (Q (O aPn) .ret)),17,[.slot 2]⟩
theorem aWL:aF Tryz.prog 76=some g37:=Zz
abbrev aPm:LA:=[H 3 2 1,E 4 3,A 5 (b .eql (s 4) (B 0))]
abbrev aPl:LA:=[H 6 3 1,E 7 6,A 8 (b .eql (s 7) (B 0)),M 2 8]
abbrev aPk:LA:=[H 9 2 1,E 10 9,A 11 (b .lss (s 10) (B 0)),M 12 11,lO 13 12 2 1,lN 14 12 13,U 15 12 (b .gtr (s 14) (B 4)),lH 16 12 15,M 17 16,lO 18 17 3 1,lN 19 17 18,U 20 17 (b .lss (s 19) (B 0)),lH 21 17 20,M 22 21,lO 23 22 3 1,lN 24 22 23,lO 25 22 0 1,lO 26 22 1 25,lN 27 22 26,U 28 22 (w (s 27)),U 29 22 (b .geq (s 24) (s 28)),lH 30 22 29]
abbrev aPj:LA:=[H 31 0 1,H 32 1 31,E 33 32,H 34 3 1,E 35 34,lC 36 4 33 35,H 37 0 36,E 38 37,⟨S 39,N,v (b .neq (s 38) (c (.str ⟨#[]⟩)))⟩,M 2 39]
def g38:LFn:=⟨(Q (O aCK) (Q (Q (O aPm) (C (s 5) (Q (O aPl) .ret) Z)) (Q (Q (O aPk) (C (s 30) (Q (O aAh) .ret) Z)) (Q (O aPj) .ret)))),40,[.slot 2]⟩
theorem aWK:aF Tryz.prog 77=some g38:=Zz
abbrev aHY:LA:=[⟨S 3,N,x F (s 1)⟩,lG 4]
abbrev aPi:LA:=[M 5 0,A 6 (.mkfn (.func 126) [] [s 3]),P 7 125 [s 5,s 6],A 8 (.not (s 7)),M 4 8]
def g39:LFn:=⟨(Q (O aHY) (Q (O aPi) .ret)),9,[.slot 4]⟩
theorem aWJ:aF Tryz.prog 78=some g39:=Zz
abbrev aHX:LA:=[Y 1 17 0,lG 2]
abbrev aPh:LA:=[A 7 (b .eql (s 4) (B 2)),M 5 7]
abbrev aPg:LA:=[H 8 1 1,G 9 2 8,P 10 76 [s 9],M 11 10,lL 12 11 3 1,lK 13 11 12,T 14 11 (b .eql (s 13) (B 0)),lI 15 11 14,M 16 15,lL 17 16 4 1,T 18 16 (l (.agg 6) (s 17)),⟨S 19,S (16,true),k 127 [s 18]⟩,lI 20 16 19,M 21 20,lL 22 21 10 1,T 23 21 (l (.agg 6) (s 22)),⟨S 24,S (21,true),k 127 [s 23]⟩,lI 25 21 24,M 2 25]
abbrev aPf:LA:=[A 27 (b .eql (s 4) (B 3)),M 26 27]
abbrev aPe:LA:=[H 28 1 1,H 29 0 28,E 30 29,⟨S 31,N,v (b .eql (s 30) (c (.str ⟨#[]⟩)))⟩,M 32 31,lL 33 32 1 1,lL 34 32 1 33,lK 35 32 34,T 36 32 (w (s 35)),T 37 32 (b .eql (s 36) (B 0)),lI 38 32 37,M 39 38,lL 40 39 3 1,lK 41 39 40,T 42 39 (b .geq (s 41) (B 1)),lI 43 39 42,M 44 43,lL 45 44 3 1,lK 46 44 45,T 47 44 (b .leq (s 46) (B 6)),lI 48 44 47,M 49 48,lL 50 49 4 1,T 51 49 (l (.agg 6) (s 50)),⟨S 52,S (49,true),k 128 [s 51]⟩,lI 53 49 52,M 54 53,lL 55 54 10 1,T 56 54 (l (.agg 6) (s 55)),⟨S 57,S (54,true),k 128 [s 56]⟩,lI 58 54 57,M 2 58]
def g40:LFn:=⟨(Q (O aHX) (Q (Q (O aFT) (K 0 (Q (Q (O aFS) (C (s 5) Z (O aPh))) (C (s 5) (Q (O aPg) .ret) (Q (O aPf) (C (s 26) (Q (O aPe) .ret) Z)))))) (Q (O aAh) .ret))),59,[.slot 2]⟩
theorem aWI:aF Tryz.prog 79=some g40:=Zz
abbrev aPd:LA:=[Y 3 6 0,⟨S 4,N,x F (s 1)⟩,⟨S 5,N,x F (s 2)⟩,A 6 (m (c (.sl F .nil [])))]
abbrev aPc:LA:=[G 7 6 3,P 8 12 [s 7],A 9 (.mkfn (.func 130) [] [s 4,s 5]),P 10 129 [s 8,s 9],M 6 10]
def g41:LFn:=⟨(Q (O aPd) (Q (O aPc) .ret)),11,[.slot 6]⟩
theorem aWH:aF Tryz.prog 80=some g41:=Zz
abbrev aPY:LA:=[Y 1 6 0,A 2 (m (c .aAL))]
abbrev aHW:LA:=[⟨S 8,N,.mp (.mk)⟩,M 3 8]
abbrev aHQ:LA:=[H 9 4 1,E 10 9,lP 11 10,lF 12 0]
abbrev aPX:LA:=[lC 14 17 10 12,G 15 17 14,⟨S 5,N,x (.agg 17) (c (.agg [(I j 0),(.str ⟨#[]⟩),(.sl (.agg 4) .nil []),(I j 0),(I j 0),(.str ⟨#[]⟩),(I j 0),(I j 0),(.str ⟨#[]⟩),(.sl (.agg 6) .nil []),(I j 0),(.str ⟨#[]⟩),(I j 0),(I j 0),(.str ⟨#[]⟩),(.sl (.agg 6) .nil []),(I j 0)]))⟩,W 17 5 15]
abbrev aPW:LA:=[H 16 0 5,E 17 16,A 18 (b .eql (s 17) (B 1))]
abbrev aPV:LA:=[M 19 3,G 20 17 5,P 21 40 [s 20],P 22 86 [s 19,s 21]]
abbrev aPU:LA:=[lB 23 12,M 12 23]
abbrev aPb:aP:=(Q (O aFN) (Q (C (s 13) Z (X 0)) (Q (K 1 (Q (O aPX) (Q (O aPW) (C (s 18) (O aPV) Z)))) (O aPU))))
abbrev aPT:LA:=[H 24 4 1,E 25 24,lP 26 25,lF 27 0]
abbrev aPS:LA:=[lA 28 27 26]
abbrev aHV:LA:=[lC 29 17 25 27,G 30 17 29,⟨S 7,N,x (.agg 17) (c (.agg [(I j 0),(.str ⟨#[]⟩),(.sl (.agg 4) .nil []),(I j 0),(I j 0),(.str ⟨#[]⟩),(I j 0),(I j 0),(.str ⟨#[]⟩),(.sl (.agg 6) .nil []),(I j 0),(.str ⟨#[]⟩),(I j 0),(I j 0),(.str ⟨#[]⟩),(.sl (.agg 6) .nil []),(I j 0)]))⟩,W 17 7 30]
abbrev aHU:LA:=[M 31 3,G 32 17 7,P 33 131 [s 31,s 32]]
abbrev aHT:LA:=[M 34 3,G 35 17 7,P 36 40 [s 35],P 37 86 [s 34,s 36]]
abbrev aHS:LA:=[lB 38 27,M 27 38]
abbrev aPa:aP:=(Q (O aPS) (Q (C (s 28) Z (X 4)) (Q (K 5 (Q (O aHV) (Q (O aHU) (C (s 33) (Q (O aHT) (X 3)) Z)))) (O aHS))))
abbrev aHR:LA:=[M 39 3,M 2 39]
abbrev aPZ:aP:=(K 3 (Q (Q (O aPT) (K 4 (R aPa))) (Q (O aHR) .ret)))
def g42:LFn:=⟨(Q (O aPY) (Q (O aHW) (Q (Q (O aHQ) (K 0 (R aPb))) (Q Z (K 2 (R aPZ)))))),40,[.slot 2]⟩
theorem aWG:aF Tryz.prog 81=some g42:=Zz
abbrev aBM:LA:=[lF 4 0]
abbrev aPQ:LA:=[M 6 0,lP 7 6,lF 8 0]
abbrev aHP:LA:=[lA 9 8 7]
abbrev aPP:LA:=[M 10 8,M 5 10]
abbrev aPO:LA:=[M 11 1,M 12 0,M 13 5,lE 14 12 13,E 15 14,A 16 (b .eql (s 11) (s 15))]
abbrev aPN:LA:=[M 17 5,M 4 17]
abbrev aPM:LA:=[lB 18 8,M 8 18]
abbrev aPR:aP:=(Q (O aHP) (Q (C (s 9) Z (X 0)) (Q (K 1 (Q (O aPP) (Q (O aPO) (C (s 16) (Q (O aPN) .ret) Z)))) (O aPM))))
def g43:LFn:=⟨(Q (O aBM) (Q (Q (O aPQ) (K 0 (R aPR))) (Q (O aEg) .ret))),19,[.slot 4]⟩
theorem aQu:aF Tryz.prog 82=some g43:=Zz
abbrev aPJ:LA:=[M 14 12,M 5 14]
abbrev aPI:LA:=[M 15 4,M 16 5,⟨S 17,N,y F [s 16]⟩,⟨S 18,N,a F 8 (s 15) (s 17)⟩,M 4 18]
abbrev aPH:LA:=[lB 19 12,M 12 19]
abbrev aPL:aP:=(Q (O aFN) (Q (C (s 13) Z (X 0)) (Q (K 1 (Q (O aPJ) (O aPI))) (O aPH))))
abbrev aPG:LA:=[M 20 3,G 21 6 1,M 22 4,P 23 84 [s 20,s 21,s 22],M 6 23]
abbrev aPF:LA:=[M 24 6,A 25 (b .lss (s 24) (B 0))]
abbrev aPE:LA:=[M 26 4,M 27 6,lE 28 26 27,E 29 28,M 7 29]
abbrev aHO:LA:=[M 30 4,M 31 6,M 32 6,lB 33 32,P 34 85 [s 30,s 31,s 33],M 4 34]
abbrev aHN:LA:=[M 35 3,H 36 4 1,E 37 36,M 38 7,lC 39 17 37 38,G 40 17 39,P 41 40 [s 40],P 42 86 [s 35,s 41]]
abbrev aHM:LA:=[M 43 0,M 44 7,G 45 6 1,M 46 3,P 47 80 [s 45,s 46,Bb],⟨S 48,N,.callv (s 43) [s 44,s 47]⟩,A 49 (.not (s 48))]
abbrev aPK:aP:=(K 3 (Q (O aPG) (Q (Q (O aPF) (C (s 25) .ret Z)) (Q (O aPE) (Q (O aHO) (Q (O aHN) (Q (O aHM) (C (s 49) .ret Z))))))))
def g44:LFn:=⟨(Q (O aHW) (Q (O aEB) (Q (Q (O aHQ) (K 0 (R aPL))) (K 2 (R aPK))))),50,[]⟩
theorem aWF:aF Tryz.prog 83=some g44:=Zz
abbrev aPD:LA:=[⟨S 3,N,x F (s 0)⟩,Y 4 6 1,lF 6 0]
abbrev aPC:LA:=[M 8 2,A 9 (.mkfn (.func 133) [] [s 3,s 4]),P 10 132 [s 8,s 9],M 7 10]
abbrev aHL:LA:=[M 11 7,A 12 (b .geq (s 11) (B 0))]
abbrev aPB:LA:=[M 13 7,M 6 13]
abbrev aPA:LA:=[M 14 2,A 15 (.mkfn (.func 135) [] [s 4]),P 16 132 [s 14,s 15],M 6 16]
def g45:LFn:=⟨(Q (O aPD) (Q (Q (O aPC) (Q (O aHL) (C (s 12) (Q (O aPB) .ret) Z))) (Q (O aPA) .ret))),17,[.slot 6]⟩
theorem aWE:aF Tryz.prog 84=some g45:=Zz
abbrev aO8:LA:=[M 6 1,lP 7 6,lF 8 0]
abbrev aO7:LA:=[lE 10 6 8,E 11 10,M 5 11]
abbrev aO6:LA:=[M 12 0,M 13 5,A 14 (.mget F [.str] (I j 0) false (s 12) (s 13)),lB 15 14,⟨N,N,.mp (.put F [.str] (s 12) (s 13) (s 15))⟩]
abbrev aO5:LA:=[lB 16 8,M 8 16]
abbrev aO9:aP:=(Q (O aHP) (Q (C (s 9) Z (X 0)) (Q (K 1 (Q (O aO7) (O aO6))) (O aO5))))
def g46:LFn:=⟨(Q (O aO8) (K 0 (R aO9))),17,[]⟩
theorem aWD:aF Tryz.prog 86=some g46:=Zz
abbrev aO4:LA:=[A 3 (.mkfn (.func 138) [] [s 1]),M 2 3]
def g47:LFn:=⟨(Q (O aHu) (Q (O aO4) .ret)),4,[.slot 2]⟩
theorem aWC:aF Tryz.prog 89=some g47:=Zz
abbrev aO3:LA:=[H 4 0 1,G 5 2 4,P 6 140 [s 5],A 7 (.not (s 6)),M 8 7,lO 9 8 4 1,lN 10 8 9,U 11 8 (w (s 10)),U 12 8 (b .gtr (s 11) (B 8)),lH 13 8 12,M 14 13,lO 15 14 2 1,lN 16 14 15,U 17 14 (b .lss (s 16) (B 0)),lH 18 14 17,M 19 18,lO 20 19 2 1,lN 21 19 20,U 22 19 (b .gtr (s 21) (B 4)),lH 23 19 22]
abbrev aO2:LA:=[H 24 2 1,E 25 24,A 26 (b .eql (s 25) (B 0)),M 27 26,lL 28 27 3 1,lK 29 27 28,T 30 27 (b .neq (s 29) (B 0)),lI 31 27 30,M 32 31,lO 33 32 2 1,lN 34 32 33,U 35 32 (b .gtr (s 34) (B 0)),lM 36 32 35,lL 37 36 3 1,lK 38 36 37,T 39 36 (b .lss (s 38) (B 0)),lJ 40 36 39,lO 41 40 3 1,lN 42 40 41,lO 43 40 0 1,lO 44 40 1 43,lN 45 40 44,U 46 40 (w (s 45)),U 47 40 (b .geq (s 42) (s 46)),T 48 36 (p (s 40) Bb (s 47)),lJ 49 36 48,lO 50 49 0 1,lO 51 49 1 50,lN 52 49 51,lO 53 49 3 1,lN 54 49 53,U 55 49 (i (.agg 4) (s 52) (s 54)),lO 56 49 0 55,lN 57 49 56,U 58 49 (.slen (s 57)),U 59 49 (b .eql (s 58) (B 0)),T 60 36 (p (s 49) Bb (s 59)),U 61 32 (p (s 36) (s 60) Ba),lH 62 32 61]
abbrev aD9:LA:=[lF 3 0]
abbrev aO1:LA:=[M 63 3,H 64 4 1,E 65 64,lP 66 65,lA 67 63 66]
abbrev aO0:LA:=[H 70 4 1,E 71 70,M 72 3,lC 73 17 71 72,G 74 17 73,P 75 141 [s 74],A 76 (.not (s 75))]
abbrev aOz:LA:=[M 68 3,lB 69 68,M 3 69]
abbrev aEh:aP:=(Q (Q (O aO1) (C (s 67) Z (X 0))) (Q (K 1 (Q (O aO0) (C (s 76) (Q (O aAh) .ret) Z))) (O aOz)))
abbrev aDK:LA:=[A 2 (m Bb)]
def g48:LFn:=⟨(Q (O aCK) (Q (Q (O aO3) (C (s 23) (Q (O aAh) .ret) Z)) (Q (Q (O aO2) (C (s 62) (Q (O aAh) .ret) Z)) (Q (Q (O aD9) (K 0 (R aEh))) (Q (O aDK) .ret))))),77,[.slot 2]⟩
theorem aWB:aF Tryz.prog 90=some g48:=Zz
abbrev aOy:LA:=[Y 2 6 0,A 4 (m (c (.sl F .nil [])))]
abbrev aOx:LD:=[(G 5 6 2,[]),(G 6 6 2,[]),(P 7 143 [s 6],[1]),(M 8 1,[]),(P 9 142 [s 5,s 7,s 8],Z4),(M 4 9,Z5)]
def g49:LFn:=⟨(Q (O aOy) (Q (D 6 aOx aAr) .ret)),10,[.slot 4]⟩
theorem aWA:aF Tryz.prog 91=some g49:=Zz
abbrev aOv:LA:=[M 6 5,M 7 1,lP 8 7,lA 9 6 8]
abbrev aOu:LA:=[M 12 0,M 13 1,M 14 5,lE 15 13 14,E 16 15,P 17 49 [s 12,s 16],A 18 (.not (s 17))]
abbrev aOw:aP:=(Q (Q (O aOv) (C (s 9) Z (X 0))) (Q (K 1 (Q (O aOu) (C (s 18) (Q (O aA9) .ret) Z))) (O aFO)))
def g50:LFn:=⟨(Q (O aA9) (Q (Q (O aDL) (K 0 (R aOw))) (Q (O aDu) .ret))),19,[.slot 4]⟩
theorem aV5:aF Tryz.prog 92=some g50:=Zz
abbrev aFM:LA:=[Y 3 17 1,lG 4]
abbrev aHK:LA:=[H 7 0 3,E 8 7,A 9 (b .neq (s 8) (B 3)),M 10 9,lO 11 10 3 3,lN 12 10 11,U 13 10 (b .neq (s 12) (B 1)),lH 14 10 13]
abbrev aOs:LD:=[(H 15 4 3,[]),(G 16 6 15,[0]),(P 17 144 [s 16],[0,1]),(H 18 10 3,[]),(G 19 6 18,[3]),(P 20 144 [s 19],Z5),(M 5 17,Z6),(M 6 20,Z7)]
abbrev aOr:LA:=[M 21 5,A 22 (.slen (s 21)),A 23 (b .gtr (s 22) (B 0)),M 24 23,lJ 25 24 0,lJ 26 24 5,⟨S 27,S (24,true),k 49 [s 25,s 26]⟩,T 28 24 (.not (s 27)),lI 29 24 28,M 30 29,lJ 31 30 0,lL 32 30 10 3,T 33 30 (l (.agg 6) (s 32)),⟨S 34,S (30,true),k 145 [s 33]⟩,⟨S 35,S (30,true),k 92 [s 31,s 34]⟩,lI 36 30 35]
abbrev aOq:LA:=[M 37 6,A 38 (.slen (s 37)),A 39 (b .gtr (s 38) (B 0)),M 40 39,lJ 41 40 0,lJ 42 40 6,⟨S 43,S (40,true),k 49 [s 41,s 42]⟩,T 44 40 (.not (s 43)),lI 45 40 44,M 46 45,lJ 47 46 0,lL 48 46 4 3,T 49 46 (l (.agg 6) (s 48)),⟨S 50,S (46,true),k 145 [s 49]⟩,⟨S 51,S (46,true),k 92 [s 47,s 50]⟩,lI 52 46 51,M 4 52]
def g51:LFn:=⟨(Q (O aFM) (Q (Q (O aHK) (C (s 14) (Q (O aA9) .ret) Z)) (Q (D 8 aOs aAr) (Q (Q (O aOr) (C (s 36) (Q (O aDu) .ret) Z)) (Q (O aOq) .ret))))),53,[.slot 4]⟩
theorem aV4:aF Tryz.prog 93=some g51:=Zz
abbrev aOo:LA:=[M 5 4,M 6 0,lP 7 6,lA 8 5 7]
abbrev aOn:LA:=[M 11 0,M 12 4,lC 13 4 11 12,H 14 0 13,E 15 14,A 16 (.slen (s 15)),A 17 (b .gtr (s 16) (B 0)),M 18 17,lJ 19 18 3,lJ 20 18 0,lJ 21 18 4,T 22 18 (i (.agg 4) (s 20) (s 21)),lL 23 18 0 22,lK 24 18 23,⟨S 25,S (18,true),k 49 [s 19,s 24]⟩,T 26 18 (.not (s 25)),lI 27 18 26]
abbrev aOm:LA:=[M 28 3,M 29 0,M 30 4,lC 31 4 29 30,H 32 0 31,E 33 32,⟨S 34,N,y F [s 33]⟩,⟨S 35,N,a F 16 (s 28) (s 34)⟩,M 3 35]
abbrev aOl:LA:=[M 9 4,lB 10 9,M 4 10]
abbrev aOp:aP:=(Q (Q (O aOo) (C (s 8) Z (X 0))) (Q (K 1 (Q (O aOn) (C (s 27) (O aOm) Z))) (O aOl)))
abbrev aOk:LA:=[M 36 3,M 2 36]
def g52:LFn:=⟨(Q (O aEG) (Q (O aFP) (Q (Q (O aBM) (K 0 (R aOp))) (Q (O aOk) .ret)))),37,[.slot 2]⟩
theorem aV3:aF Tryz.prog 94=some g52:=Zz
abbrev aOj:LD:=[(H 3 10 1,[]),(G 4 6 3,[0]),(H 5 4 1,[]),(G 6 6 5,[2]),(⟨S 7,N,y (.agg 4) []⟩,[]),(H 8 1 1,[]),(H 9 1 8,[5]),(E 10 9,[5,6]),(lS 11 4 48 7 10,[4,5,6,7]),(P 12 146 [s 6,s 11],[2,3,4,5,6,7,8]),(P 13 146 [s 4,s 12],Z10),(M 2 13,Z11)]
def g53:LFn:=⟨(Q (O aHt) (Q (D 12 aOj aAr) .ret)),14,[.slot 2]⟩
theorem aV2:aF Tryz.prog 95=some g53:=Zz
abbrev aOh:LA:=[Y 1 6 0,⟨S 2,N,x (.agg 6) (c (.agg [(I j 0),(.str ⟨#[]⟩),(I j 0),(I j 0),(.str ⟨#[]⟩),(.sl (.agg 6) .nil [])]))⟩]
abbrev aOg:LA:=[H 6 0 1,E 7 6,H 8 1 1,G 9 4 8,⟨S 10,N,v (.build [(I j 0),(.str ⟨#[]⟩),(I j 0),(I j 0),(.str ⟨#[]⟩),(.sl (.agg 6) .nil [])] [(0,F,(s 7)),(1,(.agg 4),(s 9))])⟩,⟨S 3,N,x (.agg 6) (c (.agg [(I j 0),(.str ⟨#[]⟩),(I j 0),(I j 0),(.str ⟨#[]⟩),(.sl (.agg 6) .nil [])]))⟩,W 6 3 10]
abbrev aOf:LA:=[H 11 5 1,E 12 11,lP 13 12,lF 14 0]
abbrev aOe:LA:=[lC 16 6 12 14,G 17 6 16,⟨S 5,N,x (.agg 6) (c (.agg [(I j 0),(.str ⟨#[]⟩),(I j 0),(I j 0),(.str ⟨#[]⟩),(.sl (.agg 6) .nil [])]))⟩,W 6 5 17]
abbrev aOd:LD:=[(H 18 5 3,[]),(E 19 18,[0]),(G 20 6 5,[]),(P 21 96 [s 20],[2]),(⟨S 22,N,y (.agg 6) [s 21]⟩,[2,3]),(lS 23 6 80 19 22,Z5),(H 24 5 3,Z6)]
abbrev aHJ:LA:=[⟨N,N,t F (s 24) (s 23)⟩]
abbrev aOc:LA:=[lB 25 14,M 14 25]
abbrev aOi:aP:=(Q (O aTn) (Q (C (s 15) Z (X 0)) (Q (K 1 (Q (O aOe) (D 7 aOd aHJ))) (O aOc))))
abbrev aOb:LA:=[G 26 6 3,W 6 2 26]
def g54:LFn:=⟨(Q (O aOh) (Q (O aOg) (Q (Q (O aOf) (K 0 (R aOi))) (Q (O aOb) .ret)))),27,[.cell 2 (.agg 6)]⟩
theorem aV1:aF Tryz.prog 96=some g54:=Zz
abbrev aOa:LA:=[M 3 0,A 4 (b .geq (s 3) (B (-2147483647))),M 5 4,lJ 6 5 0,T 7 5 (b .leq (s 6) (B 2147483647)),lI 8 5 7,M 2 8]
def g55:LFn:=⟨(Q (O aAh) (Q (O aOa) .ret)),9,[.slot 2]⟩
theorem aTp:aF Tryz.prog 97=some g55:=Zz
abbrev aOZ:LA:=[A 3 (m (c (.fn (.func 147) [] [])))]
abbrev aOY:LA:=[M 4 0,⟨S 5,N,v (b .neq (s 4) (c (.str ⟨#[]⟩)))⟩,M 6 5,lJ 7 6 0,T 8 6 (.slen (s 7)),T 9 6 (b .leq (s 8) (B 32)),lI 10 6 9,M 11 10,lJ 12 11 0,T 13 11 (.sidx .none (s 12) (B 0)),⟨S 14,S (11,true),k 148 [s 13]⟩,lI 15 11 14,M 16 15,lJ 17 16 0,lJ 18 16 3,⟨S 19,S (16,true),k 149 [s 17,s 18]⟩,T 20 16 (.not (s 19)),lI 21 16 20,M 2 21]
def g56:LFn:=⟨(Q (O aAh) (Q (O aOZ) (Q (O aOY) .ret))),22,[.slot 2]⟩
theorem aTo:aF Tryz.prog 98=some g56:=Zz
abbrev aNX:LA:=[M 7 0,P 8 155 [s 7],M 5 8]
abbrev aNW:LA:=[M 9 1,P 10 155 [s 9],M 6 10]
abbrev aNV:LA:=[M 11 5]
abbrev aNU:LA:=[M 12 6]
abbrev aNT:LA:=[M 13 6]
abbrev aEw:LA:=[lF 4 1]
abbrev aNS:LA:=[M 14 0,M 15 1,lA 16 14 15]
abbrev aGO:LA:=[M 17 0,M 18 1,A 19 (b .gtr (s 17) (s 18))]
def g57:LFn:=⟨(Q (O aBM) (Q (O aNX) (Q (O aNW) (Q (Q (O aNV) (C (s 11) (Q (Q (O aNU) (C (s 12) (Q (O aBM) .ret) Z)) (Q (O aEg) .ret)) Z)) (Q (Q (O aNT) (C (s 13) (Q (O aEw) .ret) Z)) (Q (Q (O aNS) (C (s 16) (Q (O aEg) .ret) Z)) (Q (Q (O aGO) (C (s 19) (Q (O aEw) .ret) Z)) (Q (O aBM) .ret)))))))),20,[.slot 4]⟩
theorem aV0:aF Tryz.prog 108=some g57:=Zz
abbrev aNR:LA:=[H 3 0 1,E 4 3,A 5 (b .eql (s 4) (B 1))]
abbrev aNQ:LA:=[H 6 2 1,E 7 6,A 8 (.slen (s 7)),A 9 (b .eql (s 8) (B 0)),M 10 9,lL 11 10 1 1,lK 12 10 11,T 13 10 (b .geq (s 12) (B (-2147483647))),lI 14 10 13,M 15 14,lL 16 15 1 1,lK 17 15 16,T 18 15 (b .leq (s 17) (B 2147483647)),lI 19 15 18,M 2 19]
abbrev aNP:LA:=[H 20 0 1,E 21 20,A 22 (b .eql (s 21) (B 2)),M 23 22,lL 24 23 1 1,lK 25 23 24,T 26 23 (b .eql (s 25) (B 0)),lI 27 23 26,M 28 27,lL 29 28 2 1,lK 30 28 29,⟨S 31,S (28,true),k 156 [s 30]⟩,lI 32 28 31,M 2 32]
def g58:LFn:=⟨(Q (O aHf) (Q (Q (O aNR) (C (s 5) (Q (O aNQ) .ret) Z)) (Q (O aNP) .ret))),33,[.slot 2]⟩
theorem aVz:aF Tryz.prog 110=some g58:=Zz
abbrev aNN:LA:=[⟨S 2,N,x F (c (.sl (.agg 3) .nil []))⟩,⟨S 3,N,x F (B 0)⟩,⟨S 4,N,x F (c .nilIface)⟩]
abbrev aNM:LA:=[M 8 0,A 9 (.slen (s 8)),A 10 (b .gtr (s 9) (B 4000))]
abbrev aNL:LA:=[A 11 (.mkif 100 (B 3)),⟨N,N,t F (s 2) (c (.sl (.agg 3) .nil []))⟩,⟨N,N,t F (s 3) (B 4000)⟩,⟨N,N,t F (s 4) (s 11)⟩]
abbrev aNK:LA:=[⟨S 5,N,x F (c (.sl (.agg 3) .nil []))⟩]
abbrev aNJ:LA:=[M 12 0,P 13 159 [s 12]]
abbrev aNI:LA:=[⟨S 6,N,x (.agg 3) (c (.agg [(I j 0),(.str ⟨#[]⟩),(I j 0)]))⟩,W 3 6 14]
abbrev aNH:LA:=[M 7 15]
abbrev aNG:LA:=[M 16 7,A 17 (e true (.iface true) (s 16) (c .nilIface))]
abbrev aCV:LD:=[(H 18 2 6,[]),(E 19 18,[0]),(M 20 7,[]),(⟨N,N,t F (s 2) (c (.sl (.agg 3) .nil []))⟩,[]),(⟨N,N,t F (s 3) (s 19)⟩,[0,1,3]),(⟨N,N,t F (s 4) (s 20)⟩,Z5)]
abbrev aDJ:LA:=[]
abbrev aNF:LA:=[E 21 5,G 22 3 6,⟨S 23,N,y (.agg 3) [s 22]⟩,lS 24 3 32 21 23,⟨N,N,t F (s 5) (s 24)⟩]
abbrev aNO:aP:=(K 1 (Q (Q (O aNG) (C (s 17) (Q (D 7 aCV aDJ) .ret) Z)) (O aNF)))
abbrev aGN:LA:=[E 25 5,⟨N,N,t F (s 2) (s 25)⟩,⟨N,N,t F (s 3) (B 0)⟩,⟨N,N,t F (s 4) (c .nilIface)⟩]
def g59:LFn:=⟨(Q (O aNN) (Q (Q (O aNM) (C (s 10) (Q (O aNL) .ret) Z)) (Q (O aNK) (Q (Q (O aNJ) (K 0 (.range (s 13) [14,15] (Q (O aNI) (O aNH)) aNO))) (Q (O aGN) .ret))))),26,[.cell 2 F,.cell 3 F,.cell 4 F]⟩
theorem aVy:aF Tryz.prog 115=some g59:=Zz
abbrev aNE:LA:=[M 6 0,lR 7 6,H 8 5 7,E 9 8,A 10 (b .eql (s 9) (B 0))]
abbrev aND:LA:=[M 11 0,M 12 0,M 13 1,M 14 2,lR 15 11,H 16 4 15,⟨N,N,t F (s 16) (s 13)⟩,lR 17 12,H 18 5 17,⟨N,N,t F (s 18) (s 14)⟩]
abbrev aNC:LA:=[M 19 0,M 20 0,lR 21 20,H 22 0 21,E 23 22,lP 24 23,lR 25 19,H 26 1 25,⟨N,N,t F (s 26) (s 24)⟩]
def g60:LFn:=⟨(Q (O aNE) (C (s 10) (Q (O aND) (O aNC)) Z)),27,[]⟩
theorem aVp:aF Tryz.prog 116=some g60:=Zz
abbrev aNB:LA:=[M 3 0,P 4 160 [s 3,(B 0)],A 5 (.fld F 2 (s 4)),M 2 5]
def g61:LFn:=⟨(Q (O aBj) (Q (O aNB) .ret)),6,[.slot 2]⟩
theorem aVo:aF Tryz.prog 117=some g61:=Zz
abbrev aNA:LA:=[⟨S 2,N,x F (s 0)⟩,⟨S 3,N,x F (s 1)⟩]
abbrev aM9:LD:=[(E 4 3,[]),(E 5 2,[]),(P 6 161 [s 5,(B 2)],[1]),(lR 7 4,Z3),(H 8 0 7,Z4),(H 9 0 8,Z5)]
abbrev aGM:LA:=[⟨N,N,t F (s 9) (s 6)⟩]
abbrev aM8:LA:=[E 10 2,A 11 (.mkfn (.func 163) [] [s 2,s 3]),P 12 162 [s 10,(B 6),s 11]]
def g62:LFn:=⟨(Q (O aNA) (Q (D 6 aM9 aGM) (O aM8))),13,[]⟩
theorem aVn:aF Tryz.prog 118=some g62:=Zz
abbrev aM7:LA:=[M 5 0,M 6 1,P 7 165 [s 5,s 6],A 8 (.not (s 7))]
abbrev aM6:LA:=[M 9 0,lR 10 9,H 11 1 10,E 12 11,lB 13 12,lR 14 9,H 15 1 14,⟨N,N,t F (s 15) (s 13)⟩]
def g63:LFn:=⟨(Q (O aA9) (Q (Q (O aM7) (C (s 8) (Q (O aA9) .ret) Z)) (Q (O aM6) (Q (O aDu) .ret)))),16,[.slot 4]⟩
theorem aVm:aF Tryz.prog 119=some g63:=Zz
abbrev aM5:LA:=[⟨S 2,N,x (.agg 17) (c (.agg [(I j 0),(.str ⟨#[]⟩),(.sl (.agg 4) .nil []),(I j 0),(I j 0),(.str ⟨#[]⟩),(I j 0),(I j 0),(.str ⟨#[]⟩),(.sl (.agg 6) .nil []),(I j 0),(.str ⟨#[]⟩),(I j 0),(I j 0),(.str ⟨#[]⟩),(.sl (.agg 6) .nil []),(I j 0)]))⟩]
abbrev aM4:LA:=[M 5 0,P 6 117 [s 5],⟨S 7,N,v (.build [(I j 0),(.str ⟨#[]⟩),(.sl (.agg 4) .nil []),(I j 0),(I j 0),(.str ⟨#[]⟩),(I j 0),(I j 0),(.str ⟨#[]⟩),(.sl (.agg 6) .nil []),(I j 0),(.str ⟨#[]⟩),(I j 0),(I j 0),(.str ⟨#[]⟩),(.sl (.agg 6) .nil []),(I j 0)] [(0,F,(B 1)),(16,F,(s 6))])⟩,⟨S 3,N,x (.agg 17) (c (.agg [(I j 0),(.str ⟨#[]⟩),(.sl (.agg 4) .nil []),(I j 0),(I j 0),(.str ⟨#[]⟩),(I j 0),(I j 0),(.str ⟨#[]⟩),(.sl (.agg 6) .nil []),(I j 0),(.str ⟨#[]⟩),(I j 0),(I j 0),(.str ⟨#[]⟩),(.sl (.agg 6) .nil []),(I j 0)]))⟩,W 17 3 7]
abbrev aM3:LA:=[M 8 0,P 9 160 [s 8,(B 1)],⟨S 4,N,x (.agg 3) (c (.agg [(I j 0),(.str ⟨#[]⟩),(I j 0)]))⟩,W 3 4 9]
abbrev aM2:LA:=[M 13 0,⟨S 14,N,k 119 [s 13,(c (.str ⟨#[110,111,116]⟩))]⟩,M 12 14]
abbrev aM1:LA:=[H 15 0 3,⟨N,N,t F (s 15) (B 2)⟩]
abbrev aM0:LA:=[M 16 0,P 17 166 [s 16],H 18 1 3,W 2 18 17]
abbrev aMz:LA:=[M 20 0,P 21 160 [s 20,(B 0)],A 22 (.fld F 0 (s 21)),A 23 (b .eql (s 22) (B 2)),M 24 23,lL 25 24 0 4,lK 26 24 25,T 27 24 (b .eql (s 26) (B 5)),lI 28 24 27,M 29 28,lL 30 29 1 4,lK 31 29 30,⟨S 32,S (29,true),v (b .eql (s 31) (c (.str ⟨#[40]⟩)))⟩,lI 33 29 32,M 19 33]
abbrev aMy:LA:=[M 34 0,P 35 166 [s 34],H 36 1 3,W 2 36 35]
abbrev aMx:LA:=[M 10 0,P 11 167 [s 10,s 3]]
abbrev aMw:LA:=[G 37 17 3,W 17 2 37]
def g64:LFn:=⟨(Q (O aM5) (Q (O aM4) (Q (O aM3) (Q (K 0 (Q (O aM2) (C (s 12) (Q (O aM1) (O aM0)) (Q (O aMz) (C (s 19) (O aMy) (O aMx)))))) (Q (O aMw) .ret))))),38,[.cell 2 (.agg 17)]⟩
theorem aVl:aF Tryz.prog 120=some g64:=Zz
abbrev aMv:LA:=[M 4 0,M 5 1,P 6 165 [s 4,s 5],A 7 (.not (s 6))]
abbrev aMu:LA:=[M 8 0,M 9 0,P 10 117 [s 9],P 11 116 [s 8,s 10,(B 2)]]
abbrev aMt:LA:=[M 12 0,lR 13 12,H 14 1 13,E 15 14,lB 16 15,lR 17 12,H 18 1 17,⟨N,N,t F (s 18) (s 16)⟩]
def g65:LFn:=⟨(Q (Q (O aMv) (C (s 7) (Q (O aMu) .ret) Z)) (O aMt)),19,[]⟩
theorem aVk:aF Tryz.prog 121=some g65:=Zz
abbrev aEv:LA:=[M 7 0,P 8 115 [s 7],M 6 8,lQ 9 6 0,lQ 10 6 1,lQ 11 6 2,M 3 9,M 4 10,M 5 11]
abbrev aMs:LA:=[M 12 5,A 13 (e false (.iface true) (s 12) (c .nilIface)),M 14 13,lJ 15 14 3,T 16 14 (w (s 15)),T 17 14 (b .eql (s 16) (B 1)),lI 18 14 17,M 19 18,lJ 20 19 3,T 21 19 (i (.agg 3) (s 20) (B 0)),T 22 19 (l (.agg 3) (s 21)),lJ 23 19 0,⟨S 24,S (19,true),v (.build [(I j 0),(.str ⟨#[]⟩),(I j 0)] [(0,F,(B 2)),(1,F,(s 23))])⟩,T 25 19 (e false (.plain (.agg 3) [.int,.str,.int]) (s 22) (s 24)),lI 26 19 25,M 2 26]
def g66:LFn:=⟨(Q (O aAh) (Q (O aEv) (Q (O aMs) .ret))),27,[.slot 2]⟩
theorem aVj:aF Tryz.prog 122=some g66:=Zz
abbrev aMc:LA:=[M 5 0,A 6 (.mkfn (.func 169) [] [s 3]),P 7 168 [s 5,s 6],A 8 (.not (s 7)),M 4 8]
def g67:LFn:=⟨(Q (O aHY) (Q (O aMc) .ret)),9,[.slot 4]⟩
theorem aVi:aF Tryz.prog 123=some g67:=Zz
abbrev aEu:LA:=[Y 1 4 0,lG 2]
abbrev aMb:LA:=[H 3 0 1,E 4 3,⟨S 5,N,v (b .eql (s 4) (c (.str ⟨#[]⟩)))⟩]
abbrev aMa:LA:=[H 6 1 1,G 7 3 6,P 8 54 [s 7],M 2 8]
abbrev aMZ:LA:=[H 9 0 1,E 10 9,P 11 170 [s 10],M 12 11,lL 13 12 1 1,T 14 12 (l (.agg 3) (s 13)),⟨S 15,S (12,true),v (.build [(I j 0),(I j 0),(.str ⟨#[]⟩)] [])⟩,T 16 12 (e false (.plain (.agg 3) [.int,.int,.str]) (s 14) (s 15)),lI 17 12 16,M 2 17]
def g68:LFn:=⟨(Q (O aEu) (Q (Q (O aMb) (C (s 5) (Q (O aMa) .ret) Z)) (Q (O aMZ) .ret))),18,[.slot 2]⟩
theorem aTm:aF Tryz.prog 124=some g68:=Zz
abbrev aMX:LA:=[Y 2 17 0,lG 3]
abbrev aMW:LA:=[E 4 1,G 5 17 2,⟨S 6,N,.callv (s 4) [s 5]⟩,A 7 (.not (s 6)),M 3 7]
def g69:LFn:=⟨(Q (O aMX) (Q (O aMW) .ret)),8,[.slot 3]⟩
theorem aVh:aF Tryz.prog 126=some g69:=Zz
abbrev aMV:LA:=[H 3 0 1,E 4 3,A 5 (b .eql (s 4) (B 0)),M 6 5,lL 7 6 1 1,T 8 6 (l (.agg 4) (s 7)),⟨S 9,S (6,true),v (.build [(.str ⟨#[]⟩),(I j 0),(I j 0),(.str ⟨#[]⟩)] [])⟩,T 10 6 (e false (.plain (.agg 4) [.str,.int,.int,.str]) (s 8) (s 9)),lI 11 6 10,M 12 11,lL 13 12 5 1,lK 14 12 13,T 15 12 (w (s 14)),T 16 12 (b .eql (s 15) (B 0)),lI 17 12 16,M 2 17]
def g70:LFn:=⟨(Q (O aCK) (Q (O aMV) .ret)),18,[.slot 2]⟩
theorem aVV:aF Tryz.prog 127=some g70:=Zz
abbrev aMU:LA:=[G 3 6 1,P 4 172 [s 3,(B 20)],A 5 (b .geq (s 4) (B 0)),M 2 5]
def g71:LFn:=⟨(Q (O aCK) (Q (O aMU) .ret)),6,[.slot 2]⟩
theorem aTl:aF Tryz.prog 128=some g71:=Zz
abbrev aMS:LA:=[M 8 0,M 9 1,P 10 173 [s 8,s 9],M 5 10]
abbrev aMR:LA:=[M 11 5,A 12 (b .eql (s 11) (B (-1)))]
abbrev aMQ:LA:=[M 13 0,M 4 13]
abbrev aMP:LA:=[M 14 5,lB 15 14,M 6 15]
abbrev aMO:LA:=[M 16 6,M 17 0,lP 18 17,lA 19 16 18]
abbrev aMN:LA:=[M 22 0,M 23 6,lE 24 22 23,E 25 24,M 7 25]
abbrev aMM:LA:=[M 26 1,M 27 7,⟨S 28,N,.callv (s 26) [s 27]⟩,A 29 (.not (s 28))]
abbrev aML:LA:=[M 30 0,M 31 5,M 32 7,lE 33 30 31,⟨N,N,t F (s 33) (s 32)⟩]
abbrev aMK:LA:=[M 34 5,lB 35 34,M 5 35]
abbrev aGJ:LA:=[M 20 6,lB 21 20,M 6 21]
abbrev aMT:aP:=(Q (Q (O aMO) (C (s 19) Z (X 0))) (Q (K 1 (Q (O aMN) (Q (O aMM) (C (s 29) (Q (O aML) (O aMK)) Z)))) (O aGJ)))
abbrev aGI:LA:=[M 36 0,M 37 5,A 38 (.slc F (s 36) (.some (s 37)) .none .none),⟨N,N,.clear F (s 38) (.str ⟨#[]⟩)⟩]
abbrev aGH:LA:=[M 39 0,M 40 5,A 41 (.slc F (s 39) .none (.some (s 40)) .none),M 4 41]
def g72:LFn:=⟨(Q (O aEB) (Q (O aMS) (Q (Q (O aMR) (C (s 12) (Q (O aMQ) .ret) Z)) (Q (Q (O aMP) (K 0 (R aMT))) (Q (O aGI) (Q (O aGH) .ret)))))),42,[.slot 4]⟩
theorem aTk:aF Tryz.prog 129=some g72:=Zz
abbrev aMJ:LA:=[E 5 1,M 6 0,A 7 (.mget F [.str] (I j 0) false (s 5) (s 6)),A 8 (b .gtr (s 7) (B 0)),E 9 2,A 10 (e true (.plain F [.bool]) (s 8) (s 9)),M 4 10]
def g73:LFn:=⟨(Q (O aA9) (Q (O aMJ) .ret)),11,[.slot 4]⟩
theorem aVU:aF Tryz.prog 130=some g73:=Zz
abbrev aMI:LD:=[(H 15 4 3,[]),(G 16 6 15,[0]),(P 17 174 [s 16],[0,1]),(H 18 10 3,[]),(G 19 6 18,[3]),(P 20 174 [s 19],Z5),(M 5 17,Z6),(M 6 20,Z7)]
abbrev aMH:LA:=[M 21 5,⟨S 22,N,v (b .neq (s 21) (c (.str ⟨#[]⟩)))⟩,M 23 22,lJ 24 23 0,lJ 25 23 5,T 26 23 (.mget F [.str] (I j 0) false (s 24) (s 25)),T 27 23 (b .eql (s 26) (B 0)),lI 28 23 27,M 29 28,lJ 30 29 0,lL 31 29 10 3,T 32 29 (l (.agg 6) (s 31)),⟨S 33,S (29,true),k 176 [s 32]⟩,⟨S 34,S (29,true),k 175 [s 30,s 33]⟩,lI 35 29 34,M 36 35,lM 37 36 6,⟨S 38,S (36,false),v (b .neq (s 37) (c (.str ⟨#[]⟩)))⟩,lM 39 36 38,lJ 40 39 0,lJ 41 39 6,T 42 39 (.mget F [.str] (I j 0) false (s 40) (s 41)),T 43 39 (b .eql (s 42) (B 0)),U 44 36 (p (s 39) (s 43) Ba),lM 45 36 44,lJ 46 45 0,lL 47 45 4 3,T 48 45 (l (.agg 6) (s 47)),⟨S 49,S (45,true),k 176 [s 48]⟩,⟨S 50,S (45,true),k 175 [s 46,s 49]⟩,U 51 36 (p (s 45) (s 50) Ba),lH 52 36 51,M 4 52]
def g74:LFn:=⟨(Q (O aFM) (Q (Q (O aHK) (C (s 14) (Q (O aA9) .ret) Z)) (Q (D 8 aMI aAr) (Q (O aMH) .ret)))),53,[.slot 4]⟩
theorem aVT:aF Tryz.prog 131=some g74:=Zz
abbrev aME:LD:=[(E 5 1,[]),(H 6 4 2,[]),(E 7 6,[1]),(M 8 0,[]),(lC 9 17 7 8,[1,2,3]),(G 10 17 9,[1,2,3,4]),(P 11 134 [s 5,s 10],Z6),(M 4 11,Z7)]
def g75:LFn:=⟨(Q (O aA9) (Q (D 8 aME aAr) .ret)),12,[.slot 4]⟩
theorem aVS:aF Tryz.prog 133=some g75:=Zz
abbrev aMD:LA:=[H 5 0 3,E 6 5,A 7 (b .neq (s 6) (B 1)),M 8 7,lJ 9 8 0,T 10 8 (l (.agg 17) (s 3)),⟨S 11,S (8,true),k 40 [s 10]⟩,⟨S 12,S (8,true),k 175 [s 9,s 11]⟩,lI 13 8 12,M 14 13,lM 15 14 0,U 16 14 (l (.agg 17) (s 3)),⟨S 17,S (14,false),k 131 [s 15,s 16]⟩,lH 18 14 17,M 4 18]
def g76:LFn:=⟨(Q (O aFM) (Q (O aMD) .ret)),19,[.slot 4]⟩
theorem aVR:aF Tryz.prog 134=some g76:=Zz
abbrev aEt:LA:=[lG 3]
abbrev aMB:LA:=[H 4 4 1,E 5 4,M 6 0,lC 7 17 5 6,H 8 0 7,E 9 8,A 10 (b .eql (s 9) (B 1)),M 3 10]
def g77:LFn:=⟨(Q (O aEt) (Q (O aMB) .ret)),11,[.slot 3]⟩
theorem aVQ:aF Tryz.prog 135=some g77:=Zz
abbrev aMA:LA:=[G 3 6 1,M 4 0,P 5 139 [s 3,s 4]]
def g78:LFn:=⟨(O aMA),6,[]⟩
theorem aVP:aF Tryz.prog 138=some g78:=Zz
abbrev aL8:LA:=[H 7 5 2,E 8 7,lP 9 8,A 10 (b .eql (s 9) (B 0))]
abbrev aL7:LA:=[M 11 1,H 12 1 2,G 13 4 12,⟨S 14,N,.callv (s 11) [s 13]⟩,M 4 14]
abbrev aL6:LA:=[H 15 5 2,E 16 15,lP 17 16,lF 18 0]
abbrev aL5:LA:=[lA 19 18 17]
abbrev aL4:LA:=[lC 20 6 16 18,G 21 6 20,⟨S 6,N,x (.agg 6) (c (.agg [(I j 0),(.str ⟨#[]⟩),(I j 0),(I j 0),(.str ⟨#[]⟩),(.sl (.agg 6) .nil [])]))⟩,W 6 6 21]
abbrev aL3:LA:=[G 22 6 6,M 23 1,P 24 139 [s 22,s 23],A 25 (.not (s 24))]
abbrev aL2:LA:=[lB 26 18,M 18 26]
abbrev aL9:aP:=(Q (O aL5) (Q (C (s 19) Z (X 0)) (Q (K 1 (Q (O aL4) (Q (O aL3) (C (s 25) (Q (O aA9) .ret) Z)))) (O aL2))))
def g79:LFn:=⟨(Q (O aRu) (Q (Q (O aL8) (C (s 10) (Q (O aL7) .ret) Z)) (Q (Q (O aL6) (K 0 (R aL9))) (Q (O aDu) .ret)))),27,[.slot 4]⟩
theorem aVO:aF Tryz.prog 139=some g79:=Zz
abbrev aL0:LA:=[M 4 3,H 5 1 1,E 6 5,lP 7 6,lA 8 4 7]
abbrev aLz:LA:=[M 11 3,A 12 (b .gtr (s 11) (B 5)),M 13 12,lO 14 13 1 1,lN 15 13 14,lM 16 13 3,U 17 13 (i (.agg 4) (s 15) (s 16)),U 18 13 (l (.agg 4) (s 17)),⟨S 19,S (13,false),k 177 [s 18]⟩,U 20 13 (.not (s 19)),lH 21 13 20]
abbrev aLy:LA:=[M 9 3,lB 10 9,M 3 10]
abbrev aL1:aP:=(Q (Q (O aL0) (C (s 8) Z (X 0))) (Q (K 1 (Q (O aLz) (C (s 21) (Q (O aAh) .ret) Z))) (O aLy)))
abbrev aLx:LA:=[H 22 0 1,E 23 22,P 24 178 [s 23],M 2 24]
def g80:LFn:=⟨(Q (O aHZ) (Q (Q (O aD9) (K 0 (R aL1))) (Q (O aLx) .ret))),25,[.slot 2]⟩
theorem aVH:aF Tryz.prog 140=some g80:=Zz
abbrev aLw:LA:=[H 3 0 1,E 4 3,A 5 (b .eql (s 4) (B 1)),M 6 5,lO 7 6 0 1,lN 8 6 7,U 9 6 (b .eql (s 8) (B 2)),lH 10 6 9]
abbrev aLv:LA:=[H 11 1 1,G 12 2 11,P 13 140 [s 12],M 14 13,lL 15 14 3 1,lK 16 14 15,T 17 14 (b .eql (s 16) (B 0)),lI 18 14 17,M 19 18,lL 20 19 4 1,T 21 19 (l (.agg 6) (s 20)),⟨S 22,S (19,true),k 179 [s 21]⟩,lI 23 19 22,M 24 23,lL 25 24 10 1,T 26 24 (l (.agg 6) (s 25)),⟨S 27,S (24,true),k 179 [s 26]⟩,lI 28 24 27,M 2 28]
abbrev aLu:LA:=[H 29 0 1,E 30 29,A 31 (b .eql (s 30) (B 3)),M 32 31,lL 33 32 1 1,lL 34 32 0 33,lK 35 32 34,T 36 32 (.slen (s 35)),T 37 32 (b .eql (s 36) (B 0)),lI 38 32 37,M 39 38,lL 40 39 1 1,lL 41 39 1 40,lK 42 39 41,T 43 39 (w (s 42)),T 44 39 (b .eql (s 43) (B 0)),lI 45 39 44,M 46 45,lL 47 46 3 1,lK 48 46 47,T 49 46 (b .geq (s 48) (B 1)),lI 50 46 49,M 51 50,lL 52 51 3 1,lK 53 51 52,T 54 51 (b .leq (s 53) (B 6)),lI 55 51 54,M 56 55,lL 57 56 4 1,T 58 56 (l (.agg 6) (s 57)),⟨S 59,S (56,true),k 180 [s 58]⟩,lI 60 56 59,M 61 60,lL 62 61 10 1,T 63 61 (l (.agg 6) (s 62)),⟨S 64,S (61,true),k 180 [s 63]⟩,lI 65 61 64,M 2 65]
def g81:LFn:=⟨(Q (O aHX) (Q (Q (O aLw) (C (s 10) (Q (O aLv) .ret) Z)) (Q (O aLu) .ret))),66,[.slot 2]⟩
theorem aVG:aF Tryz.prog 141=some g81:=Zz
abbrev aLs:LA:=[Y 3 6 0,A 6 (m (c (.sl F .nil [])))]
abbrev aLr:LA:=[A 7 (m (c (.sl F .nil [])))]
abbrev aLq:LA:=[G 10 6 3,P 11 181 [s 10],M 8 11]
abbrev aLp:LA:=[M 12 9,M 13 8,lP 14 13,lA 15 12 14]
abbrev aLo:LA:=[M 18 1,M 19 8,M 20 9,lE 21 19 20,E 22 21,P 23 49 [s 18,s 22],M 24 2,A 25 (e false (.plain F [.bool]) (s 23) (s 24))]
abbrev aLn:LA:=[M 26 7,M 27 8,M 28 9,lE 29 27 28,E 30 29,⟨S 31,N,y F [s 30]⟩,⟨S 32,N,a F 16 (s 26) (s 31)⟩,M 7 32]
abbrev aLm:LA:=[M 16 9,lB 17 16,M 9 17]
abbrev aLt:aP:=(Q (Q (O aLp) (C (s 15) Z (X 0))) (Q (K 1 (Q (O aLo) (C (s 25) (O aLn) Z))) (O aLm)))
abbrev aLl:LA:=[M 33 7,M 6 33]
def g82:LFn:=⟨(Q (O aLs) (Q (O aLr) (Q (O aLq) (Q (Q (O aEi) (K 0 (R aLt))) (Q (O aLl) .ret))))),34,[.slot 6]⟩
theorem aVF:aF Tryz.prog 142=some g82:=Zz
abbrev aLh:LA:=[M 7 4,H 8 4 1,E 9 8,lP 10 9,lA 11 7 10]
abbrev aLg:LA:=[H 14 4 1,E 15 14,M 16 4,lC 17 17 15 16,H 18 0 17,E 19 18,A 20 (b .eql (s 19) (B 1))]
abbrev aLf:LA:=[M 21 3,H 22 4 1,E 23 22,M 24 4,lC 25 17 23 24,G 26 17 25,P 27 48 [s 26],⟨S 28,N,a F 16 (s 21) (s 27)⟩,M 3 28]
abbrev aLe:LA:=[M 12 4,lB 13 12,M 4 13]
abbrev aLk:aP:=(Q (Q (O aLh) (C (s 11) Z (X 0))) (Q (K 1 (Q (O aLg) (C (s 20) (O aLf) Z))) (O aLe)))
abbrev aLd:LA:=[M 29 3,lP 30 29,M 5 30]
abbrev aLc:LA:=[M 31 6,H 32 4 1,E 33 32,lP 34 33,lA 35 31 34]
abbrev aGG:LA:=[M 38 3,H 39 4 1,E 40 39,M 41 6,lC 42 17 40 41,G 43 17 42,P 44 93 [s 38,s 43]]
abbrev aGF:LA:=[M 45 3,H 46 4 1,E 47 46,M 48 6,lC 49 17 47 48,G 50 17 49,P 51 48 [s 50],⟨S 52,N,a F 16 (s 45) (s 51)⟩,M 3 52]
abbrev aGE:LA:=[M 36 6,lB 37 36,M 6 37]
abbrev aLj:aP:=(Q (Q (O aLc) (C (s 35) Z (X 4))) (Q (K 5 (Q (O aGG) (C (s 44) (O aGF) Z))) (O aGE)))
abbrev aGD:LA:=[M 53 3,lP 54 53,M 55 5,A 56 (b .eql (s 54) (s 55))]
abbrev aGC:LA:=[M 57 3,M 2 57]
abbrev aLi:aP:=(K 3 (Q (O aLd) (Q (Q (O aEA) (K 4 (R aLj))) (Q (O aGD) (C (s 56) (Q (O aGC) .ret) Z)))))
def g83:LFn:=⟨(Q (O aEf) (Q (O aFP) (Q (Q (O aBM) (K 0 (R aLk))) (K 2 (R aLi))))),58,[.slot 2]⟩
theorem aVE:aF Tryz.prog 143=some g83:=Zz
abbrev aEs:LA:=[Y 1 6 0,⟨S 2,N,v (m (c (.str ⟨#[]⟩)))⟩]
abbrev aLb:LA:=[H 3 0 1,E 4 3,A 5 (b .eql (s 4) (B 0)),M 6 5,lL 7 6 5 1,lK 8 6 7,T 9 6 (w (s 8)),T 10 6 (b .eql (s 9) (B 0)),lI 11 6 10]
abbrev aEr:LA:=[H 12 1 1,H 13 0 12,E 14 13,M 2 14]
abbrev aDO:LA:=[⟨S 2,N,v (m (c (.str ⟨#[]⟩)))⟩]
def g84:LFn:=⟨(Q (O aEs) (Q (Q (O aLb) (C (s 11) (Q (O aEr) .ret) Z)) (Q (O aDO) .ret))),15,[.slot 2]⟩
theorem aVD:aF Tryz.prog 144=some g84:=Zz
abbrev aLa:LA:=[G 3 6 1,P 4 146 [s 3,(c (.sl (.agg 4) .nil []))],P 5 94 [s 4],M 2 5]
def g85:LFn:=⟨(Q (O aEf) (Q (O aLa) .ret)),6,[.slot 2]⟩
theorem aVC:aF Tryz.prog 145=some g85:=Zz
abbrev aLY:LA:=[Y 2 6 0,A 4 (m (c (.sl (.agg 4) .nil [])))]
abbrev aLX:LA:=[H 6 5 2,E 7 6,lP 8 7,A 9 (b .eql (s 8) (B 0))]
abbrev aLW:LA:=[M 10 1,H 11 1 2,G 12 4 11,⟨S 13,N,y (.agg 4) [s 12]⟩,lS 14 4 48 10 13,M 4 14]
abbrev aLV:LA:=[M 15 5,H 16 5 2,E 17 16,lP 18 17,lA 19 15 18]
abbrev aLU:LA:=[H 22 5 2,E 23 22,M 24 5,lC 25 6 23 24,G 26 6 25,M 27 1,P 28 146 [s 26,s 27],M 1 28]
abbrev aLT:LA:=[M 20 5,lB 21 20,M 5 21]
abbrev aLZ:aP:=(Q (Q (O aLV) (C (s 19) Z (X 0))) (Q (K 1 (O aLU)) (O aLT)))
abbrev aLS:LA:=[M 29 1,M 4 29]
def g86:LFn:=⟨(Q (O aLY) (Q (Q (O aLX) (C (s 9) (Q (O aLW) .ret) Z)) (Q (Q (O aDL) (K 0 (R aLZ))) (Q (O aLS) .ret)))),30,[.slot 4]⟩
theorem aVB:aF Tryz.prog 146=some g86:=Zz
abbrev aLR:LA:=[M 3 0,A 4 (b .geq (s 3) (c (.int .i32 97))),M 5 4,lJ 6 5 0,T 7 5 (b .leq (s 6) (c (.int .i32 122))),lI 8 5 7,M 9 8,lM 10 9 0,U 11 9 (b .geq (s 10) (c (.int .i32 48))),lM 12 9 11,lJ 13 12 0,T 14 12 (b .leq (s 13) (c (.int .i32 57))),U 15 9 (p (s 12) (s 14) Ba),lH 16 9 15,M 17 16,lM 18 17 0,U 19 17 (b .eql (s 18) (c (.int .i32 95))),lH 20 17 19,A 21 (.not (s 20)),M 2 21]
def g87:LFn:=⟨(Q (O aAh) (Q (O aLR) .ret)),22,[.slot 2]⟩
theorem aTj:aF Tryz.prog 147=some g87:=Zz
abbrev aEq:LA:=[M 3 0,A 4 (b .geq (s 3) (c (.int .u8 97))),M 5 4,lJ 6 5 0,T 7 5 (b .leq (s 6) (c (.int .u8 122))),lI 8 5 7,M 2 8]
def g88:LFn:=⟨(Q (O aAh) (Q (O aEq) .ret)),9,[.slot 2]⟩
theorem aTi:aF Tryz.prog 148=some g88:=Zz
abbrev aLQ:LA:=[M 5 0,M 6 1,P 7 182 [s 5,s 6],A 8 (b .geq (s 7) (B 0)),M 4 8]
def g89:LFn:=⟨(Q (O aA9) (Q (O aLQ) .ret)),9,[.slot 4]⟩
theorem aVA:aF Tryz.prog 149=some g89:=Zz
abbrev aLP:LA:=[M 3 0,M 4 0,A 5 (b .neq (s 3) (s 4)),M 2 5]
def g90:LFn:=⟨(Q (O aAh) (Q (O aLP) .ret)),6,[.slot 2]⟩
theorem aU8:aF Tryz.prog 155=some g90:=Zz
abbrev aLN:LA:=[M 6 3,M 7 0,A 8 (.slen (s 7)),lA 9 6 8]
abbrev aLM:LA:=[M 12 0,M 13 3,A 14 (.sidx .none (s 12) (s 13)),M 4 14]
abbrev aLL:LA:=[M 15 4,A 16 (b .geq (s 15) (c (.int .u8 97))),M 17 16,lJ 18 17 4,T 19 17 (b .leq (s 18) (c (.int .u8 122))),lI 20 17 19,M 5 20]
abbrev aLK:LA:=[M 21 5,A 22 (.not (s 21)),M 23 22,lJ 24 23 3,T 25 23 (b .eql (s 24) (B 0)),lJ 26 23 25,lM 27 26 4,U 28 26 (b .geq (s 27) (c (.int .u8 48))),lM 29 26 28,lJ 30 29 4,T 31 29 (b .leq (s 30) (c (.int .u8 57))),U 32 26 (p (s 29) (s 31) Ba),U 33 26 (.not (s 32)),lM 34 26 33,lJ 35 34 4,T 36 34 (b .neq (s 35) (c (.int .u8 95))),U 37 26 (p (s 34) (s 36) Ba),T 38 23 (p (s 26) Bb (s 37)),lI 39 23 38]
abbrev aLJ:LA:=[M 10 3,lB 11 10,M 3 11]
abbrev aLO:aP:=(Q (Q (O aLN) (C (s 9) Z (X 0))) (Q (K 1 (Q (O aLM) (Q (O aLL) (Q (O aLK) (C (s 39) (Q (O aAh) .ret) Z))))) (O aLJ)))
abbrev aLI:LA:=[M 40 0,A 41 (.slen (s 40)),A 42 (b .geq (s 41) (B 1)),M 43 42,lJ 44 43 0,T 45 43 (.slen (s 44)),T 46 43 (b .leq (s 45) (B 32)),lI 47 43 46,M 2 47]
def g91:LFn:=⟨(Q (O aAh) (Q (Q (O aD9) (K 0 (R aLO))) (Q (O aLI) .ret))),48,[.slot 2]⟩
theorem aU7:aF Tryz.prog 156=some g91:=Zz
abbrev aLH:LA:=[⟨S 1,N,x F (s 0)⟩,A 2 (m (c .aAY))]
abbrev aLG:LA:=[A 3 (.mkfn (.func 185) [] [s 1]),M 2 3]
def g92:LFn:=⟨(Q (O aLH) (Q (O aLG) .ret)),4,[.slot 2]⟩
theorem aU6:aF Tryz.prog 159=some g92:=Zz
abbrev aLF:LA:=[⟨S 4,N,x (.agg 3) (c (.agg [(I j 0),(.str ⟨#[]⟩),(I j 0)]))⟩]
abbrev aLE:LD:=[(M 5 0,[]),(lR 6 5,[0]),(H 7 1 6,[0,1]),(E 8 7,Z3),(M 9 1,[]),(A 10 (b .add (s 8) (s 9)),Z5),(M 11 0,[]),(lR 12 11,[6]),(H 13 0 12,[6,7]),(E 14 13,[6,7,8]),(lP 15 14,[6,7,8,9]),(A 16 (b .geq (s 10) (s 15)),Z11)]
abbrev aLD:LA:=[M 17 0,lR 18 17,H 19 2 18,E 20 19,⟨S 21,N,v (.build [(I j 0),(.str ⟨#[]⟩),(I j 0)] [(2,F,(s 20))])⟩,W 3 4 21]
abbrev aLC:LD:=[(M 22 0,[]),(lR 23 22,[0]),(H 24 0 23,[0,1]),(E 25 24,Z3),(M 26 0,[]),(lR 27 26,[4]),(H 28 1 27,[4,5]),(E 29 28,[4,5,6]),(M 30 1,[]),(A 31 (b .add (s 29) (s 30)),[4,5,6,7,8]),(lC 32 3 25 31,Z10),(G 33 3 32,Z11)]
abbrev aGB:LA:=[W 3 4 33]
def g93:LFn:=⟨(Q (O aLF) (Q (Q (D 12 aLE aAr) (C (s 16) (Q (O aLD) .ret) Z)) (Q (D 12 aLC aGB) .ret))),34,[.cell 4 (.agg 3)]⟩
theorem aU5:aF Tryz.prog 160=some g93:=Zz
abbrev aEp:LA:=[⟨S 4,N,v (m (c (.str ⟨#[]⟩)))⟩]
abbrev aEo:LA:=[M 6 0,P 7 160 [s 6,(B 0)],⟨S 5,N,x (.agg 3) (c (.agg [(I j 0),(.str ⟨#[]⟩),(I j 0)]))⟩,W 3 5 7]
abbrev aLB:LA:=[H 8 0 5,E 9 8,M 10 1,A 11 (b .neq (s 9) (s 10))]
abbrev aLA:LA:=[M 12 0,H 13 2 5,E 14 13,P 15 116 [s 12,s 14,(B 2)]]
abbrev aK9:LA:=[M 16 0,lR 17 16,H 18 1 17,E 19 18,lB 20 19,lR 21 16,H 22 1 21,⟨N,N,t F (s 22) (s 20)⟩]
abbrev aK8:LA:=[H 23 1 5,E 24 23,M 4 24]
def g94:LFn:=⟨(Q (O aEp) (Q (O aEo) (Q (Q (O aLB) (C (s 11) (Q (O aLA) (Q (O aEp) .ret)) Z)) (Q (O aK9) (Q (O aK8) .ret))))),25,[.slot 4]⟩
theorem aU4:aF Tryz.prog 161=some g94:=Zz
abbrev aK6:LA:=[M 7 0,⟨S 8,N,k 121 [s 7,(c (.str ⟨#[40]⟩))]⟩]
abbrev aK5:LA:=[M 9 0,⟨S 10,N,k 119 [s 9,(c (.str ⟨#[41]⟩))]⟩]
abbrev aK4:LA:=[M 11 0,lR 12 11,H 13 5 12,E 14 13,A 15 (b .eql (s 14) (B 0))]
abbrev aK3:LA:=[M 18 6,M 19 1,A 20 (b .geq (s 18) (s 19))]
abbrev aK2:LA:=[M 21 0,M 22 0,P 23 117 [s 22],P 24 116 [s 21,s 23,(B 3)]]
abbrev aK1:LA:=[M 25 2,M 26 6,⟨S 27,N,.callv (s 25) [s 26]⟩]
abbrev aK0:LA:=[M 28 0,⟨S 29,N,k 119 [s 28,(c (.str ⟨#[44]⟩))]⟩,A 30 (.not (s 29))]
abbrev aKz:LA:=[M 16 6,lB 17 16,M 6 17]
abbrev aK7:aP:=(Q (Q (O aK4) (C (s 15) Z (X 0))) (Q (K 1 (Q (Q (O aK3) (C (s 20) (Q (O aK2) (X 0)) Z)) (Q (O aK1) (Q (O aK0) (C (s 30) (X 0) Z))))) (O aKz)))
abbrev aEn:LA:=[M 31 0,⟨S 32,N,k 121 [s 31,(c (.str ⟨#[41]⟩))]⟩]
def g95:LFn:=⟨(Q (O aK6) (Q (Q (O aK5) (C (s 10) .ret Z)) (Q Z (Q (Q (O aEA) (K 0 (R aK7))) (O aEn))))),33,[]⟩
theorem aU3:aF Tryz.prog 162=some g95:=Zz
abbrev aKy:LA:=[E 6 1,P 7 160 [s 6,(B 0)],⟨S 4,N,x (.agg 3) (c (.agg [(I j 0),(.str ⟨#[]⟩),(I j 0)]))⟩,W 3 4 7]
abbrev aKx:LD:=[(⟨S 8,N,v (.pslc 4 F (c (.ept (.agg 4) [(.agg [(.str ⟨#[99,111,117,110,116]⟩),(.str ⟨#[115,117,109]⟩),(.str ⟨#[109,105,110]⟩),(.str ⟨#[109,97,120]⟩)])] 0 0)) .none)⟩,[]),(H 9 1 4,[]),(E 10 9,[1]),(P 11 82 [s 8,s 10],Z3),(M 5 11,Z4)]
abbrev aKw:LA:=[H 12 0 4,E 13 12,A 14 (b .neq (s 13) (B 1)),M 15 14,lM 16 15 5,U 17 15 (b .lss (s 16) (B 0)),lH 18 15 17]
abbrev aKv:LD:=[(E 19 2,[]),(E 20 2,[]),(lR 21 20,[1]),(H 22 0 21,[1,2]),(H 23 1 22,[1,2,3]),(E 24 23,[1,2,3,4]),(E 25 1,[]),(P 26 164 [s 25],[6]),(⟨S 27,N,y (.agg 4) [s 26]⟩,[6,7]),(lS 28 4 48 24 27,[1,2,3,4,5,6,7,8]),(lR 29 19,Z10),(H 30 0 29,Z11),(H 31 1 30,Z12)]
abbrev aF9:LA:=[⟨N,N,t F (s 31) (s 28)⟩]
abbrev aKu:LA:=[E 32 2,lR 33 32,H 34 2 33,E 35 34,A 36 (b .gtr (s 35) (B 0))]
abbrev aKt:LA:=[E 37 1,H 38 2 4,E 39 38,P 40 116 [s 37,s 39,(B 2)]]
abbrev aKs:LD:=[(E 41 2,[]),(E 42 2,[]),(M 43 5,[]),(lB 44 43,[2]),(M 45 0,[]),(lR 46 41,[0,2,3]),(H 47 2 46,[0,2,3,5]),(⟨N,N,t F (s 47) (s 44)⟩,[0,2,3,5,6]),(lR 48 42,Z8),(H 49 3 48,Z9),(⟨N,N,t F (s 49) (s 45)⟩,Z10)]
abbrev aKr:LA:=[E 50 1,H 51 1 4,E 52 51,P 53 121 [s 50,s 52]]
abbrev aKq:LA:=[E 54 1,⟨S 55,N,k 121 [s 54,(c (.str ⟨#[40]⟩))]⟩]
abbrev aKp:LD:=[(E 56 2,[]),(E 57 2,[]),(lR 58 57,[1]),(H 59 0 58,[1,2]),(H 60 1 59,[1,2,3]),(E 61 60,[1,2,3,4]),(E 62 1,[]),(P 63 161 [s 62,(B 3)],[6]),(⟨S 64,N,v (.build [(.str ⟨#[]⟩),(I j 0),(I j 0),(.str ⟨#[]⟩)] [(0,F,(s 63))])⟩,[6,7]),(⟨S 65,N,y (.agg 4) [s 64]⟩,[6,7,8]),(lS 66 4 48 61 65,[1,2,3,4,5,6,7,8,9]),(lR 67 56,Z11),(H 68 0 67,Z12),(H 69 1 68,Z13)]
abbrev aF8:LA:=[⟨N,N,t F (s 69) (s 66)⟩]
abbrev aGA:LA:=[E 70 1,⟨S 71,N,k 121 [s 70,(c (.str ⟨#[41]⟩))]⟩]
def g96:LFn:=⟨(Q (O aKy) (Q (D 5 aKx aAr) (Q (Q (O aKw) (C (s 18) (Q (D 13 aKv aF9) .ret) Z)) (Q (Q (O aKu) (C (s 36) (O aKt) Z)) (Q (D 12 aKs aAr) (Q (O aKr) (Q (O aKq) (Q (D 14 aKp aF8) (O aGA))))))))),72,[]⟩
theorem aU2:aF Tryz.prog 163=some g96:=Zz
abbrev aKo:LA:=[⟨S 2,N,x (.agg 4) (c (.agg [(.str ⟨#[]⟩),(I j 0),(I j 0),(.str ⟨#[]⟩)]))⟩]
abbrev aKn:LA:=[lF 3 1]
abbrev aKm:LA:=[M 7 0,⟨S 8,N,k 165 [s 7,(c (.str ⟨#[45]⟩))]⟩]
abbrev aKl:LA:=[M 9 0,⟨S 10,N,k 121 [s 9,(c (.str ⟨#[45]⟩))]⟩]
abbrev aKk:LA:=[A 3 (m (B (-1)))]
abbrev aKj:LA:=[M 11 0,P 12 160 [s 11,(B 0)],⟨S 4,N,x (.agg 3) (c (.agg [(I j 0),(.str ⟨#[]⟩),(I j 0)]))⟩,W 3 4 12]
abbrev aKi:LA:=[H 14 0 4,E 15 14,A 16 (b .eql (s 15) (B 4)),M 13 16]
abbrev aKh:LA:=[M 18 0,P 19 161 [s 18,(B 4)],P 20 188 [s 19],M 17 20,lQ 21 17 0,lQ 22 17 1,M 5 21,M 6 22]
abbrev aKg:LA:=[M 23 6,A 24 (e true (.iface true) (s 23) (c .nilIface))]
abbrev aKf:LA:=[M 25 0,H 26 2 4,E 27 26,P 28 116 [s 25,s 27,(B 2)]]
abbrev aF7:LA:=[M 29 3,M 30 5,A 31 (b .mul (s 29) (s 30)),⟨S 32,N,v (.build [(I j 0),(I j 0),(.str ⟨#[]⟩)] [(0,F,(B 1)),(1,F,(s 31))])⟩,⟨S 33,N,v (.build [(.str ⟨#[]⟩),(I j 0),(I j 0),(.str ⟨#[]⟩)] [(1,(.agg 3),(s 32))])⟩,W 4 2 33]
abbrev aF6:LA:=[M 35 3,A 36 (b .lss (s 35) (B 0)),M 34 36]
abbrev aF5:LA:=[H 38 0 4,E 39 38,A 40 (b .eql (s 39) (B 3)),M 37 40]
abbrev aF4:LA:=[M 41 0,P 42 161 [s 41,(B 3)],⟨S 43,N,v (.build [(.str ⟨#[]⟩),(I j 0),(I j 0),(.str ⟨#[]⟩)] [(0,F,(s 42))])⟩,W 4 2 43]
abbrev aF3:LA:=[H 45 0 4,E 46 45,A 47 (b .eql (s 46) (B 2)),M 44 47]
abbrev aF2:LA:=[M 48 0,P 49 161 [s 48,(B 2)],⟨S 50,N,v (.build [(I j 0),(I j 0),(.str ⟨#[]⟩)] [(0,F,(B 2)),(2,F,(s 49))])⟩,⟨S 51,N,v (.build [(.str ⟨#[]⟩),(I j 0),(I j 0),(.str ⟨#[]⟩)] [(1,(.agg 3),(s 50))])⟩,W 4 2 51]
abbrev aF1:LA:=[M 52 0,H 53 2 4,E 54 53,P 55 116 [s 52,s 54,(B 2)]]
abbrev aF0:LA:=[⟨S 56,N,v (.build [(.str ⟨#[]⟩),(I j 0),(I j 0),(.str ⟨#[]⟩)] [])⟩,W 4 2 56]
def g97:LFn:=⟨(Q (O aKo) (Q (O aKn) (Q (Q (O aKm) (C (s 8) (Q (O aKl) (O aKk)) Z)) (Q (O aKj) (Q (K 0 (Q (O aKi) (C (s 13) (Q (O aKh) (Q (Q (O aKg) (C (s 24) (O aKf) Z)) (Q (O aF7) .ret))) (Q (O aF6) (C (s 34) Z (Q (O aF5) (C (s 37) (Q (O aF4) .ret) (Q (O aF3) (C (s 44) (Q (O aF2) .ret) Z))))))))) (Q (O aF1) (Q (O aF0) .ret))))))),57,[.cell 2 (.agg 4)]⟩
theorem aU1:aF Tryz.prog 164=some g97:=Zz
abbrev aKe:LA:=[H 8 0 5,E 9 8,A 10 (b .eql (s 9) (B 1)),M 11 10,lO 12 11 0 5,lN 13 11 12,U 14 11 (b .eql (s 13) (B 5)),lH 15 11 14,M 16 15,lL 17 16 1 5,lK 18 16 17,lJ 19 16 1,T 20 16 (b .eql (s 18) (s 19)),lI 21 16 20,M 4 21]
def g98:LFn:=⟨(Q (O aA9) (Q (O aEo) (Q (O aKe) .ret))),22,[.slot 4]⟩
theorem aU0:aF Tryz.prog 165=some g98:=Zz
abbrev aKd:LA:=[⟨S 1,N,x F (s 0)⟩,⟨S 2,N,x (.agg 2) (c (.agg [(.str ⟨#[]⟩),(.sl (.agg 4) .nil [])]))⟩]
abbrev aKc:LA:=[E 4 1,P 5 161 [s 4,(B 2)],⟨S 6,N,v (.build [(.str ⟨#[]⟩),(.sl (.agg 4) .nil [])] [(0,F,(s 5))])⟩,⟨S 3,N,x (.agg 2) (c (.agg [(.str ⟨#[]⟩),(.sl (.agg 4) .nil [])]))⟩,W 2 3 6]
abbrev aKb:LA:=[E 7 1,A 8 (.mkfn (.func 189) [] [s 3,s 1]),P 9 162 [s 7,(B 6),s 8]]
abbrev aKa:LA:=[G 10 2 3,W 2 2 10]
def g99:LFn:=⟨(Q (O aKd) (Q (O aKc) (Q (O aKb) (Q (O aKa) .ret)))),11,[.cell 2 (.agg 2)]⟩
theorem aUz:aF Tryz.prog 166=some g99:=Zz
abbrev aKZ:LA:=[M 5 1,lR 6 5,H 7 0 6,⟨N,N,t F (s 7) (B 3)⟩]
abbrev aKY:LA:=[M 8 1,M 9 0,P 10 190 [s 9],lR 11 8,H 12 4 11,W 6 12 10]
abbrev aKX:LA:=[M 13 0,P 14 160 [s 13,(B 0)],⟨S 4,N,x (.agg 3) (c (.agg [(I j 0),(.str ⟨#[]⟩),(I j 0)]))⟩,W 3 4 14]
abbrev aKW:LD:=[(M 15 1,[]),(⟨S 16,N,v (.pslc 6 F (c (.ept (.agg 6) [(.agg [(.str ⟨#[61]⟩),(.str ⟨#[33,61]⟩),(.str ⟨#[60]⟩),(.str ⟨#[60,61]⟩),(.str ⟨#[62]⟩),(.str ⟨#[62,61]⟩)])] 0 0)) .none)⟩,[]),(H 17 1 4,[]),(E 18 17,[2]),(P 19 82 [s 16,s 18],[1,2,3]),(lB 20 19,[1,2,3,4]),(lR 21 15,Z6),(H 22 3 21,Z7)]
abbrev aFz:LA:=[⟨N,N,t F (s 22) (s 20)⟩]
abbrev aKV:LA:=[H 23 0 4,E 24 23,A 25 (b .neq (s 24) (B 5)),M 26 25,lM 27 26 1,U 28 26 (n (s 27)),lO 29 26 3 28,lN 30 26 29,U 31 26 (b .eql (s 30) (B 0)),lH 32 26 31]
abbrev aKU:LA:=[M 33 0,H 34 2 4,E 35 34,P 36 116 [s 33,s 35,(B 2)]]
abbrev aKT:LA:=[M 37 0,H 38 1 4,E 39 38,P 40 121 [s 37,s 39]]
abbrev aKS:LA:=[M 41 1,M 42 0,P 43 190 [s 42],lR 44 41,H 45 10 44,W 6 45 43]
abbrev aKR:LA:=[M 46 0,lR 47 46,H 48 5 47,E 49 48,A 50 (b .eql (s 49) (B 0)),M 51 50,lJ 52 51 1,T 53 51 (n (s 52)),lL 54 51 4 53,T 55 51 (l (.agg 6) (s 54)),⟨S 56,S (51,true),k 128 [s 55]⟩,lJ 57 51 56,lJ 58 57 1,T 59 57 (n (s 58)),lL 60 57 10 59,T 61 57 (l (.agg 6) (s 60)),⟨S 62,S (57,true),k 128 [s 61]⟩,T 63 51 (p (s 57) (s 62) Ba),T 64 51 (.not (s 63)),lI 65 51 64]
abbrev aKQ:LA:=[M 66 0,M 67 1,lR 68 67,H 69 16 68,E 70 69,P 71 116 [s 66,s 70,(B 4)]]
def aT6:LFn:=⟨(Q (O aKZ) (Q (O aKY) (Q (O aKX) (Q (D 8 aKW aFz) (Q (Q (O aKV) (C (s 32) (Q (O aKU) .ret) Z)) (Q (O aKT) (Q (O aKS) (Q (O aKR) (C (s 65) (O aKQ) Z))))))))),72,[]⟩
theorem aS9:aF Tryz.prog 167=some aT6:=Zz
abbrev aKP:LA:=[Y 2 4 0,lG 3]
abbrev aKO:LA:=[E 4 1,G 5 4 2,⟨S 6,N,.callv (s 4) [s 5]⟩,A 7 (.not (s 6)),M 3 7]
def aXN:LFn:=⟨(Q (O aKP) (Q (O aKO) .ret)),8,[.slot 3]⟩
theorem aS8:aF Tryz.prog 169=some aXN:=Zz
abbrev aKN:LA:=[M 12 5,A 13 (e false (.iface true) (s 12) (c .nilIface)),M 14 13,lJ 15 14 3,T 16 14 (w (s 15)),T 17 14 (b .eql (s 16) (B 1)),lI 18 14 17,M 19 18,lJ 20 19 3,T 21 19 (i (.agg 3) (s 20) (B 0)),T 22 19 (l (.agg 3) (s 21)),lJ 23 19 0,⟨S 24,S (19,true),v (.build [(I j 0),(.str ⟨#[]⟩),(I j 0)] [(0,F,(B 3)),(1,F,(s 23))])⟩,T 25 19 (e false (.plain (.agg 3) [.int,.str,.int]) (s 22) (s 24)),lI 26 19 25,M 2 26]
def aT5:LFn:=⟨(Q (O aAh) (Q (O aEv) (Q (O aKN) .ret))),27,[.slot 2]⟩
theorem aNY:aF Tryz.prog 170=some aT5:=Zz
abbrev aKM:LA:=[H 7 0 2,E 8 7,A 9 (b .eql (s 8) (B 0)),M 10 9,lL 11 10 5 2,lK 12 10 11,T 13 10 (w (s 12)),T 14 10 (b .eql (s 13) (B 0)),lI 15 10 14,M 16 15,lL 17 16 1 2,T 18 16 (l (.agg 4) (s 17)),⟨S 19,S (16,true),k 124 [s 18]⟩,lI 20 16 19]
abbrev aKL:LA:=[H 21 0 2,E 22 21,A 23 (b .lss (s 22) (B 1)),M 24 23,lO 25 24 0 2,lN 26 24 25,U 27 24 (b .gtr (s 26) (B 3)),lH 28 24 27,M 29 28,lO 30 29 5 2,lN 31 29 30,U 32 29 (w (s 31)),U 33 29 (b .neq (s 32) (B 2)),lH 34 29 33,M 35 34,lO 36 35 1 2,U 37 35 (l (.agg 4) (s 36)),⟨S 38,S (35,false),v (.build [(.str ⟨#[]⟩),(I j 0),(I j 0),(.str ⟨#[]⟩)] [])⟩,U 39 35 (e true (.plain (.agg 4) [.str,.int,.int,.str]) (s 37) (s 38)),lH 40 35 39,M 41 40,lM 42 41 1,U 43 41 (b .eql (s 42) (B 0)),lH 44 41 43]
abbrev aKK:LD:=[(H 45 5 2,[]),(E 46 45,[0]),(A 47 (i (.agg 6) (s 46) (B 0)),[0,1]),(G 48 6 47,Z3),(M 49 1,[]),(A 50 (b .sub (s 49) (B 1)),[4]),(P 51 172 [s 48,s 50],Z6),(H 52 5 2,[]),(E 53 52,[7]),(A 54 (i (.agg 6) (s 53) (B 1)),[7,8]),(G 55 6 54,[7,8,9]),(M 56 1,[]),(A 57 (b .sub (s 56) (B 1)),[11]),(P 58 172 [s 55,s 57],Z13),(M 5 51,Z14),(M 6 58,Z15)]
abbrev aKJ:LA:=[M 59 5,A 60 (b .lss (s 59) (B 0)),M 61 60,lM 62 61 6,U 63 61 (b .lss (s 62) (B 0)),lH 64 61 63]
abbrev aKI:LA:=[M 65 5,M 66 6,A 67 (.mnx true (s 65) (s 66)),A 68 (b .add (B 1) (s 67)),M 4 68]
def aT4:LFn:=⟨(Q (O aQP) (Q (Q (O aKM) (C (s 20) (Q (O aBM) .ret) Z)) (Q (Q (O aKL) (C (s 44) (Q (O aEg) .ret) Z)) (Q (D 16 aKK aAr) (Q (Q (O aKJ) (C (s 64) (Q (O aEg) .ret) Z)) (Q (O aKI) .ret)))))),69,[.slot 4]⟩
theorem aGP:aF Tryz.prog 172=some aT4:=Zz
abbrev aKF:LA:=[H 3 0 1,E 4 3,A 5 (b .neq (s 4) (B 0)),M 6 5,lO 7 6 5 1,lN 8 6 7,U 9 6 (w (s 8)),U 10 6 (b .gtr (s 9) (B 0)),lH 11 6 10]
def aXM:LFn:=⟨(Q (O aEs) (Q (Q (O aKF) (C (s 11) (Q (O aDO) .ret) Z)) (Q (O aEr) .ret))),15,[.slot 2]⟩
theorem aS7:aF Tryz.prog 174=some aXM:=Zz
abbrev aKE:LA:=[⟨S 2,N,x F (s 0)⟩,lG 4]
abbrev aKD:LA:=[M 5 1,A 6 (.mkfn (.func 193) [] [s 2]),P 7 192 [s 5,s 6],A 8 (.not (s 7)),M 4 8]
def aXL:LFn:=⟨(Q (O aKE) (Q (O aKD) .ret)),9,[.slot 4]⟩
theorem aS6:aF Tryz.prog 175=some aXL:=Zz
abbrev aKC:LA:=[G 3 6 1,P 4 89 [s 3],P 5 88 [s 4],P 6 44 [(c (.sl F .nil [])),s 5],M 2 6]
def aXK:LFn:=⟨(Q (O aEf) (Q (O aKC) .ret)),7,[.slot 2]⟩
theorem aS5:aF Tryz.prog 176=some aXK:=Zz
abbrev aKB:LA:=[H 3 0 1,E 4 3,A 5 (.slen (s 4)),A 6 (b .eql (s 5) (B 0))]
abbrev aKA:LA:=[H 7 1 1,G 8 3 7,P 9 110 [s 8],M 2 9]
abbrev aJ9:LA:=[H 10 0 1,E 11 10,P 12 194 [s 11],M 13 12,lL 14 13 1 1,T 15 13 (l (.agg 3) (s 14)),⟨S 16,S (13,true),v (.build [(I j 0),(I j 0),(.str ⟨#[]⟩)] [])⟩,T 17 13 (e false (.plain (.agg 3) [.int,.int,.str]) (s 15) (s 16)),lI 18 13 17,M 2 18]
def aXJ:LFn:=⟨(Q (O aEu) (Q (Q (O aKB) (C (s 6) (Q (O aKA) .ret) Z)) (Q (O aJ9) .ret))),19,[.slot 2]⟩
theorem aS4:aF Tryz.prog 177=some aXJ:=Zz
abbrev aJ8:LA:=[M 3 0,P 4 195 [s 3,(B 2)],M 2 4]
def aXI:LFn:=⟨(Q (O aAh) (Q (O aJ8) .ret)),5,[.slot 2]⟩
theorem aS3:aF Tryz.prog 178=some aXI:=Zz
abbrev aJ7:LA:=[H 3 0 1,E 4 3,A 5 (b .eql (s 4) (B 0)),M 6 5,lL 7 6 5 1,lK 8 6 7,T 9 6 (w (s 8)),T 10 6 (b .eql (s 9) (B 0)),lI 11 6 10,M 12 11,lL 13 12 1 1,T 14 12 (l (.agg 4) (s 13)),⟨S 15,S (12,true),v (.build [(.str ⟨#[]⟩),(I j 0),(I j 0),(.str ⟨#[]⟩)] [])⟩,T 16 12 (e false (.plain (.agg 4) [.str,.int,.int,.str]) (s 14) (s 15)),lI 17 12 16,M 2 17]
def aXH:LFn:=⟨(Q (O aCK) (Q (O aJ7) .ret)),18,[.slot 2]⟩
theorem aS2:aF Tryz.prog 179=some aXH:=Zz
abbrev aJ6:LA:=[G 3 6 1,P 4 196 [s 3,(B 20)],M 2 4]
def aXF:LFn:=⟨(Q (O aCK) (Q (O aJ6) .ret)),5,[.slot 2]⟩
theorem aSy:aF Tryz.prog 180=some aXF:=Zz
abbrev aJ4:LA:=[⟨S 5,N,y (.agg 4) []⟩,H 6 0 1,H 7 1 6,E 8 7,lS 9 4 48 5 8,M 3 9]
abbrev aJ3:LA:=[M 10 4,H 11 4 1,E 12 11,lP 13 12,lA 14 10 13]
abbrev aJ2:LA:=[M 17 3,H 18 4 1,E 19 18,M 20 4,lC 21 17 19 20,G 22 17 21,P 23 95 [s 22],lS 24 4 48 17 23,M 3 24]
abbrev aJ1:LA:=[M 15 4,lB 16 15,M 4 16]
abbrev aJ5:aP:=(Q (Q (O aJ3) (C (s 14) Z (X 0))) (Q (K 1 (O aJ2)) (O aJ1)))
abbrev aJ0:LA:=[M 25 3,P 26 94 [s 25],M 2 26]
def aXE:LFn:=⟨(Q (O aEf) (Q (O aJ4) (Q (Q (O aBM) (K 0 (R aJ5))) (Q (O aJ0) .ret)))),27,[.slot 2]⟩
theorem aSx:aF Tryz.prog 181=some aXE:=Zz
abbrev aJz:LA:=[M 5 0,M 6 1,P 7 197 [s 5,s 6,Bb],M 4 7]
def aT3:LFn:=⟨(Q (O aBM) (Q (O aJz) .ret)),8,[.slot 4]⟩
theorem aSw:aF Tryz.prog 182=some aT3:=Zz
abbrev aJy:LA:=[E 5 1,P 6 186 [s 5,(B 0)],M 3 6]
abbrev aJx:LA:=[M 7 3,E 8 1,A 9 (.slen (s 8)),lA 10 7 9]
abbrev aJw:LA:=[E 11 1,M 12 3,A 13 (.slcs (s 11) (.some (s 12)) .none),P 14 187 [s 13],⟨S 4,N,x (.agg 3) (c (.agg [(I j 0),(.str ⟨#[]⟩),(I j 0)]))⟩,W 3 4 14]
abbrev aJv:LA:=[M 15 3,H 16 2 4,⟨N,N,t F (s 16) (s 15)⟩]
abbrev aDP:LA:=[H 17 0 4,E 18 17,A 19 (b .eql (s 18) (B 0))]
abbrev aJu:LA:=[M 20 0,M 21 3,⟨S 22,N,v (.build [(I j 0),(.str ⟨#[]⟩),(I j 0)] [(2,F,(s 21))])⟩,A 23 (.mkif 100 (B 2)),⟨S 24,N,.callv (s 20) [s 22,s 23]⟩]
abbrev aJt:LA:=[M 25 0,G 26 3 4,⟨S 27,N,.callv (s 25) [s 26,(c .nilIface)]⟩,A 28 (.not (s 27))]
abbrev aJs:LA:=[E 29 1,M 30 3,H 31 1 4,E 32 31,A 33 (.slen (s 32)),A 34 (b .add (s 30) (s 33)),P 35 186 [s 29,s 34],M 3 35]
abbrev aDQ:aP:=(Q (Q (O aJx) (C (s 10) Z (X 0))) (K 1 (Q (O aJw) (Q (O aJv) (Q (Q (O aDP) (C (s 19) (Q (O aJu) .ret) Z)) (Q (Q (O aJt) (C (s 28) .ret Z)) (O aJs)))))))
def aXD:LFn:=⟨(Q (O aJy) (K 0 (R aDQ))),36,[]⟩
theorem aSv:aF Tryz.prog 185=some aXD:=Zz
abbrev aJq:LA:=[M 9 1,M 10 0,A 11 (.slen (s 10)),lA 12 9 11]
abbrev aJp:LA:=[M 13 0,M 14 1,A 15 (.sidx .none (s 13) (s 14)),M 5 15]
abbrev aJo:LA:=[M 18 5,⟨S 19,N,k 198 [(c (.str ⟨#[9,10,13,32]⟩)),s 18]⟩,A 20 (b .geq (s 19) (B 0)),M 17 20]
abbrev aJn:LA:=[M 21 1,lB 22 21,M 1 22]
abbrev aJm:LA:=[M 24 5,A 25 (b .eql (s 24) (c (.int .u8 37))),M 23 25]
abbrev aJl:LA:=[M 27 0,M 28 1,A 29 (.slcs (s 27) (.some (s 28)) .none),⟨S 30,N,k 199 [s 29,(c (.str ⟨#[10]⟩))]⟩,M 26 30,lQ 31 26 0,lQ 32 26 1,lQ 33 26 2,M 6 31,M 7 32,M 8 33]
abbrev aJk:LA:=[M 34 1,M 35 6,A 36 (.slen (s 35)),A 37 (b .add (s 34) (s 36)),M 1 37]
abbrev aJj:LA:=[M 16 1,M 4 16]
abbrev aJr:aP:=(Q (Q (O aJq) (C (s 12) Z (X 0))) (K 1 (Q (O aJp) (K 2 (Q (O aJo) (C (s 17) (O aJn) (Q (O aJm) (C (s 23) (Q (O aJl) (O aJk)) (Q (O aJj) .ret)))))))))
abbrev aJi:LA:=[M 38 1,M 4 38]
def aXC:LFn:=⟨(Q (O aBM) (Q (K 0 (R aJr)) (Q (O aJi) .ret))),39,[.slot 4]⟩
theorem aSu:aF Tryz.prog 186=some aXC:=Zz
abbrev aJg:LA:=[⟨S 2,N,x (.agg 3) (c (.agg [(I j 0),(.str ⟨#[]⟩),(I j 0)]))⟩]
abbrev aJf:LA:=[M 6 0,P 7 200 [s 6],M 3 7]
abbrev aJe:LA:=[M 8 3,A 9 (b .gtr (s 8) (B 0)),M 10 9,lJ 11 10 0,T 12 10 (.sidx .none (s 11) (B 0)),T 13 10 (b .neq (s 12) (c (.int .u8 95))),lI 14 10 13]
abbrev aJd:LD:=[(M 15 0,[]),(M 16 3,[]),(A 17 (.slcs (s 15) .none (.some (s 16))),[0,1]),(P 18 201 [s 17],Z3),(M 19 0,[]),(M 20 3,[]),(A 21 (.slcs (s 19) .none (.some (s 20))),[4,5]),(⟨S 22,N,v (.build [(I j 0),(.str ⟨#[]⟩),(I j 0)] [(0,F,(s 18)),(1,F,(s 21))])⟩,Z7)]
abbrev aFx:LA:=[W 3 2 22]
abbrev aJc:LA:=[⟨S 23,N,v (l (.agg 14) (c (.ept (.agg 14) [(.agg [(.str ⟨#[58,45]⟩),(.str ⟨#[33,61]⟩),(.str ⟨#[60,61]⟩),(.str ⟨#[62,61]⟩),(.str ⟨#[40]⟩),(.str ⟨#[41]⟩),(.str ⟨#[44]⟩),(.str ⟨#[46]⟩),(.str ⟨#[61]⟩),(.str ⟨#[60]⟩),(.str ⟨#[62]⟩),(.str ⟨#[43]⟩),(.str ⟨#[45]⟩),(.str ⟨#[42]⟩)])] 0 0)))⟩,lF 24 0]
abbrev aJb:LA:=[A 25 (b .lss (s 24) (B 14))]
abbrev aJa:LA:=[A 26 (.sidx (.some 14) (s 23) (s 24)),M 5 26]
abbrev aJZ:LA:=[M 27 0,M 28 5,P 29 202 [s 27,s 28]]
abbrev aJY:LA:=[M 30 5,⟨S 31,N,v (.build [(I j 0),(.str ⟨#[]⟩),(I j 0)] [(0,F,(B 5)),(1,F,(s 30))])⟩,W 3 2 31]
abbrev aJX:LA:=[lB 32 24,M 24 32]
abbrev aJh:aP:=(Q (O aJb) (Q (C (s 25) Z (X 0)) (Q (K 1 (Q (O aJa) (Q (O aJZ) (C (s 29) (Q (O aJY) .ret) Z)))) (O aJX))))
abbrev aFy:LA:=[⟨S 33,N,v (.build [(I j 0),(.str ⟨#[]⟩),(I j 0)] [])⟩,W 3 2 33]
def aXB:LFn:=⟨(Q (O aJg) (Q (Q (O aJf) (Q (O aJe) (C (s 14) (Q (D 8 aJd aFx) .ret) Z))) (Q (Q (O aJc) (K 0 (R aJh))) (Q (O aFy) .ret)))),34,[.cell 2 (.agg 3)]⟩
theorem aSt:aF Tryz.prog 187=some aXB:=Zz
abbrev aJW:LA:=[lF 2 0,A 3 (m (c .nilIface))]
abbrev aJV:LA:=[M 7 0,P 8 203 [s 7],M 6 8,lQ 9 6 0,lQ 10 6 1,M 4 9,M 5 10]
abbrev aJU:LA:=[M 11 5,A 12 (e true (.iface true) (s 11) (c .nilIface))]
abbrev aJT:LA:=[M 13 4,M 14 0,M 15 5,⟨S 16,N,k 204 [(c (.str ⟨#[65,116,111,105]⟩)),s 14,(B 0),(B 0),s 15]⟩,M 2 13,M 3 16]
abbrev aJS:LA:=[M 17 4,M 2 17,A 3 (m (c .nilIface))]
def aT2:LFn:=⟨(Q (O aJW) (Q (O aJV) (Q (Q (O aJU) (C (s 12) (Q (O aJT) .ret) Z)) (Q (O aJS) .ret)))),18,[.slot 2,.slot 3]⟩
theorem aEF:aF Tryz.prog 188=some aT2:=Zz
abbrev aJR:LD:=[(H 4 1 1,[]),(E 5 4,[0]),(E 6 2,[]),(P 7 164 [s 6],[2]),(⟨S 8,N,y (.agg 4) [s 7]⟩,[2,3]),(lS 9 4 48 5 8,Z5),(H 10 1 1,Z6)]
abbrev aFw:LA:=[⟨N,N,t F (s 10) (s 9)⟩]
def aT1:LFn:=⟨(D 7 aJR aFw),11,[]⟩
theorem aSs:aF Tryz.prog 189=some aT1:=Zz
abbrev aDM:LA:=[⟨S 2,N,x (.agg 6) (c (.agg [(I j 0),(.str ⟨#[]⟩),(I j 0),(I j 0),(.str ⟨#[]⟩),(.sl (.agg 6) .nil [])]))⟩]
abbrev aJP:LA:=[M 4 0,P 5 205 [s 4],⟨S 3,N,x (.agg 6) (c (.agg [(I j 0),(.str ⟨#[]⟩),(I j 0),(I j 0),(.str ⟨#[]⟩),(.sl (.agg 6) .nil [])]))⟩,W 6 3 5]
abbrev aJO:LA:=[M 8 0,⟨S 9,N,k 119 [s 8,(c (.str ⟨#[43]⟩))]⟩,M 7 9]
abbrev aJN:LD:=[(G 10 6 3,[]),(M 11 0,[]),(P 12 205 [s 11],[1]),(⟨S 13,N,y (.agg 6) [s 10,s 12]⟩,Z3),(⟨S 14,N,v (.build [(I j 0),(.str ⟨#[]⟩),(I j 0),(I j 0),(.str ⟨#[]⟩),(.sl (.agg 6) .nil [])] [(0,F,(B 1)),(5,F,(s 13))])⟩,Z4)]
abbrev aFv:LA:=[W 6 3 14]
abbrev aJM:LA:=[M 16 0,⟨S 17,N,k 119 [s 16,(c (.str ⟨#[45]⟩))]⟩,M 15 17]
abbrev aJL:LD:=[(G 18 6 3,[]),(M 19 0,[]),(P 20 205 [s 19],[1]),(⟨S 21,N,y (.agg 6) [s 18,s 20]⟩,Z3),(⟨S 22,N,v (.build [(I j 0),(.str ⟨#[]⟩),(I j 0),(I j 0),(.str ⟨#[]⟩),(.sl (.agg 6) .nil [])] [(0,F,(B 2)),(5,F,(s 21))])⟩,Z4)]
abbrev aFu:LA:=[W 6 3 22]
abbrev aJK:LA:=[G 6 6 3,W 6 2 6]
abbrev aJQ:aP:=(K 1 (K 2 (Q (O aJO) (C (s 7) (D 5 aJN aFv) (Q (O aJM) (C (s 15) (D 5 aJL aFu) (Q (O aJK) .ret)))))))
def aT0:LFn:=⟨(Q (O aDM) (Q (O aJP) (K 0 (R aJQ)))),23,[.cell 2 (.agg 6)]⟩
theorem aSr:aF Tryz.prog 190=some aT0:=Zz
abbrev aJJ:LA:=[E 4 1,M 5 0,A 6 (.mget F [.str] (I j 0) false (s 4) (s 5)),A 7 (b .eql (s 6) (B 0)),M 3 7]
def aXA:LFn:=⟨(Q (O aEt) (Q (O aJJ) .ret)),8,[.slot 3]⟩
theorem aSq:aF Tryz.prog 193=some aXA:=Zz
abbrev aJI:LA:=[M 3 0,P 4 195 [s 3,(B 3)],M 2 4]
def aW8:LFn:=⟨(Q (O aAh) (Q (O aJI) .ret)),5,[.slot 2]⟩
theorem aSd:aF Tryz.prog 194=some aW8:=Zz
abbrev aJH:LA:=[M 9 0,P 10 206 [s 9],M 8 10,lQ 11 8 0,lQ 12 8 1,lQ 13 8 2,M 5 11,M 6 12,M 7 13]
abbrev aJG:LA:=[M 14 7,A 15 (b .eql (s 14) (B 0)),M 16 15,lJ 17 16 5,T 18 16 (w (s 17)),T 19 16 (b .eql (s 18) (B 1)),lI 20 16 19,M 21 20,lJ 22 21 5,T 23 21 (i (.agg 3) (s 22) (B 0)),lL 24 21 0 23,lK 25 21 24,lJ 26 21 1,T 27 21 (b .eql (s 25) (s 26)),lI 28 21 27,M 29 28,lJ 30 29 5,T 31 29 (i (.agg 3) (s 30) (B 0)),lL 32 29 1 31,lK 33 29 32,lJ 34 29 0,T 35 29 (b .eql (s 33) (s 34)),lI 36 29 35,M 4 36]
def aW7:LFn:=⟨(Q (O aA9) (Q (O aJH) (Q (O aJG) .ret))),37,[.slot 4]⟩
theorem aSc:aF Tryz.prog 195=some aW7:=Zz
abbrev aJF:LA:=[H 5 0 2,E 6 5,A 7 (b .eql (s 6) (B 0))]
abbrev aJE:LA:=[H 8 5 2,E 9 8,lP 10 9,A 11 (b .eql (s 10) (B 0)),M 12 11,lL 13 12 1 2,T 14 12 (l (.agg 4) (s 13)),⟨S 15,S (12,true),k 177 [s 14]⟩,lI 16 12 15,M 4 16]
abbrev aJD:LA:=[M 17 1,A 18 (b .gtr (s 17) (B 0)),M 19 18,lL 20 19 0 2,lK 21 19 20,T 22 19 (b .geq (s 21) (B 1)),lI 23 19 22,M 24 23,lL 25 24 0 2,lK 26 24 25,T 27 24 (b .leq (s 26) (B 3)),lI 28 24 27,M 29 28,lL 30 29 5 2,lK 31 29 30,T 32 29 (w (s 31)),T 33 29 (b .eql (s 32) (B 2)),lI 34 29 33,M 35 34,lL 36 35 1 2,T 37 35 (l (.agg 4) (s 36)),⟨S 38,S (35,true),v (.build [(.str ⟨#[]⟩),(I j 0),(I j 0),(.str ⟨#[]⟩)] [])⟩,T 39 35 (e false (.plain (.agg 4) [.str,.int,.int,.str]) (s 37) (s 38)),lI 40 35 39,M 41 40,lL 42 41 5 2,lK 43 41 42,T 44 41 (i (.agg 6) (s 43) (B 0)),T 45 41 (l (.agg 6) (s 44)),lJ 46 41 1,T 47 41 (b .sub (s 46) (B 1)),⟨S 48,S (41,true),k 196 [s 45,s 47]⟩,lI 49 41 48,M 50 49,lL 51 50 5 2,lK 52 50 51,T 53 50 (i (.agg 6) (s 52) (B 1)),T 54 50 (l (.agg 6) (s 53)),lJ 55 50 1,T 56 50 (b .sub (s 55) (B 1)),⟨S 57,S (50,true),k 196 [s 54,s 56]⟩,lI 58 50 57,M 4 58]
def aW6:LFn:=⟨(Q (O aRu) (Q (Q (O aJF) (C (s 7) (Q (O aJE) .ret) Z)) (Q (O aJD) .ret))),59,[.slot 4]⟩
theorem aMY:aF Tryz.prog 196=some aW6:=Zz
abbrev aJC:LA:=[M 5 0,M 6 1,P 7 207 [s 5,s 6],M 4 7]
def aW5:LFn:=⟨(Q (O aBM) (Q (O aJC) .ret)),8,[.slot 4]⟩
theorem aSb:aF Tryz.prog 198=some aW5:=Zz
abbrev aEm:LA:=[⟨S 4,N,v (m (c (.str ⟨#[]⟩)))⟩,⟨S 5,N,v (m (c (.str ⟨#[]⟩)))⟩,lG 6]
abbrev aJB:LA:=[M 7 0,M 8 1,P 9 208 [s 7,s 8],lQ 10 9 0,lQ 11 9 1,lQ 12 9 2,M 4 10,M 5 11,M 6 12]
def aW4:LFn:=⟨(Q (O aEm) (Q (O aJB) .ret)),13,[.slot 4,.slot 5,.slot 6]⟩
theorem aSa:aF Tryz.prog 199=some aW4:=Zz
abbrev aI9:LA:=[M 4 3,M 5 0,A 6 (.slen (s 5)),lA 7 4 6,M 8 7,lJ 9 8 0,lJ 10 8 3,T 11 8 (.sidx .none (s 9) (s 10)),⟨S 12,S (8,true),k 209 [s 11]⟩,lJ 13 8 12,lM 14 13 0,lM 15 13 3,U 16 13 (.sidx .none (s 14) (s 15)),⟨S 17,S (13,false),k 210 [s 16]⟩,T 18 8 (p (s 13) Bb (s 17)),lJ 19 8 18,lM 20 19 0,lM 21 19 3,U 22 19 (.sidx .none (s 20) (s 21)),⟨S 23,S (19,false),k 211 [s 22]⟩,T 24 8 (p (s 19) Bb (s 23)),lJ 25 8 24,lM 26 25 0,lM 27 25 3,U 28 25 (.sidx .none (s 26) (s 27)),U 29 25 (b .eql (s 28) (c (.int .u8 95))),T 30 8 (p (s 25) Bb (s 29)),lI 31 8 30]
abbrev aI8:LA:=[M 32 3,lB 33 32,M 3 33]
abbrev aJA:aP:=(Q (Q (O aI9) (C (s 31) Z (X 0))) (K 1 (O aI8)))
abbrev aI7:LA:=[M 34 3,M 2 34]
def aW3:LFn:=⟨(Q (O aBj) (Q (O aD9) (Q (K 0 (R aJA)) (Q (O aI7) .ret)))),35,[.slot 2]⟩
theorem aSZ:aF Tryz.prog 200=some aW3:=Zz
abbrev aI6:LA:=[⟨S 6,N,v (.pslc 8 F (c (.ept (.agg 8) [(.agg [(.str ⟨#[114,101,108]⟩),(.str ⟨#[105,110,116]⟩),(.str ⟨#[115,121,109]⟩),(.str ⟨#[110,111,116]⟩),(.str ⟨#[99,111,117,110,116]⟩),(.str ⟨#[115,117,109]⟩),(.str ⟨#[109,105,110]⟩),(.str ⟨#[109,97,120]⟩)])] 0 0)) .none)⟩,M 7 0,P 8 41 [s 6,s 7],M 5 8]
abbrev aI5:LA:=[M 10 0,P 11 98 [s 10],M 9 11]
abbrev aI4:LA:=[M 13 0,A 14 (.sidx .none (s 13) (B 0)),P 15 210 [s 14],M 16 15,lJ 17 16 0,T 18 16 (.slen (s 17)),T 19 16 (b .leq (s 18) (B 32)),lI 20 16 19,M 12 20]
abbrev aI3:LA:=[M 22 0,P 23 188 [s 22],M 21 23,lQ 24 21 0,lQ 25 21 1,M 3 24,M 4 25]
abbrev aI2:LA:=[M 26 4,A 27 (e false (.iface true) (s 26) (c .nilIface)),M 28 27,lJ 29 28 3,T 30 28 (b .leq (s 29) (B 2147483647)),lI 31 28 30,M 32 31,lJ 33 32 3,⟨S 34,S (32,true),k 212 [s 33]⟩,lJ 35 32 0,T 36 32 (b .eql (s 34) (s 35)),lI 37 32 36]
abbrev aEl:LA:=[lF 2 4]
def aW2:LFn:=⟨(Q (O aBj) (Q (K 0 (Q (O aI6) (C (s 5) (Q (O aFR) .ret) (Q (O aI5) (C (s 9) (Q (O aEC) .ret) (Q (O aI4) (C (s 12) (Q (O aFQ) .ret) Z))))))) (Q (Q (O aI3) (Q (O aI2) (C (s 37) (Q (O aEl) .ret) Z))) (Q (O aBj) .ret)))),38,[.slot 2]⟩
theorem aCL:aF Tryz.prog 201=some aW2:=Zz
abbrev aI1:LA:=[M 5 0,M 6 1,P 7 213 [s 5,s 6],M 4 7]
def aW1:LFn:=⟨(Q (O aA9) (Q (O aI1) .ret)),8,[.slot 4]⟩
theorem aSY:aF Tryz.prog 202=some aW1:=Zz
abbrev aI0:LA:=[A 10 (m (c .nilIface))]
abbrev aIz:LA:=[M 11 4]
abbrev aIy:LA:=[A 13 (.mkif 290 (B 2)),A 14 (e false (.iface false) (s 11) (s 13)),M 12 14]
abbrev aIx:LA:=[M 15 0,M 16 1,P 17 215 [s 15,s 16],A 18 (.mkif 294 (s 17)),M 10 18]
abbrev aIw:LA:=[A 20 (.mkif 290 (B 1)),A 21 (e false (.iface false) (s 11) (s 20)),M 19 21]
abbrev aIv:LA:=[M 22 0,M 23 1,P 24 216 [s 22,s 23],A 25 (.mkif 294 (s 24)),M 10 25]
abbrev aIu:LA:=[A 27 (.mkif 290 (B 3)),A 28 (e false (.iface false) (s 11) (s 27)),M 26 28]
abbrev aIt:LA:=[M 29 0,M 30 1,M 31 2,P 32 217 [s 29,s 30,s 31],A 33 (.mkif 294 (s 32)),M 10 33]
abbrev aIs:LA:=[A 35 (.mkif 290 (B 4)),A 36 (e false (.iface false) (s 11) (s 35)),M 34 36]
abbrev aIr:LA:=[M 37 0,M 38 1,M 39 3,P 40 218 [s 37,s 38,s 39],A 41 (.mkif 294 (s 40)),M 10 41]
abbrev aFt:LA:=[M 42 4,M 10 42]
def aTz:LFn:=⟨(Q (O aI0) (Q (Q (O aIz) (K 0 (Q (O aIy) (C (s 12) (Q (O aIx) .ret) (Q (O aIw) (C (s 19) (Q (O aIv) .ret) (Q (O aIu) (C (s 26) (Q (O aIt) .ret) (Q (O aIs) (C (s 34) (Q (O aIr) .ret) Z)))))))))) (Q (O aFt) .ret))),43,[.slot 10]⟩
theorem aSX:aF Tryz.prog 204=some aTz:=Zz
abbrev aIp:LA:=[M 4 0,P 5 219 [s 4],⟨S 3,N,x (.agg 6) (c (.agg [(I j 0),(.str ⟨#[]⟩),(I j 0),(I j 0),(.str ⟨#[]⟩),(.sl (.agg 6) .nil [])]))⟩,W 6 3 5]
abbrev aIo:LA:=[M 6 0,⟨S 7,N,k 119 [s 6,(c (.str ⟨#[42]⟩))]⟩]
abbrev aIn:LD:=[(G 8 6 3,[]),(M 9 0,[]),(P 10 219 [s 9],[1]),(⟨S 11,N,y (.agg 6) [s 8,s 10]⟩,Z3),(⟨S 12,N,v (.build [(I j 0),(.str ⟨#[]⟩),(I j 0),(I j 0),(.str ⟨#[]⟩),(.sl (.agg 6) .nil [])] [(0,F,(B 3)),(5,F,(s 11))])⟩,Z4)]
abbrev aFs:LA:=[W 6 3 12]
abbrev aIq:aP:=(Q (Q (O aIo) (C (s 7) Z (X 0))) (K 1 (D 5 aIn aFs)))
abbrev aIm:LA:=[G 13 6 3,W 6 2 13]
def aTy:LFn:=⟨(Q (O aDM) (Q (O aIp) (Q (K 0 (R aIq)) (Q (O aIm) .ret)))),14,[.cell 2 (.agg 6)]⟩
theorem aSW:aF Tryz.prog 205=some aTy:=Zz
abbrev aIl:LA:=[A 2 (m (c (.sl (.agg 3) .nil []))),lF 3 0,lF 4 0]
abbrev aIk:LA:=[M 7 0,A 8 (.slen (s 7)),A 9 (b .gtr (s 8) (B 4000))]
abbrev aIj:LA:=[A 2 (m (c (.sl (.agg 3) .nil []))),lF 3 4000,lF 4 3]
abbrev aIi:LA:=[M 11 0,P 12 220 [s 11],M 10 12,lQ 13 10 0,lQ 14 10 1,M 5 13,M 6 14]
abbrev aIh:LA:=[M 15 6,A 16 (b .geq (s 15) (B 0))]
abbrev aIg:LA:=[M 17 6,A 2 (m (c (.sl (.agg 3) .nil []))),M 3 17,lF 4 2]
abbrev aIf:LA:=[M 18 5,M 2 18,lF 3 0,lF 4 0]
def aW0:LFn:=⟨(Q (O aIl) (Q (Q (O aIk) (C (s 9) (Q (O aIj) .ret) Z)) (Q (O aIi) (Q (Q (O aIh) (C (s 16) (Q (O aIg) .ret) Z)) (Q (O aIf) .ret))))),19,[.slot 2,.slot 3,.slot 4]⟩
theorem aSM:aF Tryz.prog 206=some aW0:=Zz
abbrev aIe:LA:=[M 8 0,M 9 1,P 10 222 [s 8,s 9],M 7 10]
abbrev aId:LD:=[(M 13 0,[]),(M 14 7,[]),(A 15 (.slcs (s 13) .none (.some (s 14))),[0,1]),(M 16 0,[]),(M 17 7,[]),(M 18 1,[]),(A 19 (.slen (s 18)),[5]),(A 20 (b .add (s 17) (s 19)),[4,5,6]),(A 21 (.slcs (s 16) (.some (s 20)) .none),[3,4,5,6,7]),(M 4 15,Z3),(M 5 21,Z10),(A 6 (m Bb),Z11)]
abbrev aIc:LA:=[M 22 0,M 4 22,⟨S 5,N,v (m (c (.str ⟨#[]⟩)))⟩,lG 6]
def aWz:LFn:=⟨(Q (O aEm) (Q (Q (O aIe) (Q (O aHL) (C (s 12) (Q (D 12 aId aAr) .ret) Z))) (Q (O aIc) .ret))),23,[.slot 4,.slot 5,.slot 6]⟩
theorem aMC:aF Tryz.prog 208=some aWz:=Zz
def aWy:LFn:=⟨(Q (O aAh) (Q (O aEq) .ret)),9,[.slot 2]⟩
theorem aSL:aF Tryz.prog 209=some aWy:=Zz
abbrev aIb:LA:=[M 3 0,A 4 (b .geq (s 3) (c (.int .u8 65))),M 5 4,lJ 6 5 0,T 7 5 (b .leq (s 6) (c (.int .u8 90))),lI 8 5 7,M 2 8]
def aWx:LFn:=⟨(Q (O aAh) (Q (O aIb) .ret)),9,[.slot 2]⟩
theorem aSK:aF Tryz.prog 210=some aWx:=Zz
abbrev aIa:LA:=[M 3 0,A 4 (b .geq (s 3) (c (.int .u8 48))),M 5 4,lJ 6 5 0,T 7 5 (b .leq (s 6) (c (.int .u8 57))),lI 8 5 7,M 2 8]
def aWw:LFn:=⟨(Q (O aAh) (Q (O aIa) .ret)),9,[.slot 2]⟩
theorem aSJ:aF Tryz.prog 211=some aWw:=Zz
abbrev aIZ:LA:=[M 3 0,P 4 223 [s 3],M 2 4]
def aTw:LFn:=⟨(Q (O aDO) (Q (O aIZ) .ret)),5,[.slot 2]⟩
theorem aSI:aF Tryz.prog 212=some aTw:=Zz
abbrev aIY:LA:=[M 5 0,A 6 (.slen (s 5)),M 7 1,A 8 (.slen (s 7)),A 9 (b .geq (s 6) (s 8)),M 10 9,lJ 11 10 0,lJ 12 10 1,T 13 10 (.slen (s 12)),T 14 10 (.slcs (s 11) .none (.some (s 13))),lJ 15 10 1,T 16 10 (b .eql (s 14) (s 15)),lI 17 10 16,M 4 17]
def aWv:LFn:=⟨(Q (O aA9) (Q (O aIY) .ret)),18,[.slot 4]⟩
theorem aSH:aF Tryz.prog 213=some aWv:=Zz
abbrev aEk:LA:=[A 6 (m (c .nilPtr))]
abbrev aIX:LA:=[M 7 0,M 8 1,P 9 225 [s 8],M 10 2,P 11 212 [s 10],⟨S 12,N,v (b .add (c (.str ⟨#[105,110,118,97,108,105,100,32,98,97,115,101,32]⟩)) (s 11))⟩,P 13 226 [s 12],⟨S 14,N,v (.build [(.str ⟨#[]⟩),(.str ⟨#[]⟩),.nilIface] [(0,F,(s 7)),(1,F,(s 9)),(2,F,(s 13))])⟩,Y 15 3 14,M 6 15]
def aTv:LFn:=⟨(Q (O aEk) (Q (O aIX) .ret)),16,[.slot 6]⟩
theorem aSG:aF Tryz.prog 217=some aTv:=Zz
abbrev aIW:LA:=[M 7 0,M 8 1,P 9 225 [s 8],M 10 2,P 11 212 [s 10],⟨S 12,N,v (b .add (c (.str ⟨#[105,110,118,97,108,105,100,32,98,105,116,32,115,105,122,101,32]⟩)) (s 11))⟩,P 13 226 [s 12],⟨S 14,N,v (.build [(.str ⟨#[]⟩),(.str ⟨#[]⟩),.nilIface] [(0,F,(s 7)),(1,F,(s 9)),(2,F,(s 13))])⟩,Y 15 3 14,M 6 15]
def aTu:LFn:=⟨(Q (O aEk) (Q (O aIW) .ret)),16,[.slot 6]⟩
theorem aSF:aF Tryz.prog 218=some aTu:=Zz
abbrev aIV:LA:=[M 4 0,⟨S 5,N,k 165 [s 4,(c (.str ⟨#[40]⟩))]⟩,A 6 (.not (s 5))]
abbrev aIU:LA:=[M 7 0,P 8 164 [s 7],⟨S 9,N,v (.build [(I j 0),(.str ⟨#[]⟩),(I j 0),(I j 0),(.str ⟨#[]⟩),(.sl (.agg 6) .nil [])] [(1,(.agg 4),(s 8))])⟩,W 6 2 9]
abbrev aIT:LA:=[M 10 0,lR 11 10,H 12 3 11,E 13 12,A 14 (b .geq (s 13) (B 20))]
abbrev aIS:LA:=[M 15 0,M 16 0,P 17 117 [s 16],P 18 116 [s 15,s 17,(B 4)]]
abbrev aIR:LA:=[⟨S 19,N,v (.build [(I j 0),(.str ⟨#[]⟩),(I j 0),(I j 0),(.str ⟨#[]⟩),(.sl (.agg 6) .nil [])] [])⟩,W 6 2 19]
abbrev aIQ:LA:=[M 20 0,lR 21 20,H 22 3 21,E 23 22,lB 24 23,lR 25 20,H 26 3 25,⟨N,N,t F (s 26) (s 24)⟩]
abbrev aIP:LA:=[M 27 0,⟨S 28,N,k 121 [s 27,(c (.str ⟨#[40]⟩))]⟩]
abbrev aIO:LA:=[M 29 0,P 30 190 [s 29],⟨S 3,N,x (.agg 6) (c (.agg [(I j 0),(.str ⟨#[]⟩),(I j 0),(I j 0),(.str ⟨#[]⟩),(.sl (.agg 6) .nil [])]))⟩,W 6 3 30]
abbrev aFr:LA:=[M 33 0,lR 34 33,H 35 3 34,E 36 35,A 37 (b .sub (s 36) (B 1)),lR 38 33,H 39 3 38,⟨N,N,t F (s 39) (s 37)⟩]
abbrev aFq:LA:=[G 40 6 3,W 6 2 40]
def aTt:LFn:=⟨(Q (O aDM) (Q (Q (O aIV) (C (s 6) (Q (O aIU) .ret) Z)) (Q (Q (O aIT) (C (s 14) (Q (O aIS) (Q (O aIR) .ret)) Z)) (Q (O aIQ) (Q (O aIP) (Q (O aIO) (Q (O aEn) (Q (O aFr) (Q (O aFq) .ret))))))))),41,[.cell 2 (.agg 6)]⟩
theorem aSE:aF Tryz.prog 219=some aTt:=Zz
abbrev aIL:LA:=[A 2 (m (c (.sl (.agg 3) .nil []))),lF 3 0]
abbrev aIK:LA:=[A 4 (m (c (.sl (.agg 3) .nil [])))]
abbrev aIJ:LA:=[M 9 5,M 10 0,A 11 (.slen (s 10)),lA 12 9 11]
abbrev aII:LA:=[M 13 0,M 14 5,A 15 (.sidx .none (s 13) (s 14)),M 6 15]
abbrev aIH:LA:=[M 16 6,A 17 (b .eql (s 16) (c (.int .u8 9))),M 18 17,lM 19 18 6,U 20 18 (b .eql (s 19) (c (.int .u8 10))),lH 21 18 20,M 22 21,lM 23 22 6,U 24 22 (b .eql (s 23) (c (.int .u8 13))),lH 25 22 24,M 26 25,lM 27 26 6,U 28 26 (b .eql (s 27) (c (.int .u8 32))),lH 29 26 28]
abbrev aIG:LA:=[M 30 5,lB 31 30,M 5 31]
abbrev aIF:LA:=[M 32 6,A 33 (b .eql (s 32) (c (.int .u8 37)))]
abbrev aIE:LA:=[M 34 5,M 35 0,A 36 (.slen (s 35)),lA 37 34 36,M 38 37,lJ 39 38 0,lJ 40 38 5,T 41 38 (.sidx .none (s 39) (s 40)),T 42 38 (b .neq (s 41) (c (.int .u8 10))),lI 43 38 42]
abbrev aID:LA:=[M 44 5,lB 45 44,M 5 45]
abbrev aIN:aP:=(Q (Q (O aIE) (C (s 43) Z (X 2))) (K 3 (O aID)))
abbrev aFp:LA:=[M 46 6,P 47 227 [s 46],M 48 47,lJ 49 48 6,T 50 48 (b .neq (s 49) (c (.int .u8 95))),lI 51 48 50]
abbrev aFo:LA:=[M 52 5,M 7 52]
abbrev aFn:LA:=[M 53 7,M 54 0,A 55 (.slen (s 54)),lA 56 53 55,M 57 56,lJ 58 57 0,lJ 59 57 7,T 60 57 (.sidx .none (s 58) (s 59)),⟨S 61,S (57,true),k 227 [s 60]⟩,lI 62 57 61]
abbrev aFm:LA:=[M 63 7,lB 64 63,M 7 64]
abbrev aIM:aP:=(Q (Q (O aFn) (C (s 62) Z (X 4))) (K 5 (O aFm)))
abbrev aFl:LA:=[M 65 0,M 66 5,M 67 7,A 68 (.slcs (s 65) (.some (s 66)) (.some (s 67))),P 69 228 [s 68],M 8 69]
abbrev aFk:LA:=[M 70 8,A 71 (b .eql (s 70) (B 0))]
abbrev aFj:LA:=[M 72 4,M 73 5,M 2 72,M 3 73]
abbrev aFi:LA:=[M 74 4,M 75 8,M 76 0,M 77 5,M 78 7,A 79 (.slcs (s 76) (.some (s 77)) (.some (s 78))),M 80 5,⟨S 81,N,v (.build [(I j 0),(.str ⟨#[]⟩),(I j 0)] [(0,F,(s 75)),(1,F,(s 79)),(2,F,(s 80))])⟩,⟨S 82,N,y (.agg 3) [s 81]⟩,lS 83 3 32 74 82,M 4 83]
abbrev aFh:LA:=[M 84 7,M 5 84]
abbrev aFg:LA:=[M 85 5,A 86 (b .add (s 85) (B 2)),M 87 0,A 88 (.slen (s 87)),A 89 (b .leq (s 86) (s 88)),M 90 89,⟨S 91,S (90,true),y F [(c (.str ⟨#[58,45]⟩)),(c (.str ⟨#[33,61]⟩)),(c (.str ⟨#[60,61]⟩)),(c (.str ⟨#[62,61]⟩))]⟩,lJ 92 90 0,lJ 93 90 5,lJ 94 90 5,T 95 90 (b .add (s 94) (B 2)),T 96 90 (.slcs (s 92) (.some (s 93)) (.some (s 95))),⟨S 97,S (90,true),k 229 [s 91,s 96]⟩,lI 98 90 97]
abbrev aFf:LA:=[M 99 4,M 100 0,M 101 5,M 102 5,A 103 (b .add (s 102) (B 2)),A 104 (.slcs (s 100) (.some (s 101)) (.some (s 103))),M 105 5,⟨S 106,N,v (.build [(I j 0),(.str ⟨#[]⟩),(I j 0)] [(0,F,(B 5)),(1,F,(s 104)),(2,F,(s 105))])⟩,⟨S 107,N,y (.agg 3) [s 106]⟩,lS 108 3 32 99 107,M 4 108]
abbrev aFe:LA:=[M 109 5,A 110 (b .add (s 109) (B 2)),M 5 110]
abbrev aFd:LA:=[⟨S 111,N,y F [(c (.str ⟨#[40]⟩)),(c (.str ⟨#[41]⟩)),(c (.str ⟨#[44]⟩)),(c (.str ⟨#[46]⟩)),(c (.str ⟨#[61]⟩)),(c (.str ⟨#[60]⟩)),(c (.str ⟨#[62]⟩)),(c (.str ⟨#[43]⟩)),(c (.str ⟨#[45]⟩)),(c (.str ⟨#[42]⟩))]⟩,M 112 0,M 113 5,M 114 5,lB 115 114,A 116 (.slcs (s 112) (.some (s 113)) (.some (s 115))),P 117 229 [s 111,s 116],A 118 (.not (s 117))]
abbrev aFc:LA:=[M 119 4,M 120 5,M 2 119,M 3 120]
abbrev aFb:LA:=[M 121 4,M 122 0,M 123 5,M 124 5,lB 125 124,A 126 (.slcs (s 122) (.some (s 123)) (.some (s 125))),M 127 5,⟨S 128,N,v (.build [(I j 0),(.str ⟨#[]⟩),(I j 0)] [(0,F,(B 5)),(1,F,(s 126)),(2,F,(s 127))])⟩,⟨S 129,N,y (.agg 3) [s 128]⟩,lS 130 3 32 121 129,M 4 130]
abbrev aFa:LA:=[M 131 5,lB 132 131,M 5 132]
abbrev aBN:aP:=(Q (Q (O aIJ) (C (s 12) Z (X 0))) (K 1 (Q (O aII) (Q (Q (O aIH) (C (s 29) (Q (O aIG) (X 1)) Z)) (Q (Q (O aIF) (C (s 33) (Q (K 2 (R aIN)) (X 1)) Z)) (Q (Q (O aFp) (C (s 51) (Q (O aFo) (Q (K 4 (R aIM)) (Q (O aFl) (Q (Q (O aFk) (C (s 71) (Q (O aFj) .ret) Z)) (Q (O aFi) (Q (O aFh) (X 1))))))) Z)) (Q (Q (O aFg) (C (s 98) (Q (O aFf) (Q (O aFe) (X 1))) Z)) (Q (Q (O aFd) (C (s 118) (Q (O aFc) .ret) Z)) (Q (O aFb) (O aFa))))))))))
abbrev aFZ:LA:=[M 133 4,M 2 133,A 3 (m (B (-1)))]
def aWt:LFn:=⟨(Q (O aIL) (Q (O aIK) (Q (O aDL) (Q (K 0 (R aBN)) (Q (O aFZ) .ret))))),134,[.slot 2,.slot 3]⟩
theorem aR8:aF Tryz.prog 220=some aWt:=Zz
abbrev aIC:LA:=[A 2 (m (c .nilIface))]
abbrev aIB:LA:=[M 3 0,⟨S 4,N,v (.build [(.str ⟨#[]⟩)] [(0,F,(s 3))])⟩,Y 5 1 4,A 6 (.mkif 311 (s 5)),M 2 6]
def aTs:LFn:=⟨(Q (O aIC) (Q (O aIB) .ret)),7,[.slot 2]⟩
theorem aR7:aF Tryz.prog 226=some aTs:=Zz
abbrev aIA:LA:=[M 3 0,A 4 (b .geq (s 3) (c (.int .u8 97))),M 5 4,lJ 6 5 0,T 7 5 (b .leq (s 6) (c (.int .u8 122))),lI 8 5 7,M 9 8,lM 10 9 0,U 11 9 (b .geq (s 10) (c (.int .u8 65))),lM 12 9 11,lJ 13 12 0,T 14 12 (b .leq (s 13) (c (.int .u8 90))),U 15 9 (p (s 12) (s 14) Ba),lH 16 9 15,M 17 16,lM 18 17 0,U 19 17 (b .geq (s 18) (c (.int .u8 48))),lM 20 17 19,lJ 21 20 0,T 22 20 (b .leq (s 21) (c (.int .u8 57))),U 23 17 (p (s 20) (s 22) Ba),lH 24 17 23,M 25 24,lM 26 25 0,U 27 25 (b .eql (s 26) (c (.int .u8 95))),lH 28 25 27,M 2 28]
def aWs:LFn:=⟨(Q (O aAh) (Q (O aIA) .ret)),29,[.slot 2]⟩
theorem aR6:aF Tryz.prog 227=some aWs:=Zz
abbrev aH9:LA:=[⟨S 5,N,y F [(c (.str ⟨#[114,101,108]⟩)),(c (.str ⟨#[105,110,116]⟩)),(c (.str ⟨#[115,121,109]⟩)),(c (.str ⟨#[110,111,116]⟩)),(c (.str ⟨#[99,111,117,110,116]⟩)),(c (.str ⟨#[115,117,109]⟩)),(c (.str ⟨#[109,105,110]⟩)),(c (.str ⟨#[109,97,120]⟩))]⟩,M 6 0,P 7 229 [s 5,s 6]]
abbrev aEj:LA:=[M 8 0,P 9 156 [s 8]]
abbrev aH8:LA:=[M 10 0,A 11 (.sidx .none (s 10) (B 0)),A 12 (b .geq (s 11) (c (.int .u8 65))),M 13 12,lJ 14 13 0,T 15 13 (.sidx .none (s 14) (B 0)),T 16 13 (b .leq (s 15) (c (.int .u8 90))),lI 17 13 16,M 18 17,lJ 19 18 0,T 20 18 (.slen (s 19)),T 21 18 (b .leq (s 20) (B 32)),lI 22 18 21]
abbrev aH7:LA:=[M 24 0,P 25 236 [s 24],M 23 25,lQ 26 23 0,lQ 27 23 1,⟨S 3,N,x (.agg 3) (c (.agg [(I j 0),(I j 0),(.str ⟨#[]⟩)]))⟩,W 3 3 26,M 4 27]
abbrev aH6:LA:=[M 28 4,M 29 28,lL 30 29 0 3,lK 31 29 30,T 32 29 (b .eql (s 31) (B 1)),lI 33 29 32]
def aWr:LFn:=⟨(Q (O aBj) (Q (Q (O aH9) (C (s 7) (Q (O aFR) .ret) Z)) (Q (Q (O aEj) (C (s 9) (Q (O aEC) .ret) Z)) (Q (Q (O aH8) (C (s 22) (Q (O aFQ) .ret) Z)) (Q (Q (O aH7) (Q (O aH6) (C (s 33) (Q (O aEl) .ret) Z))) (Q (O aBj) .ret)))))),34,[.slot 2]⟩
theorem aEE:aF Tryz.prog 228=some aWr:=Zz
abbrev aH5:aP:=(Q (Q (O aHi) (C (s 9) Z (X 0))) (Q (K 1 (Q (O aHh) (C (s 17) (Q (O aDu) .ret) Z))) (O aFO)))
def aWq:LFn:=⟨(Q (O aA9) (Q (Q (O aDL) (K 0 (R aH5))) (Q (O aA9) .ret))),18,[.slot 4]⟩
theorem aR5:aF Tryz.prog 229=some aWq:=Zz
abbrev aH4:LA:=[⟨S 2,N,x (.agg 3) (c (.agg [(I j 0),(I j 0),(.str ⟨#[]⟩)]))⟩,lG 3]
abbrev aH3:LA:=[M 10 0,⟨S 11,N,v (.build [(I j 0),(I j 0),(.str ⟨#[]⟩)] [(0,F,(B 2)),(2,F,(s 10))])⟩,W 3 2 11,A 3 (m Bb)]
abbrev aH2:LA:=[M 12 0,M 4 12,lF 5 1]
abbrev aH1:LA:=[M 13 4,A 14 (.slen (s 13)),A 15 (b .gtr (s 14) (B 0)),M 16 15,lJ 17 16 4,T 18 16 (.sidx .none (s 17) (B 0)),T 19 16 (b .eql (s 18) (c (.int .u8 45))),lI 20 16 19]
abbrev aH0:LA:=[M 21 4,A 22 (.slcs (s 21) (.some (B 1)) .none),M 4 22,A 5 (m (B (-1)))]
abbrev aHz:LA:=[M 23 4,A 24 (.slen (s 23)),A 25 (b .eql (s 24) (B 0)),M 26 25,lM 27 26 4,U 28 26 (.slen (s 27)),U 29 26 (b .gtr (s 28) (B 10)),lH 30 26 29,M 31 30,lM 32 31 4,U 33 31 (.sidx .none (s 32) (B 0)),U 34 31 (b .eql (s 33) (c (.int .u8 48))),lM 35 31 34,lJ 36 35 4,T 37 35 (.slen (s 36)),T 38 35 (b .gtr (s 37) (B 1)),lJ 39 35 38,lM 40 39 5,U 41 39 (b .lss (s 40) (B 0)),T 42 35 (p (s 39) Bb (s 41)),U 43 31 (p (s 35) (s 42) Ba),lH 44 31 43]
abbrev aHy:LA:=[⟨S 45,N,v (.build [(I j 0),(I j 0),(.str ⟨#[]⟩)] [])⟩,W 3 2 45,lG 3]
abbrev aHx:LA:=[lF 7 0]
abbrev aFY:LA:=[M 46 7,M 47 4,A 48 (.slen (s 47)),lA 49 46 48]
abbrev aFX:LA:=[M 52 4,M 53 7,A 54 (.sidx .none (s 52) (s 53)),A 55 (b .lss (s 54) (c (.int .u8 48))),M 56 55,lM 57 56 4,lM 58 56 7,U 59 56 (.sidx .none (s 57) (s 58)),U 60 56 (b .gtr (s 59) (c (.int .u8 57))),lH 61 56 60]
abbrev aFW:LA:=[⟨S 62,N,v (.build [(I j 0),(I j 0),(.str ⟨#[]⟩)] [])⟩,W 3 2 62,lG 3]
abbrev aFV:LA:=[M 63 6,A 64 (b .mul (B 10) (s 63)),M 65 4,M 66 7,A 67 (.sidx .none (s 65) (s 66)),A 68 (b .sub (s 67) (c (.int .u8 48))),A 69 (.conv .i64 (s 68)),A 70 (b .add (s 64) (s 69)),M 6 70]
abbrev aFU:LA:=[M 50 7,lB 51 50,M 7 51]
abbrev aDN:aP:=(Q (Q (O aFY) (C (s 49) Z (X 0))) (Q (K 1 (Q (Q (O aFX) (C (s 61) (Q (O aFW) .ret) Z)) (O aFV))) (O aFU)))
abbrev aCY:LA:=[M 71 6,A 72 (b .gtr (s 71) (B 2147483647))]
abbrev aCX:LA:=[⟨S 73,N,v (.build [(I j 0),(I j 0),(.str ⟨#[]⟩)] [])⟩,W 3 2 73,lG 3]
abbrev aCW:LA:=[M 74 5,M 75 6,A 76 (b .mul (s 74) (s 75)),⟨S 77,N,v (.build [(I j 0),(I j 0),(.str ⟨#[]⟩)] [(0,F,(B 1)),(1,F,(s 76))])⟩,W 3 2 77,A 3 (m Bb)]
def aWp:LFn:=⟨(Q (O aH4) (Q (Q (O aEj) (C (s 9) (Q (O aH3) .ret) Z)) (Q (O aH2) (Q (Q (O aH1) (C (s 20) (O aH0) Z)) (Q (Q (O aHz) (C (s 44) (Q (O aHy) .ret) Z)) (Q (O aEA) (Q (Q (O aHx) (K 0 (R aDN))) (Q (Q (O aCY) (C (s 72) (Q (O aCX) .ret) Z)) (Q (O aCW) .ret))))))))),78,[.cell 2 (.agg 3),.slot 3]⟩
theorem aED:aF Tryz.prog 236=some aWp:=Zz
end L
end Go.Proofs.YtgbiopfghdilnaaGreatDoor
