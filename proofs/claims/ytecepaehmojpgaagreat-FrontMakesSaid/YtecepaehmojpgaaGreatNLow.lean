/-
Texts of this proof,one behind the other. No conditions.
-/
import Derived.Test.YtecepaehmojpgaaGreatNcb
import Derived.Test.YtecepaehmojpgaaGreatProg
namespace Go.Proofs.YtecepaehmojpgaaGreat
open Go.RowKit
open aO renaming slot→s,const→c
open bL renaming move→m,load→l,aHF→f,bin→b,eq→e,aBn→i,pick→p,ext→q,nilCheck→n,len→w
open LOp renaming val→v,call→k,box→x,aAd→y,append→a,store→t
open bF renaming seq→Q,ops→O,cond→C,block→K,loop→R,skip→Z,exit→X,draw→D
open Sh renaming leaf→F
open V renaming int→I
open Go.IntKind renaming i64→j
open Option renaming some→S,none→N
namespace L
abbrev A(n:Nat)(x:bL):aA:=⟨S n,N,v x⟩
abbrev M(n i:Nat):=A n (m (s i))
abbrev E(n i:Nat):=A n (l F (s i))
abbrev G(n k i:Nat):=A n (l (.agg k) (s i))
abbrev H(n k i:Nat):=A n (f k (s i))
abbrev W(k i o:Nat):aA:=⟨N,N,t (.agg k) (s i) (s o)⟩
abbrev Y(n k i:Nat):aA:=⟨S n,N,x (.agg k) (s i)⟩
abbrev P(n i:Nat)(x:List aO):aA:=⟨S n,N,k i x⟩
abbrev T(n i:Nat)(x:bL):aA:=⟨S n,S (i,true),v x⟩
abbrev U(n i:Nat)(x:bL):aA:=⟨S n,S (i,false),v x⟩
abbrev B(n:Int):=c (I j n)
abbrev Ba:=c (.bool false)
abbrev Bb:=c (.bool true)
abbrev Z3:List Nat:=[0,1,2]
abbrev Z4:List Nat:=[0,1,2,3]
abbrev Z5:List Nat:=[0,1,2,3,4]
abbrev Z6:List Nat:=[0,1,2,3,4,5]
abbrev Z7:List Nat:=[0,1,2,3,4,5,6]
abbrev Z8:List Nat:=[0,1,2,3,4,5,6,7]
abbrev Z9:List Nat:=[0,1,2,3,4,5,6,7,8]
abbrev Z10:List Nat:=[0,1,2,3,4,5,6,7,8,9]
abbrev Z11:List Nat:=[0,1,2,3,4,5,6,7,8,9,10]
abbrev Z12:List Nat:=[0,1,2,3,4,5,6,7,8,9,10,11]
abbrev Z13:List Nat:=[0,1,2,3,4,5,6,7,8,9,10,11,12]
abbrev Z14:List Nat:=[0,1,2,3,4,5,6,7,8,9,10,11,12,13]
abbrev Z15:List Nat:=[0,1,2,3,4,5,6,7,8,9,10,11,12,13,14]
abbrev Z16:List Nat:=[0,1,2,3,4,5,6,7,8,9,10,11,12,13,14,15]
abbrev Z17:List Nat:=[0,1,2,3,4,5,6,7,8,9,10,11,12,13,14,15,16]
abbrev Z18:List Nat:=[0,1,2,3,4,5,6,7,8,9,10,11,12,13,14,15,16,17]
abbrev Z19:List Nat:=[0,1,2,3,4,5,6,7,8,9,10,11,12,13,14,15,16,17,18]
abbrev Z20:List Nat:=[0,1,2,3,4,5,6,7,8,9,10,11,12,13,14,15,16,17,18,19]
abbrev Z21:List Nat:=[0,1,2,3,4,5,6,7,8,9,10,11,12,13,14,15,16,17,18,19,20]
abbrev Z22:List Nat:=[0,1,2,3,4,5,6,7,8,9,10,11,12,13,14,15,16,17,18,19,20,21]
abbrev Z23:List Nat:=[0,1,2,3,4,5,6,7,8,9,10,11,12,13,14,15,16,17,18,19,20,21,22]
abbrev Z24:List Nat:=[0,1,2,3,4,5,6,7,8,9,10,11,12,13,14,15,16,17,18,19,20,21,22,23]
abbrev Z25:List Nat:=[0,1,2,3,4,5,6,7,8,9,10,11,12,13,14,15,16,17,18,19,20,21,22,23,24]
abbrev Z26:List Nat:=[0,1,2,3,4,5,6,7,8,9,10,11,12,13,14,15,16,17,18,19,20,21,22,23,24,25]
abbrev Z27:List Nat:=[0,1,2,3,4,5,6,7,8,9,10,11,12,13,14,15,16,17,18,19,20,21,22,23,24,25,26]
abbrev Z28:List Nat:=[0,1,2,3,4,5,6,7,8,9,10,11,12,13,14,15,16,17,18,19,20,21,22,23,24,25,26,27]
abbrev Z29:List Nat:=[0,1,2,3,4,5,6,7,8,9,10,11,12,13,14,15,16,17,18,19,20,21,22,23,24,25,26,27,28]
abbrev Z30:List Nat:=[0,1,2,3,4,5,6,7,8,9,10,11,12,13,14,15,16,17,18,19,20,21,22,23,24,25,26,27,28,29]
abbrev Z31:List Nat:=[0,1,2,3,4,5,6,7,8,9,10,11,12,13,14,15,16,17,18,19,20,21,22,23,24,25,26,27,28,29,30]
abbrev Z33:List Nat:=[0,1,2,3,4,5,6,7,8,9,10,11,12,13,14,15,16,17,18,19,20,21,22,23,24,25,26,27,28,29,30,31,32]
abbrev LA:=List aA
abbrev LD:=List (aA×List Nat)
abbrev lA(n i o:Nat):=A n (b .lss (s i) (s o))
abbrev lB(n i:Nat):=A n (b .add (s i) (B 1))
abbrev lC(n k o z:Nat):=A n (i (.agg k) (s o) (s z))
abbrev lE(n o z:Nat):=A n (i F (s o) (s z))
abbrev lF(n:Nat)(z:Int):=A n (m (B z))
abbrev lG(n:Nat):=A n (m Ba)
abbrev lH(n i o:Nat):=A n (p (s i) Bb (s o))
abbrev lI(n i o:Nat):=A n (p (s i) (s o) Ba)
abbrev lJ(n i o:Nat):=T n i (m (s o))
abbrev lK(n i o:Nat):=T n i (l F (s o))
abbrev lL(n i k o:Nat):=T n i (f k (s o))
abbrev lM(n i o:Nat):=U n i (m (s o))
abbrev lN(n i o:Nat):=U n i (l F (s o))
abbrev lO(n i k o:Nat):=U n i (f k (s o))
abbrev lP(n i:Nat):=A n (w (s i))
abbrev lQ(n i o:Nat):=A n (q (s i) o)
abbrev lR(o i:Nat):=A o (n (s i))
abbrev lS(n k z i o:Nat):aA:=⟨S n,N,a (.agg k) z (s i) (s o)⟩
attribute[go_sem] A M E G H W Y P T U B Ba Bb Z3 Z4 Z5 Z6 Z7 Z8 Z9 Z10 Z11 Z12 Z13 Z14 Z15 Z16 Z17 Z18 Z19 Z20 Z21 Z22 Z23 Z24 Z25 Z26 Z27 Z28 Z29 Z30 Z31 Z33 lA lB lC lE lF lG lH lI lJ lK lL lM lN lO lP lQ lR lS
abbrev aWC:LA:=[Y 3 2 0,Y 4 6 1,lG 6]
abbrev aWB:LA:=[P 13 7 [],A 14 (.not (s 13))]
abbrev aM3:LA:=[lG 6]
abbrev aWA:LA:=[G 15 2 3,P 16 13 [s 15]]
abbrev aTW:LA:=[A 6 (m Bb)]
abbrev aV9:LA:=[G 17 2 3,P 18 14 [s 17],⟨S 7,N,x (.agg 2) (c (.agg [(I j 0),(.sl (.agg 4) .nil [])]))⟩,W 2 7 18]
abbrev aV8:LA:=[G 20 2 3,M 21 2,A 22 (.aDp 2 (.agg 3) (s 4) (B 0)),G 23 3 22,⟨S 24,N,y (.agg 3) [s 23]⟩,P 25 9 [s 20,s 21,s 24],M 19 25,lQ 26 19 0,lQ 27 19 1,M 8 26,M 9 27]
abbrev aMl:LD:=[(G 29 2 7,[]),(M 30 2,[]),(A 31 (.aFm 2 (.agg 3) (s 4) (.some (B 1))),[]),(⟨S 32,N,.aAZ 16 [s 31] [s 7]⟩,[2]),(⟨S 33,N,.aAZ 15 [s 29,s 30,s 32] []⟩,Z4),(M 28 33,Z5),(lQ 34 28 0,Z6),(lQ 35 28 1,Z6),(⟨S 10,N,x (.agg 5) (c (.agg [(I j 0),(.sl (.agg 4) .nil []),(.sl (.agg 4) .nil []),(.sl F .nil []),(.sl (.agg 3) .nil [])]))⟩,[]),(W 5 10 34,[0,1,2,3,4,5,6,8]),(M 11 35,Z10)]
abbrev aHD:LA:=[]
abbrev aIg:LA:=[A 12 (m (c .aAI))]
abbrev aIf:LA:=[M 36 12,P 37 17 [s 36],A 38 (e true (.plain F [.bool]) (s 37) Bb),M 39 38,lM 40 39 12,⟨S 41,S (39,false),k 18 [s 40]⟩,U 42 39 (b .neq (s 41) (B 0)),lH 43 39 42,M 44 43,lM 45 44 12,⟨S 46,S (44,false),k 19 [s 45]⟩,U 47 44 (e true .ptr (s 46) (c .aAI)),lH 48 44 47,M 49 48,lM 50 49 12,⟨S 51,S (49,false),k 20 [s 50,(B 0)]⟩,U 52 49 (w (s 51)),U 53 49 (b .gtr (s 52) (B 0)),lH 54 49 53,M 55 54,lM 56 55 12,U 57 55 (.aDp 2 (.agg 3) (s 4) (B 0)),U 58 55 (l (.agg 3) (s 57)),⟨S 59,S (55,false),k 11 [s 56,(B 0),s 58,(c (.sl (.agg 3) .nil []))]⟩,⟨S 60,S (55,false),k 21 [s 59,(B 13)]⟩,U 61 55 (.not (s 60)),lH 62 55 61,M 63 62,lM 64 63 12,⟨S 65,S (63,false),k 10 [s 64,(B 0),(B 1)]⟩,⟨S 66,S (63,false),k 21 [s 65,(B 13)]⟩,U 67 63 (.not (s 66)),lH 68 63 67]
abbrev aFQ:LA:=[lG 6]
abbrev aFP:LD:=[(G 69 2 3,[]),(A 70 (.aDp 2 (.agg 3) (s 4) (B 0)),[]),(G 71 3 70,[1]),(A 72 (.aDp 2 (.agg 3) (s 4) (B 1)),[]),(G 73 3 72,[3]),(P 74 22 [s 69,s 71,s 73],Z5),(G 75 2 7,[]),(A 76 (.aDp 2 (.agg 3) (s 4) (B 0)),[]),(G 77 3 76,[7]),(P 78 24 [s 77],[0,1,2,3,4,5,7,8]),(A 79 (.aDp 2 (.agg 3) (s 4) (B 1)),[]),(G 80 3 79,[10]),(P 81 24 [s 80],[0,1,2,3,4,5,7,8,9,10,11]),(P 82 23 [s 75,s 78,s 81],Z13),(A 83 (e false (.plain F [.bool]) (s 74) (s 82)),Z14),(M 84 83,Z15),(lJ 85 84 9,Z16),(⟨S 86,S (84,true),k 25 [s 85]⟩,Z17),(lJ 87 84 11,Z16),(T 88 84 (b .eql (s 86) (s 87)),Z19),(lI 89 84 88,Z20),(M 90 89,Z21),(lJ 91 90 8,Z22),(⟨S 92,S (90,true),k 18 [s 91]⟩,Z23),(lL 93 90 3 10,Z22),(lK 94 90 93,[0,1,2,3,4,5,6,7,8,9,10,11,12,13,14,15,16,17,18,19,20,21,24]),(T 95 90 (w (s 94)),[0,1,2,3,4,5,6,7,8,9,10,11,12,13,14,15,16,17,18,19,20,21,24,25]),(T 96 90 (b .eql (s 92) (s 95)),Z27),(lI 97 90 96,Z28),(M 6 97,Z29)]
abbrev aDH:LA:=[]
def g0:LFn:=⟨(Q (O aWC) (Q (Q (O aWB) (C (s 14) (Q (O aM3) .ret) Z)) (Q (Q (O aWA) (C (s 16) (Q (O aTW) .ret) Z)) (Q (O aV9) (Q (O aV8) (Q (D 11 aMl aHD) (Q (O aIg) (Q (Q (O aIf) (C (s 68) (Q (O aFQ) .ret) Z)) (Q (D 30 aFP aDH) .ret))))))))),98,[.slot 6]⟩
theorem g0z:aJ Tryz.prog 4=some g0:=Zz
abbrev aQx:LA:=[lG 0]
abbrev aVg:LA:=[P 8 34 [],M 7 8,lQ 9 7 0,lQ 10 7 1,lQ 11 7 2,lQ 12 7 3,⟨S 2,N,x (.agg 3) (c (.agg [(I j 0),(I j 0),(I j 0)]))⟩,⟨S 3,N,x (.agg 3) (c (.agg [(I j 0),(I j 0),(I j 0)]))⟩,M 1 9,W 3 2 10,W 3 3 11,M 4 12]
abbrev aVf:LA:=[M 13 4,A 14 (.not (s 13)),M 15 14,lM 16 15 1,U 17 15 (l (.agg 3) (s 2)),U 18 15 (l (.agg 3) (s 3)),⟨S 19,S (15,false),y (.agg 3) [s 18]⟩,⟨S 20,S (15,false),k 11 [s 16,(B 0),s 17,s 19]⟩,U 21 15 (e true (.iface true) (s 20) (c .nilIface)),lH 22 15 21,M 23 22,lM 24 23 1,⟨S 25,S (23,false),k 26 [s 24,(B 0),(B 1)]⟩,U 26 23 (b .neq (s 25) (B 1)),lH 27 23 26]
abbrev aVe:LA:=[M 28 1,P 29 20 [s 28,(B 1)],M 5 29]
abbrev aVd:LA:=[M 30 1,P 31 10 [s 30,(B 0),(B 1)],A 32 (e true (.iface true) (s 31) (c .nilIface)),M 33 32,lM 34 33 1,⟨S 35,S (33,false),k 17 [s 34]⟩,U 36 33 (.not (s 35)),lH 37 33 36]
abbrev aVc:LA:=[M 38 1,P 39 20 [s 38,(B 1)],M 6 39]
abbrev aVb:LD:=[(M 40 5,[]),(lP 41 40,[0]),(A 42 (b .eql (s 41) (B 2)),[0,1]),(M 43 42,Z3),(lJ 44 43 6,Z4),(T 45 43 (w (s 44)),Z5),(T 46 43 (b .eql (s 45) (B 2)),Z6),(lI 47 43 46,Z7),(M 48 47,Z8),(lJ 49 48 5,Z9),(T 50 48 (i F (s 49) (B 1)),Z10),(lK 51 48 50,Z11),(T 52 48 (w (s 51)),Z12),(T 53 48 (b .eql (s 52) (B 1)),Z13),(lI 54 48 53,Z14),(M 55 54,Z15),(lJ 56 55 6,Z16),(T 57 55 (i F (s 56) (B 1)),Z17),(lK 58 55 57,Z18),(T 59 55 (w (s 58)),Z19),(T 60 55 (b .eql (s 59) (B 1)),Z20),(lI 61 55 60,Z21),(M 62 61,Z22),(lJ 63 62 5,Z23),(T 64 62 (i F (s 63) (B 1)),Z24),(lK 65 62 64,Z25),(T 66 62 (i (.agg 2) (s 65) (B 0)),Z26),(T 67 62 (l (.agg 2) (s 66)),Z27),(lL 68 62 1 3,Z23),(T 69 62 (l (.agg 2) (s 68)),[0,1,2,3,4,5,6,7,8,9,10,11,12,13,14,15,16,17,18,19,20,21,22,28]),(T 70 62 (e false (.plain (.agg 2) [.int,.int]) (s 67) (s 69)),Z30),(lI 71 62 70,Z31),(M 72 71,[0,1,2,3,4,5,6,7,8,9,10,11,12,13,14,15,16,17,18,19,20,21,22,23,24,25,26,27,28,29,30,31]),(lJ 73 72 6,Z33),(T 74 72 (i F (s 73) (B 1)),[0,1,2,3,4,5,6,7,8,9,10,11,12,13,14,15,16,17,18,19,20,21,22,23,24,25,26,27,28,29,30,31,32,33]),(lK 75 72 74,[0,1,2,3,4,5,6,7,8,9,10,11,12,13,14,15,16,17,18,19,20,21,22,23,24,25,26,27,28,29,30,31,32,33,34]),(T 76 72 (i (.agg 2) (s 75) (B 0)),[0,1,2,3,4,5,6,7,8,9,10,11,12,13,14,15,16,17,18,19,20,21,22,23,24,25,26,27,28,29,30,31,32,33,34,35]),(T 77 72 (l (.agg 2) (s 76)),[0,1,2,3,4,5,6,7,8,9,10,11,12,13,14,15,16,17,18,19,20,21,22,23,24,25,26,27,28,29,30,31,32,33,34,35,36]),(lL 78 72 1 3,Z33),(T 79 72 (l (.agg 2) (s 78)),[0,1,2,3,4,5,6,7,8,9,10,11,12,13,14,15,16,17,18,19,20,21,22,23,24,25,26,27,28,29,30,31,32,38]),(T 80 72 (e false (.plain (.agg 2) [.int,.int]) (s 77) (s 79)),[0,1,2,3,4,5,6,7,8,9,10,11,12,13,14,15,16,17,18,19,20,21,22,23,24,25,26,27,28,29,30,31,32,33,34,35,36,37,38,39]),(lI 81 72 80,[0,1,2,3,4,5,6,7,8,9,10,11,12,13,14,15,16,17,18,19,20,21,22,23,24,25,26,27,28,29,30,31,32,33,34,35,36,37,38,39,40]),(M 82 81,[0,1,2,3,4,5,6,7,8,9,10,11,12,13,14,15,16,17,18,19,20,21,22,23,24,25,26,27,28,29,30,31,32,33,34,35,36,37,38,39,40,41]),(lJ 83 82 6,[0,1,2,3,4,5,6,7,8,9,10,11,12,13,14,15,16,17,18,19,20,21,22,23,24,25,26,27,28,29,30,31,32,33,34,35,36,37,38,39,40,41,42]),(T 84 82 (i F (s 83) (B 0)),[0,1,2,3,4,5,6,7,8,9,10,11,12,13,14,15,16,17,18,19,20,21,22,23,24,25,26,27,28,29,30,31,32,33,34,35,36,37,38,39,40,41,42,43]),(lK 85 82 84,[0,1,2,3,4,5,6,7,8,9,10,11,12,13,14,15,16,17,18,19,20,21,22,23,24,25,26,27,28,29,30,31,32,33,34,35,36,37,38,39,40,41,42,43,44]),(T 86 82 (w (s 85)),[0,1,2,3,4,5,6,7,8,9,10,11,12,13,14,15,16,17,18,19,20,21,22,23,24,25,26,27,28,29,30,31,32,33,34,35,36,37,38,39,40,41,42,43,44,45]),(T 87 82 (b .eql (s 86) (B 0)),[0,1,2,3,4,5,6,7,8,9,10,11,12,13,14,15,16,17,18,19,20,21,22,23,24,25,26,27,28,29,30,31,32,33,34,35,36,37,38,39,40,41,42,43,44,45,46]),(lI 88 82 87,[0,1,2,3,4,5,6,7,8,9,10,11,12,13,14,15,16,17,18,19,20,21,22,23,24,25,26,27,28,29,30,31,32,33,34,35,36,37,38,39,40,41,42,43,44,45,46,47]),(M 0 88,[0,1,2,3,4,5,6,7,8,9,10,11,12,13,14,15,16,17,18,19,20,21,22,23,24,25,26,27,28,29,30,31,32,33,34,35,36,37,38,39,40,41,42,43,44,45,46,47,48])]
abbrev aAV:LA:=[]
def g1:LFn:=⟨(Q (O aQx) (Q (O aVg) (Q (Q (O aVf) (C (s 27) (Q (O aQx) .ret) Z)) (Q (O aVe) (Q (Q (O aVd) (C (s 37) (Q (O aQx) .ret) Z)) (Q (O aVc) (Q (D 50 aVb aAV) .ret))))))),89,[.slot 0]⟩
theorem g1z:aJ Tryz.prog 7=some g1:=Zz
abbrev aVG:LA:=[Y 3 2 0,A 6 (m (c .aAI)),A 7 (m (c .nilIface))]
abbrev aVF:LA:=[G 13 2 3,P 14 35 [s 13],M 12 14,lQ 15 12 0,lQ 16 12 1,M 8 15,M 9 16]
abbrev aVE:LA:=[M 18 9,A 19 (e true (.iface true) (s 18) (c .nilIface)),M 17 19]
abbrev aVD:LA:=[A 20 (.aBM 64 (B 2)),A 6 (m (c .aAI)),M 7 20]
abbrev aVC:LA:=[M 22 1,A 23 (b .lss (s 22) (B 1)),M 24 23,lM 25 24 1,U 26 24 (b .gtr (s 25) (B 17)),lH 27 24 26,M 21 27]
abbrev aVB:LA:=[A 28 (.aBM 64 (B 1)),A 6 (m (c .aAI)),M 7 28]
abbrev aVA:LA:=[M 29 8,M 30 2,P 31 37 [s 30,(B 1)],P 32 36 [s 29,s 31],M 10 32]
abbrev aU9:LA:=[M 33 10,A 34 (e true (.iface true) (s 33) (c .nilIface))]
abbrev aU8:LA:=[M 35 10,A 6 (m (c .aAI)),M 7 35]
abbrev aU7:LA:=[G 36 2 3,P 37 38 [s 36],M 38 8,⟨S 39,N,.mp (.mk)⟩,A 40 (.build [(.sl F .nil []),.aAI,(.sl F .nil []),.aAT] [(0,F,(s 37)),(1,F,(s 38)),(3,F,(s 39))]),Y 41 4 40,M 11 41]
abbrev aP2:LA:=[M 42 1,lF 43 0]
abbrev aP1:LA:=[lA 44 43 42]
abbrev aDj:LD:=[(M 45 11,[]),(M 46 11,[]),(lR 47 46,[1]),(H 48 2 47,[1,2]),(E 49 48,[1,2,3]),(M 50 8,[]),(P 51 39 [s 50],[5]),(⟨S 52,N,y F [s 51]⟩,[5,6]),(⟨S 53,N,a F 8 (s 49) (s 52)⟩,[1,2,3,4,5,6,7]),(lR 54 45,Z9),(H 55 2 54,Z10)]
abbrev aFL:LA:=[⟨N,N,t F (s 55) (s 53)⟩]
abbrev aP0:LA:=[lB 56 43,M 43 56]
abbrev aLL:bF:=(Q (O aP1) (Q (C (s 44) Z (X 1)) (Q (K 2 (D 11 aDj aFL)) (O aP0))))
abbrev aPz:LA:=[M 57 11,M 6 57,A 7 (m (c .nilIface))]
def g2:LFn:=⟨(Q (O aVG) (Q (O aVF) (Q (K 0 (Q (O aVE) (C (s 17) (Q (O aVD) .ret) (Q (O aVC) (C (s 21) (Q (O aVB) .ret) Z))))) (Q (Q (O aVA) (Q (O aU9) (C (s 34) (Q (O aU8) .ret) Z))) (Q (O aU7) (Q (Q (O aP2) (K 1 (R aLL))) (Q (O aPz) .ret))))))),58,[.slot 6,.slot 7]⟩
theorem g2z:aJ Tryz.prog 9=some g2:=Zz
abbrev aUx:LA:=[A 6 (m (c .nilIface))]
abbrev aUw:LA:=[M 10 0,A 11 (e false .ptr (s 10) (c .aAI)),M 9 11]
abbrev aUv:LA:=[A 12 (.aBM 64 (B 13)),M 6 12]
abbrev aUu:LA:=[M 14 0,M 15 1,P 16 40 [s 14,s 15],A 17 (.not (s 16)),M 18 17,lM 19 18 0,lM 20 18 2,⟨S 21,S (18,false),k 40 [s 19,s 20]⟩,U 22 18 (.not (s 21)),lH 23 18 22,M 24 23,lM 25 24 1,lM 26 24 2,U 27 24 (b .eql (s 25) (s 26)),lH 28 24 27,M 13 28]
abbrev aUt:LA:=[A 29 (.aBM 64 (B 1)),M 6 29]
abbrev aUs:LA:=[M 30 1,M 31 2,A 32 (.build [(I j 0),(I j 0)] [(0,F,(s 30)),(1,F,(s 31))]),⟨S 7,N,x (.agg 2) (c (.agg [(I j 0),(I j 0)]))⟩,W 2 7 32]
abbrev aUr:LD:=[(M 33 0,[]),(lR 34 33,[0]),(H 35 3 34,[0,1]),(E 36 35,Z3),(G 37 2 7,[]),(A 38 (.aBw (.agg 2) [.int,.int] (.sl F .nil []) false (s 36) (s 37)),Z5),(lP 39 38,Z6),(A 40 (b .eql (s 39) (B 0)),Z7)]
abbrev aUq:LA:=[A 41 (.aBM 64 (B 13)),M 6 41]
abbrev aUp:LD:=[(M 42 0,[]),(lR 43 42,[0]),(H 44 3 43,[0,1]),(E 45 44,Z3),(G 46 2 7,[]),(A 47 (.aBw (.agg 2) [.int,.int] (.sl F .nil []) false (s 45) (s 46)),Z5),(A 48 (i F (s 47) (B 0)),Z6),(E 49 48,Z7),(M 8 49,Z8)]
abbrev aUo:LD:=[(M 50 0,[]),(lR 51 50,[0]),(H 52 3 51,[0,1]),(E 53 52,Z3),(G 54 2 7,[]),(M 55 0,[]),(lR 56 55,[5]),(H 57 3 56,[5,6]),(E 58 57,[5,6,7]),(G 59 2 7,[]),(A 60 (.aBw (.agg 2) [.int,.int] (.sl F .nil []) false (s 58) (s 59)),[5,6,7,8,9]),(A 61 (.slc F (s 60) (.some (B 1)) .none .none),[5,6,7,8,9,10])]
abbrev aO5:LA:=[⟨N,N,.mp (.put (.agg 2) [.int,.int] (s 53) (s 54) (s 61))⟩]
abbrev aO7:LD:=[(M 62 0,[]),(lR 63 62,[0]),(H 64 3 63,[0,1]),(E 65 64,Z3),(G 66 2 7,[]),(A 67 (.aBw (.agg 2) [.int,.int] (.sl F .nil []) false (s 65) (s 66)),Z5),(lP 68 67,Z6),(A 69 (b .eql (s 68) (B 0)),Z7)]
abbrev aO6:LD:=[(M 70 0,[]),(lR 71 70,[0]),(H 72 3 71,[0,1]),(E 73 72,Z3),(G 74 2 7,[])]
abbrev aJ6:LA:=[⟨N,N,.mp (.del (.agg 2) [.int,.int] (s 73) (s 74))⟩]
abbrev aE9:LA:=[M 75 0,lR 76 75,H 77 2 76,E 78 77,M 79 2,lE 80 78 79,E 81 80,M 82 8,P 83 36 [s 81,s 82],M 6 83]
def g3:LFn:=⟨(Q (O aUx) (Q (K 0 (Q (O aUw) (C (s 9) (Q (O aUv) .ret) (Q (O aUu) (C (s 13) (Q (O aUt) .ret) Z))))) (Q (O aUs) (Q (Q (D 8 aUr aAV) (C (s 40) (Q (O aUq) .ret) Z)) (Q (D 9 aUp aAV) (Q (D 12 aUo aO5) (Q (Q (D 8 aO7 aAV) (C (s 69) (D 5 aO6 aJ6) Z)) (Q (O aE9) .ret)))))))),84,[.slot 6]⟩
theorem g3z:aJ Tryz.prog 10=some g3:=Zz
abbrev aUd:LA:=[⟨S 4,N,x F (s 0)⟩,Y 6 3 2,A 8 (m (c .nilIface))]
abbrev aUc:LA:=[E 15 4,A 16 (e false .ptr (s 15) (c .aAI))]
abbrev aUb:LA:=[A 17 (.aBM 64 (B 13)),M 8 17]
abbrev aUa:LA:=[A 18 (.aC0 (.func 41) [] [s 4,s 6]),M 9 18]
abbrev aUZ:LA:=[E 20 4,M 21 1,P 22 40 [s 20,s 21],A 23 (.not (s 22)),M 19 23]
abbrev aUY:LA:=[A 24 (.aBM 64 (B 1)),M 8 24]
abbrev aUX:LD:=[(E 26 4,[]),(lR 27 26,[0]),(H 28 1 27,[0,1]),(E 29 28,Z3),(G 30 3 6,[]),(P 31 43 [s 29,s 30],Z5),(A 32 (b .lss (s 31) (B 1)),Z6),(M 25 32,Z7)]
abbrev aUW:LA:=[A 33 (.aBM 64 (B 13)),M 8 33]
abbrev aUV:LA:=[M 35 3,M 36 9,P 37 44 [s 35,s 36],M 34 37]
abbrev aUU:LA:=[A 38 (.aBM 64 (B 2)),M 8 38]
abbrev aOj:LA:=[E 40 4,M 41 1,P 42 45 [s 40,s 41],M 39 42]
abbrev aOi:LA:=[A 43 (.aBM 64 (B 11)),M 8 43]
abbrev aGy:LD:=[(M 44 3,[]),(P 45 37 [s 44,(B 1)],[0]),(G 46 3 6,[]),(A 47 (.build [(I j 0),(I j 0),(I j 0),(I j 0)] [(0,(.agg 3),(s 46)),(3,F,(B (-1)))]),[2]),(⟨S 48,N,y (.agg 4) [s 47]⟩,[2,3]),(lS 49 4 32 45 48,Z5),(M 10 49,Z6)]
abbrev aE7:LA:=[]
abbrev aGx:LA:=[E 50 4,lR 51 50,H 52 1 51,E 53 52,M 54 10,P 55 36 [s 53,s 54],M 11 55]
abbrev aGw:LA:=[M 56 11,A 57 (e true (.iface true) (s 56) (c .nilIface))]
abbrev aGv:LA:=[M 58 11,M 8 58]
abbrev aGu:LA:=[E 59 4,lR 60 59,H 61 2 60,E 62 61,lP 63 62,lF 64 0]
abbrev aOh:LA:=[lA 65 64 63]
abbrev aOg:LA:=[M 66 64,lE 67 62 64,E 68 67,M 12 66,M 13 68]
abbrev aOf:LA:=[M 69 12,M 70 1,A 71 (b .neq (s 69) (s 70))]
abbrev aOe:LD:=[(E 72 4,[]),(lR 73 72,[0]),(H 74 3 73,[0,1]),(E 75 74,Z3),(M 76 1,[]),(M 77 12,[]),(A 78 (.build [(I j 0),(I j 0)] [(0,F,(s 76)),(1,F,(s 77))]),[4,5]),(E 79 4,[]),(lR 80 79,[7]),(H 81 3 80,[7,8]),(E 82 81,[7,8,9]),(M 83 1,[]),(M 84 12,[]),(A 85 (.build [(I j 0),(I j 0)] [(0,F,(s 83)),(1,F,(s 84))]),[11,12]),(A 86 (.aBw (.agg 2) [.int,.int] (.sl F .nil []) false (s 82) (s 85)),[7,8,9,10,11,12,13]),(M 87 10,[]),(⟨S 88,N,y F [s 87]⟩,[15]),(⟨S 89,N,a F 24 (s 86) (s 88)⟩,[7,8,9,10,11,12,13,14,15,16])]
abbrev aJy:LA:=[⟨N,N,.mp (.put (.agg 2) [.int,.int] (s 75) (s 78) (s 89))⟩]
abbrev aOd:LA:=[M 90 13,M 91 10,P 92 36 [s 90,s 91],M 14 92]
abbrev aOc:LA:=[M 93 14,A 94 (e true (.iface true) (s 93) (c .nilIface))]
abbrev aOb:LA:=[M 95 14,M 8 95]
abbrev aOa:LA:=[lB 96 64,M 64 96]
abbrev aKs:bF:=(Q (O aOh) (Q (C (s 65) Z (X 1)) (Q (K 2 (Q (O aOg) (Q (Q (O aOf) (C (s 71) (Q (D 18 aOe aJy) (X 2)) Z)) (Q (O aOd) (Q (O aOc) (C (s 94) (Q (O aOb) .ret) Z)))))) (O aOa))))
abbrev aGt:LA:=[A 8 (m (c .nilIface))]
def g4:LFn:=⟨(Q (O aUd) (Q (Q (O aUc) (C (s 16) (Q (O aUb) .ret) Z)) (Q (O aUa) (Q (K 0 (Q (O aUZ) (C (s 19) (Q (O aUY) .ret) (Q (D 8 aUX aAV) (C (s 25) (Q (O aUW) .ret) (Q (O aUV) (C (s 34) (Q (O aUU) .ret) (Q (O aOj) (C (s 39) (Q (O aOi) .ret) Z))))))))) (Q (D 7 aGy aE7) (Q (Q (O aGx) (Q (O aGw) (C (s 57) (Q (O aGv) .ret) Z))) (Q (Q (O aGu) (K 1 (R aKs))) (Q (O aGt) .ret)))))))),97,[.slot 8]⟩
theorem g4z:aJ Tryz.prog 11=some g4:=Zz
abbrev aFO:LA:=[Y 1 2 0,lG 2]
abbrev aSu:LA:=[H 3 0 1,E 4 3,A 5 (b .gtr (s 4) (B 14)),M 6 5,lL 7 6 0 1,lK 8 6 7,T 9 6 (b .leq (s 8) (B 200)),lI 10 6 9,M 11 10,lO 12 11 1 1,lN 13 11 12,U 14 11 (w (s 13)),U 15 11 (b .gtr (s 14) (B 40)),lH 16 11 15,M 2 16]
def g5:LFn:=⟨(Q (O aFO) (Q (O aSu) .ret)),17,[.slot 2]⟩
theorem g5z:aJ Tryz.prog 13=some g5:=Zz
abbrev aSt:LA:=[Y 1 2 0,⟨S 2,N,x (.agg 2) (c (.agg [(I j 0),(.sl (.agg 4) .nil [])]))⟩]
abbrev aSs:LD:=[(H 3 0 1,[]),(E 4 3,[0]),(H 5 1 1,[]),(E 6 5,[2]),(P 7 48 [s 6],[2,3]),(A 8 (.build [(I j 0),(.sl (.agg 4) .nil [])] [(0,F,(s 4)),(1,F,(s 7))]),Z5)]
abbrev aL1:LA:=[W 2 2 8]
def g6:LFn:=⟨(Q (O aSt) (Q (D 6 aSs aL1) .ret)),9,[.cell 2 (.agg 2)]⟩
theorem g6z:aJ Tryz.prog 14=some g6:=Zz
abbrev aSp:LA:=[Y 3 2 0,⟨S 6,N,x (.agg 5) (c (.agg [(I j 0),(.sl (.agg 4) .nil []),(.sl (.agg 4) .nil []),(.sl F .nil []),(.sl (.agg 3) .nil [])]))⟩,lF 7 0]
abbrev aSo:LA:=[G 14 2 3,P 15 49 [s 14],A 16 (.not (s 15))]
abbrev aSn:LA:=[A 17 (.build [(I j 0),(.sl (.agg 4) .nil []),(.sl (.agg 4) .nil []),(.sl F .nil []),(.sl (.agg 3) .nil [])] []),W 5 6 17,lF 7 2]
abbrev aSm:LA:=[M 18 1,A 19 (b .lss (s 18) (B 1)),M 20 19,lM 21 20 1,U 22 20 (b .gtr (s 21) (B 17)),lH 23 20 22]
abbrev aSl:LA:=[A 24 (.build [(I j 0),(.sl (.agg 4) .nil []),(.sl (.agg 4) .nil []),(.sl F .nil []),(.sl (.agg 3) .nil [])] []),W 5 6 24,lF 7 1]
abbrev aSk:LA:=[G 25 2 3,A 26 (.build [(I j 0),(.sl (.agg 4) .nil []),(.sl (.agg 4) .nil []),(.sl F .nil []),(.sl (.agg 3) .nil [])] [(0,(.agg 2),(s 25))]),⟨S 8,N,x (.agg 5) (c (.agg [(I j 0),(.sl (.agg 4) .nil []),(.sl (.agg 4) .nil []),(.sl F .nil []),(.sl (.agg 3) .nil [])]))⟩,W 5 8 26]
abbrev aSj:LA:=[A 9 (m (c (.sl (.agg 4) .nil [])))]
abbrev aH6:LA:=[lF 10 0]
abbrev aSi:LA:=[M 27 10,M 28 2,lP 29 28,lA 30 27 29]
abbrev aSh:LA:=[M 33 9,M 34 2,M 35 10,lC 36 3 34 35,G 37 3 36,A 38 (.build [(I j 0),(I j 0),(I j 0),(I j 0)] [(0,(.agg 3),(s 37)),(3,F,(B 1))]),⟨S 39,N,y (.agg 4) [s 38]⟩,lS 40 4 32 33 39,M 9 40]
abbrev aLd:LA:=[M 31 10,lB 32 31,M 10 32]
abbrev aSr:bF:=(Q (Q (O aSi) (C (s 30) Z (X 0))) (Q (K 1 (O aSh)) (O aLd)))
abbrev aLc:LA:=[G 42 2 3,M 43 9,P 44 50 [s 42,(c (.sl (.agg 4) .nil [])),s 43],M 41 44,lQ 45 41 0,lQ 46 41 1,M 11 45,M 12 46]
abbrev aLb:LA:=[M 47 12,A 48 (b .neq (s 47) (B 0))]
abbrev aLa:LA:=[A 49 (.build [(I j 0),(.sl (.agg 4) .nil []),(.sl (.agg 4) .nil []),(.sl F .nil []),(.sl (.agg 3) .nil [])] []),M 50 12,W 5 6 49,M 7 50]
abbrev aLZ:LA:=[M 51 11,H 52 2 8,⟨N,N,t F (s 52) (s 51)⟩]
abbrev aG6:LA:=[lF 13 0]
abbrev aLY:LA:=[M 53 13,M 54 1,lA 55 53 54]
abbrev aLX:LA:=[H 58 3 8,E 59 58,M 60 11,⟨S 61,N,y F [s 60]⟩,⟨S 62,N,a F 24 (s 59) (s 61)⟩,H 63 3 8,⟨N,N,t F (s 63) (s 62)⟩]
abbrev aLW:LA:=[M 56 13,lB 57 56,M 13 57]
abbrev aSq:bF:=(Q (Q (O aLY) (C (s 55) Z (X 2))) (Q (K 3 (O aLX)) (O aLW)))
abbrev aLV:LA:=[G 64 5 8,W 5 6 64,lF 7 0]
def g7:LFn:=⟨(Q (O aSp) (Q (Q (O aSo) (C (s 16) (Q (O aSn) .ret) Z)) (Q (Q (O aSm) (C (s 23) (Q (O aSl) .ret) Z)) (Q (O aSk) (Q (O aSj) (Q (Q (O aH6) (K 0 (R aSr))) (Q (O aLc) (Q (Q (O aLb) (C (s 48) (Q (O aLa) .ret) Z)) (Q (O aLZ) (Q (Q (O aG6) (K 2 (R aSq))) (Q (O aLV) .ret))))))))))),65,[.cell 6 (.agg 5),.slot 7]⟩
theorem g7z:aJ Tryz.prog 15=some g7:=Zz
abbrev aLS:LA:=[A 2 (m (c (.sl (.agg 3) .nil [])))]
abbrev aLR:LA:=[A 3 (m (c (.sl (.agg 3) .nil [])))]
abbrev aH5:LA:=[M 6 0,lP 7 6,lF 8 0]
abbrev aH4:LA:=[lA 9 8 7]
abbrev aSf:LA:=[lC 10 3 6 8,G 11 3 10,⟨S 5,N,x (.agg 3) (c (.agg [(I j 0),(I j 0),(I j 0)]))⟩,W 3 5 11]
abbrev aSe:LA:=[M 12 3,G 13 3 5,P 14 24 [s 13],⟨S 15,N,y (.agg 3) [s 14]⟩,lS 16 3 24 12 15,M 3 16]
abbrev aLQ:LA:=[lB 17 8,M 8 17]
abbrev aSg:bF:=(Q (O aH4) (Q (C (s 9) Z (X 0)) (Q (K 1 (Q (O aSf) (O aSe))) (O aLQ))))
abbrev aLP:LA:=[M 18 3,M 2 18]
def g8:LFn:=⟨(Q (O aLS) (Q (O aLR) (Q (Q (O aH5) (K 0 (R aSg))) (Q (O aLP) .ret)))),19,[.slot 2]⟩
theorem g8z:aJ Tryz.prog 16=some g8:=Zz
abbrev aGB:LA:=[lG 2]
abbrev aSd:LA:=[M 3 0,A 4 (e false .ptr (s 3) (c .aAI)),M 5 4,lM 6 5 0,U 7 5 (n (s 6)),lO 8 5 3 7,lN 9 5 8,U 10 5 (.aER (s 9)),U 11 5 (b .eql (s 10) (B 0)),lH 12 5 11,M 2 12]
def g9:LFn:=⟨(Q (O aGB) (Q (O aSd) .ret)),13,[.slot 2]⟩
theorem g9z:aJ Tryz.prog 17=some g9:=Zz
abbrev aDG:LA:=[lF 2 0]
abbrev aH3:LA:=[M 3 0,A 4 (e false .ptr (s 3) (c .aAI))]
abbrev aSc:LA:=[M 5 0,lR 6 5,H 7 2 6,E 8 7,lP 9 8,M 2 9]
def g10:LFn:=⟨(Q (O aDG) (Q (Q (O aH3) (C (s 4) (Q (O aDG) .ret) Z)) (Q (O aSc) .ret))),10,[.slot 2]⟩
theorem aTY:aJ Tryz.prog 18=some g10:=Zz
abbrev aGA:LA:=[A 2 (m (c .aAI))]
abbrev aSb:LA:=[M 5 0,lR 6 5,H 7 1 6,E 8 7,P 9 39 [s 8],M 2 9]
def g11:LFn:=⟨(Q (O aGA) (Q (Q (O aH3) (C (s 4) (Q (O aGA) .ret) Z)) (Q (O aSb) .ret))),10,[.slot 2]⟩
theorem aWK:aJ Tryz.prog 19=some g11:=Zz
abbrev aLO:LA:=[A 4 (m (c (.sl F .nil [])))]
abbrev aSa:LA:=[M 5 0,M 6 1,P 7 40 [s 5,s 6],A 8 (.not (s 7))]
abbrev aSZ:LA:=[M 9 0,lR 10 9,H 11 2 10,E 12 11,M 13 1,lE 14 12 13,E 15 14,P 16 46 [s 15],M 4 16]
def g12:LFn:=⟨(Q (O aLO) (Q (Q (O aSa) (C (s 8) (Q (O aLO) .ret) Z)) (Q (O aSZ) .ret))),17,[.slot 4]⟩
theorem aTX:aJ Tryz.prog 20=some g12:=Zz
abbrev aDw:LA:=[lG 4]
abbrev aSY:LA:=[M 5 0,P 6 25 [s 5],M 7 1,A 8 (b .eql (s 6) (s 7)),M 4 8]
def g13:LFn:=⟨(Q (O aDw) (Q (O aSY) .ret)),9,[.slot 4]⟩
theorem aWJ:aJ Tryz.prog 21=some g13:=Zz
abbrev aLN:LA:=[Y 3 2 0,Y 4 3 1,Y 5 3 2,lG 6]
abbrev aSX:LD:=[(G 7 2 3,[]),(H 8 0 4,[]),(E 9 8,[1]),(H 10 0 5,[]),(E 11 10,[3]),(P 12 52 [s 7,s 9,s 11],Z5),(G 13 3 4,[]),(G 14 3 5,[]),(P 15 51 [s 12,s 13,s 14],Z8),(M 6 15,Z9)]
def g14:LFn:=⟨(Q (O aLN) (Q (D 10 aSX aAV) .ret)),16,[.slot 6]⟩
theorem aWI:aJ Tryz.prog 22=some g14:=Zz
abbrev aSW:LA:=[G 7 3 4,G 8 3 5,A 9 (e false (.plain (.agg 3) [.int,.int,.int]) (s 7) (s 8)),M 10 9,lO 11 10 1 5,U 12 10 (l (.agg 2) (s 11)),⟨S 13,S (10,false),k 53 [s 12]⟩,U 14 10 (.not (s 13)),lH 15 10 14]
abbrev aSV:LD:=[(G 16 2 3,[]),(H 17 0 4,[]),(E 18 17,[1]),(H 19 1 4,[]),(G 20 2 19,[3]),(H 21 0 5,[]),(E 22 21,[5]),(P 23 55 [s 16,s 18,s 20,s 22],Z7),(H 24 1 5,[]),(G 25 2 24,[8]),(P 26 54 [s 23,s 25],Z10),(M 6 26,Z11)]
def g15:LFn:=⟨(Q (O aLN) (Q (Q (O aSW) (C (s 15) (Q (O aM3) .ret) Z)) (Q (D 12 aSV aAV) .ret))),27,[.slot 6]⟩
theorem aWH:aJ Tryz.prog 23=some g15:=Zz
abbrev aSU:LA:=[Y 1 3 0,⟨S 2,N,x (.agg 3) (c (.agg [(I j 0),(I j 0),(I j 0)]))⟩]
abbrev aST:LD:=[(H 3 0 1,[]),(E 4 3,[0]),(H 5 1 1,[]),(G 6 2 5,[2]),(P 7 56 [s 6],[2,3]),(A 8 (.build [(I j 0),(I j 0),(I j 0)] [(0,F,(s 4)),(1,(.agg 2),(s 7))]),Z5)]
abbrev aLM:LA:=[W 3 2 8]
def g16:LFn:=⟨(Q (O aSU) (Q (D 6 aST aLM) .ret)),9,[.cell 2 (.agg 3)]⟩
theorem aWG:aJ Tryz.prog 24=some g16:=Zz
abbrev aSS:LA:=[M 5 0,A 6 (e false (.iface true) (s 5) (c .nilIface))]
abbrev aSR:LA:=[M 8 0,A 9 (.aHG 64 (I j 0) (s 8)),M 7 9,lQ 10 7 0,lQ 11 7 1,M 3 10,M 4 11]
abbrev aSQ:LA:=[M 12 4,M 13 12,lJ 14 13 3,T 15 13 (b .neq (s 14) (B 0)),lI 16 13 15]
abbrev aSP:LA:=[M 17 3,M 2 17]
abbrev aSO:LA:=[A 2 (m (B (-1)))]
def g17:LFn:=⟨(Q (O aDG) (Q (Q (O aSS) (C (s 6) (Q (O aDG) .ret) Z)) (Q (Q (O aSR) (Q (O aSQ) (C (s 16) (Q (O aSP) .ret) Z))) (Q (O aSO) .ret)))),18,[.slot 2]⟩
theorem aWF:aJ Tryz.prog 25=some g17:=Zz
abbrev aDv:LA:=[lF 6 0]
abbrev aSN:LA:=[M 7 0,A 8 (e false .ptr (s 7) (c .aAI))]
abbrev aSM:LA:=[M 9 0,lR 10 9,H 11 3 10,E 12 11,M 13 1,M 14 2,A 15 (.build [(I j 0),(I j 0)] [(0,F,(s 13)),(1,F,(s 14))]),A 16 (.aBw (.agg 2) [.int,.int] (.sl F .nil []) false (s 12) (s 15)),lP 17 16,M 6 17]
def g18:LFn:=⟨(Q (O aDv) (Q (Q (O aSN) (C (s 8) (Q (O aDv) .ret) Z)) (Q (O aSM) .ret))),18,[.slot 6]⟩
theorem aWE:aJ Tryz.prog 26=some g18:=Zz
abbrev aSL:LA:=[A 0 (m (c .aAI)),⟨S 1,N,x (.agg 3) (c (.agg [(I j 0),(I j 0),(I j 0)]))⟩,⟨S 2,N,x (.agg 3) (c (.agg [(I j 0),(I j 0),(I j 0)]))⟩,lG 3]
abbrev aSK:LA:=[A 11 (.build [(I j 0),(I j 0),(.bool false),(I j 0)] [(0,F,(B 0)),(1,F,(B 1))]),⟨S 12,N,y (.agg 4) [s 11]⟩,P 13 62 [(B 2),s 12],M 10 13,lQ 14 10 0,lQ 15 10 1,⟨S 4,N,x (.agg 2) (c (.agg [(I j 0),(.sl (.agg 4) .nil [])]))⟩,W 2 4 14,M 5 15]
abbrev aSJ:LA:=[A 16 (.build [(I j 0),(I j 0)] [(0,F,(B 1))]),A 17 (.build [(I j 0),(I j 0),(I j 0)] [(1,(.agg 2),(s 16))]),⟨S 6,N,x (.agg 3) (c (.agg [(I j 0),(I j 0),(I j 0)]))⟩,W 3 6 17]
abbrev aSI:LA:=[A 18 (.build [(I j 0),(I j 0)] [(0,F,(B 1))]),A 19 (.build [(I j 0),(I j 0),(I j 0)] [(0,F,(B 1)),(1,(.agg 2),(s 18))]),⟨S 7,N,x (.agg 3) (c (.agg [(I j 0),(I j 0),(I j 0)]))⟩,W 3 7 19]
abbrev aSH:LA:=[G 21 2 4,G 22 3 6,⟨S 23,N,y (.agg 3) [s 22]⟩,P 24 9 [s 21,(B 2),s 23],M 20 24,lQ 25 20 0,lQ 26 20 1,M 8 25,M 9 26]
abbrev aFN:LD:=[(M 27 8,[]),(G 28 3 6,[]),(G 29 3 7,[]),(M 30 5,[]),(A 31 (e false (.iface true) (s 30) (c .nilIface)),[3]),(M 32 31,[3,4]),(lJ 33 32 9,[3,4,5]),(T 34 32 (e false (.iface true) (s 33) (c .nilIface)),[3,4,5,6]),(lI 35 32 34,[3,4,5,6,7]),(M 36 35,[3,4,5,6,7,8]),(lJ 37 36 8,[3,4,5,6,7,8,9]),(T 38 36 (e true .ptr (s 37) (c .aAI)),[3,4,5,6,7,8,9,10]),(lI 39 36 38,[3,4,5,6,7,8,9,10,11]),(M 0 27,[0,3,4,5,6,7,8,9]),(W 3 1 28,[0,1,3,4,5,6,7,8,9,13]),(W 3 2 29,[0,1,2,3,4,5,6,7,8,9,13,14]),(M 3 39,Z16)]
abbrev aFM:LA:=[]
def g19:LFn:=⟨(Q (O aSL) (Q (O aSK) (Q (O aSJ) (Q (O aSI) (Q (O aSH) (Q (D 18 aFN aFM) .ret)))))),40,[.slot 0,.cell 1 (.agg 3),.cell 2 (.agg 3),.slot 3]⟩
theorem aWD:aJ Tryz.prog 34=some g19:=Zz
abbrev aSG:LA:=[Y 1 2 0,A 2 (m (c .aAI)),A 3 (m (c .nilIface))]
abbrev aLK:LA:=[G 5 2 1,P 6 63 [s 5],A 7 (.not (s 6))]
abbrev aSF:LA:=[A 8 (.aBM 64 (B 2)),A 2 (m (c .aAI)),M 3 8]
abbrev aSE:LD:=[(H 9 0 1,[]),(E 10 9,[0]),(H 11 1 1,[]),(E 12 11,[2]),(P 13 64 [s 12],[2,3]),(A 14 (.build [(I j 0),(.sl (.agg 4) .nil [])] [(0,F,(s 10)),(1,F,(s 13))]),Z5),(⟨S 4,N,x (.agg 2) (c (.agg [(I j 0),(.sl (.agg 4) .nil [])]))⟩,[])]
abbrev aLJ:LA:=[W 2 4 14]
abbrev aSD:LD:=[(G 15 2 4,[]),(G 16 2 4,[]),(P 17 38 [s 16],[1]),(⟨S 18,N,.mp (.mk)⟩,[]),(A 19 (.build [(I j 0),(.sl (.agg 4) .nil []),(.sl F .nil []),.aAT] [(0,(.agg 2),(s 15)),(2,F,(s 17)),(3,F,(s 18))]),Z4),(Y 20 4 19,Z5),(M 2 20,Z6),(A 3 (m (c .nilIface)),Z7)]
def g20:LFn:=⟨(Q (O aSG) (Q (Q (O aLK) (C (s 7) (Q (O aSF) .ret) Z)) (Q (D 7 aSE aLJ) (Q (D 8 aSD aAV) .ret)))),21,[.slot 2,.slot 3]⟩
theorem aTV:aJ Tryz.prog 35=some g20:=Zz
abbrev aSA:LA:=[⟨S 2,N,x F (s 0)⟩,A 4 (m (c .nilIface))]
abbrev aR9:LA:=[E 12 2,A 13 (e false .ptr (s 12) (c .aAI))]
abbrev aR8:LA:=[A 14 (.aBM 64 (B 13)),M 4 14]
abbrev aR7:LA:=[A 15 (.aC0 (.func 65) [] [s 2]),M 5 15]
abbrev aR6:LA:=[A 6 (m (c (.fn (.func 67) [] [])))]
abbrev aR5:LA:=[M 17 1,M 18 5,P 19 69 [s 17,s 18],M 16 19]
abbrev aR4:LA:=[A 20 (.aBM 64 (B 2)),M 4 20]
abbrev aR3:LA:=[M 22 1,M 23 6,P 24 69 [s 22,s 23],M 21 24]
abbrev aR2:LA:=[A 25 (.aBM 64 (B 1)),M 4 25]
abbrev aR1:LA:=[E 26 2,lR 27 26,H 28 3 27,E 29 28,P 30 70 [s 29],M 7 30]
abbrev aLI:LA:=[M 31 1,lP 32 31,lF 33 0]
abbrev aLH:LA:=[lA 34 33 32]
abbrev aLG:LA:=[lC 35 4 31 33,G 36 4 35,⟨S 9,N,x (.agg 4) (c (.agg [(I j 0),(I j 0),(I j 0),(I j 0)]))⟩,W 4 9 36]
abbrev aLF:LA:=[M 37 7,H 38 0 9,G 39 3 38,H 40 3 9,E 41 40,P 42 71 [s 37,s 39,s 41]]
abbrev aLE:LA:=[lB 43 33,M 33 43]
abbrev aSC:bF:=(Q (O aLH) (Q (C (s 34) Z (X 1)) (Q (K 2 (Q (O aLG) (O aLF))) (O aLE))))
abbrev aLD:LA:=[M 44 7,⟨S 45,N,.mp (.rng (s 44))⟩]
abbrev aLC:LA:=[⟨S 46,N,.mp (.nxt (s 45))⟩,lQ 47 46 0]
abbrev aLB:LA:=[⟨S 48,N,.mp (.key (s 45))⟩,lQ 49 48 1,M 11 49]
abbrev aLA:LA:=[M 50 11,P 51 68 [s 50],A 52 (.not (s 51))]
abbrev aK9:LA:=[A 53 (.aBM 64 (B 1)),M 4 53]
abbrev aSB:bF:=(Q (O aLC) (Q (C (s 47) Z (X 3)) (K 4 (Q (O aLB) (Q (O aLA) (C (s 52) (Q (O aK9) .ret) Z))))))
abbrev aK8:LA:=[E 54 2,M 55 7,lR 56 54,H 57 3 56,⟨N,N,t F (s 57) (s 55)⟩]
abbrev aK7:LA:=[A 4 (m (c .nilIface))]
def g21:LFn:=⟨(Q (O aSA) (Q (Q (O aR9) (C (s 13) (Q (O aR8) .ret) Z)) (Q (O aR7) (Q (O aR6) (Q (K 0 (Q (O aR5) (C (s 16) (Q (O aR4) .ret) (Q (O aR3) (C (s 21) (Q (O aR2) .ret) Z))))) (Q (O aR1) (Q (Q (O aLI) (K 1 (R aSC))) (Q (Q (O aLD) (K 3 (R aSB))) (Q (O aK8) (Q (O aK7) .ret)))))))))),58,[.slot 4]⟩
theorem aV7:aJ Tryz.prog 36=some g21:=Zz
abbrev aRz:LA:=[A 4 (m (c (.sl (.agg 4) .nil [])))]
abbrev aRy:LA:=[A 5 (m (c (.sl (.agg 4) .nil [])))]
abbrev aRx:LA:=[M 8 0,lP 9 8,lF 10 0]
abbrev aH2:LA:=[lA 11 10 9]
abbrev aRw:LA:=[lC 12 3 8 10,G 13 3 12,⟨S 7,N,x (.agg 3) (c (.agg [(I j 0),(I j 0),(I j 0)]))⟩,W 3 7 13]
abbrev aRv:LA:=[M 14 5,G 15 3 7,M 16 1,A 17 (.build [(I j 0),(I j 0),(I j 0),(I j 0)] [(0,(.agg 3),(s 15)),(3,F,(s 16))]),⟨S 18,N,y (.agg 4) [s 17]⟩,lS 19 4 32 14 18,M 5 19]
abbrev aRu:LA:=[lB 20 10,M 10 20]
abbrev aR0:bF:=(Q (O aH2) (Q (C (s 11) Z (X 0)) (Q (K 1 (Q (O aRw) (O aRv))) (O aRu))))
abbrev aRt:LA:=[M 21 5,M 4 21]
def g22:LFn:=⟨(Q (O aRz) (Q (O aRy) (Q (Q (O aRx) (K 0 (R aR0))) (Q (O aRt) .ret)))),22,[.slot 4]⟩
theorem aV6:aJ Tryz.prog 37=some g22:=Zz
abbrev aRr:LA:=[Y 1 2 0,A 2 (m (c (.sl F .nil [])))]
abbrev aH1:LA:=[A 2 (m (c (.sl F .nil [])))]
abbrev aK6:LA:=[A 3 (m (c (.sl F .nil [])))]
abbrev aRq:LA:=[H 8 0 1,E 9 8,lF 10 0]
abbrev aRp:LA:=[M 12 10,M 4 12]
abbrev aRo:LA:=[M 13 3,G 14 2 1,M 15 4,P 16 72 [s 14,s 15],⟨S 17,N,y F [s 16]⟩,⟨S 18,N,a F 24 (s 13) (s 17)⟩,M 3 18]
abbrev aRn:LA:=[lB 19 10,M 10 19]
abbrev aRs:bF:=(Q (O aH2) (Q (C (s 11) Z (X 0)) (Q (K 1 (Q (O aRp) (O aRo))) (O aRn))))
abbrev aRm:LA:=[M 20 3,M 2 20]
def g23:LFn:=⟨(Q (O aRr) (Q (Q (O aLK) (C (s 7) (Q (O aH1) .ret) Z)) (Q (O aK6) (Q (Q (O aRq) (K 0 (R aRs))) (Q (O aRm) .ret))))),21,[.slot 2]⟩
theorem aV5:aJ Tryz.prog 38=some g23:=Zz
abbrev aG5:LD:=[(M 5 0,[]),(lR 6 5,[0]),(H 7 0 6,[0,1]),(G 8 2 7,Z3),(M 9 0,[]),(lR 10 9,[4]),(H 11 2 10,[4,5]),(E 12 11,[4,5,6]),(M 13 0,[]),(lR 14 13,[8]),(H 15 3 14,[8,9]),(E 16 15,[8,9,10]),(P 17 70 [s 16],[8,9,10,11]),(A 18 (.build [(I j 0),(.sl (.agg 4) .nil []),(.sl F .nil []),.aAT] [(0,(.agg 2),(s 8)),(2,F,(s 12)),(3,F,(s 17))]),Z13),(Y 19 4 18,Z14),(M 2 19,Z15)]
def g24:LFn:=⟨(Q (O aGA) (Q (Q (O aH3) (C (s 4) (Q (O aGA) .ret) Z)) (Q (D 16 aG5 aAV) .ret))),20,[.slot 2]⟩
theorem aV4:aJ Tryz.prog 39=some g24:=Zz
abbrev aRl:LA:=[M 5 0,A 6 (e true .ptr (s 5) (c .aAI)),M 7 6,lJ 8 7 1,T 9 7 (b .geq (s 8) (B 0)),lI 10 7 9,M 11 10,lJ 12 11 1,lJ 13 11 0,T 14 11 (n (s 13)),lL 15 11 2 14,lK 16 11 15,T 17 11 (w (s 16)),T 18 11 (b .lss (s 12) (s 17)),lI 19 11 18,M 4 19]
def g25:LFn:=⟨(Q (O aDw) (Q (O aRl) .ret)),20,[.slot 4]⟩
theorem aTU:aJ Tryz.prog 40=some g25:=Zz
abbrev aRk:LA:=[Y 3 3 0,lG 4]
abbrev aRj:LA:=[E 5 1,G 6 3 2,G 7 3 3,P 8 42 [s 5,s 6,s 7],A 9 (.not (s 8)),M 4 9]
def g26:LFn:=⟨(Q (O aRk) (Q (O aRj) .ret)),10,[.slot 4]⟩
theorem aV3:aJ Tryz.prog 41=some g26:=Zz
abbrev aK5:LA:=[Y 4 3 1,Y 5 3 2,lG 6]
abbrev aRi:LD:=[(H 7 0 5,[]),(E 8 7,[0]),(A 9 (b .lss (s 8) (B 0)),[0,1]),(M 10 9,Z3),(lO 11 10 0 5,Z4),(lN 12 10 11,Z5),(lM 13 10 0,Z4),(U 14 10 (n (s 13)),[0,1,2,3,6]),(lO 15 10 0 14,[0,1,2,3,6,7]),(lN 16 10 15,[0,1,2,3,6,7,8]),(U 17 10 (w (s 16)),[0,1,2,3,6,7,8,9]),(U 18 10 (b .geq (s 12) (s 17)),Z11),(lH 19 10 18,Z12),(M 20 19,Z13),(lO 21 20 0 4,Z14),(lN 22 20 21,Z15),(U 23 20 (b .lss (s 22) (B 0)),Z16),(lH 24 20 23,Z17),(M 25 24,Z18),(lO 26 25 0 4,Z19),(lN 27 25 26,Z20),(lM 28 25 0,Z19),(U 29 25 (n (s 28)),[0,1,2,3,4,5,6,7,8,9,10,11,12,13,14,15,16,17,18,21]),(lO 30 25 0 29,[0,1,2,3,4,5,6,7,8,9,10,11,12,13,14,15,16,17,18,21,22]),(lN 31 25 30,[0,1,2,3,4,5,6,7,8,9,10,11,12,13,14,15,16,17,18,21,22,23]),(U 32 25 (w (s 31)),[0,1,2,3,4,5,6,7,8,9,10,11,12,13,14,15,16,17,18,21,22,23,24]),(U 33 25 (b .geq (s 27) (s 32)),Z26),(lH 34 25 33,Z27)]
abbrev aRh:LD:=[(M 35 0,[]),(lR 36 35,[0]),(H 37 0 36,[0,1]),(E 38 37,Z3),(H 39 0 4,[]),(E 40 39,[4]),(lE 41 38 40,Z6),(E 42 41,Z7),(H 43 0 5,[]),(E 44 43,[8]),(lE 45 42 44,Z10),(E 46 45,Z11),(G 47 3 4,[]),(G 48 3 5,[]),(P 49 51 [s 46,s 47,s 48],Z14),(M 6 49,Z15)]
def g27:LFn:=⟨(Q (O aK5) (Q (Q (D 28 aRi aAV) (C (s 34) (Q (O aM3) .ret) Z)) (Q (D 16 aRh aAV) .ret))),50,[.slot 6]⟩
theorem aV2:aJ Tryz.prog 42=some g27:=Zz
abbrev aRg:LA:=[Y 3 3 1,lF 4 0]
abbrev aRf:LA:=[M 5 0,A 6 (e false .ptr (s 5) (c .aAI))]
abbrev aH0:LA:=[lF 4 0]
abbrev aRe:LD:=[(M 7 0,[]),(lR 8 7,[0]),(H 9 3 8,[0,1]),(E 10 9,Z3),(G 11 3 3,[]),(A 12 (.aBw (.agg 3) [.int,.int,.int] (I j 0) false (s 10) (s 11)),Z5),(M 4 12,Z6)]
def g28:LFn:=⟨(Q (O aRg) (Q (Q (O aRf) (C (s 6) (Q (O aH0) .ret) Z)) (Q (D 7 aRe aAV) .ret))),13,[.slot 4]⟩
theorem aV1:aJ Tryz.prog 43=some g28:=Zz
abbrev aRc:LA:=[M 6 0,lR 7 6,H 8 2 7,E 9 8,lP 10 9,lF 11 0]
abbrev aRb:LA:=[lA 12 11 10]
abbrev aRa:LA:=[M 13 11,M 5 13]
abbrev aRZ:LA:=[M 14 0,lR 15 14,H 16 3 15,E 17 16,M 18 1,M 19 5,A 20 (.build [(I j 0),(I j 0)] [(0,F,(s 18)),(1,F,(s 19))]),A 21 (.aBw (.agg 2) [.int,.int] (.sl F .nil []) false (s 17) (s 20)),lP 22 21,A 23 (b .geq (s 22) (B 1000))]
abbrev aRY:LA:=[A 4 (m Bb)]
abbrev aRX:LA:=[lB 24 11,M 11 24]
abbrev aRd:bF:=(Q (O aRb) (Q (C (s 12) Z (X 0)) (Q (K 1 (Q (O aRa) (Q (O aRZ) (C (s 23) (Q (O aRY) .ret) Z)))) (O aRX))))
def g29:LFn:=⟨(Q (O aDw) (Q (Q (O aRc) (K 0 (R aRd))) (Q (O aDw) .ret))),25,[.slot 4]⟩
theorem aV0:aJ Tryz.prog 45=some g29:=Zz
abbrev aRV:LA:=[M 6 0,A 7 (e false .ptr (s 6) (c .aAI))]
abbrev aRU:LA:=[M 8 0,P 9 74 [s 8],M 4 9]
abbrev aRT:LA:=[M 10 0,lR 11 10,H 12 0 11,H 13 0 12,E 14 13,lF 15 0]
abbrev aRS:LA:=[lA 16 15 14]
abbrev aRR:LA:=[M 17 15,M 5 17]
abbrev aRQ:LA:=[M 18 3,M 19 0,M 20 4,M 21 5,P 22 75 [s 19,s 20,s 21],⟨S 23,N,y F [s 22]⟩,⟨S 24,N,a F 24 (s 18) (s 23)⟩,M 3 24]
abbrev aRP:LA:=[lB 25 15,M 15 25]
abbrev aRW:bF:=(Q (O aRS) (Q (C (s 16) Z (X 0)) (Q (K 1 (Q (O aRR) (O aRQ))) (O aRP))))
abbrev aK4:LA:=[M 26 3,M 2 26]
def g30:LFn:=⟨(Q (O aH1) (Q (Q (O aRV) (C (s 7) (Q (O aH1) .ret) Z)) (Q (O aK6) (Q (O aRU) (Q (Q (O aRT) (K 0 (R aRW))) (Q (O aK4) .ret)))))),27,[.slot 2]⟩
theorem aVz:aJ Tryz.prog 46=some g30:=Zz
abbrev aHz:LA:=[A 2 (m (c (.sl (.agg 4) .nil [])))]
abbrev aK3:LA:=[A 3 (m (c (.sl (.agg 4) .nil [])))]
abbrev aK2:LA:=[lC 10 4 6 8,G 11 4 10,⟨S 5,N,x (.agg 4) (c (.agg [(I j 0),(I j 0),(.bool false),(I j 0)]))⟩,W 4 5 11]
abbrev aRN:LD:=[(M 12 3,[]),(H 13 0 5,[]),(E 14 13,[1]),(H 15 1 5,[]),(E 16 15,[3]),(H 17 2 5,[]),(G 18 2 17,[5]),(P 19 79 [s 18],[5,6]),(A 20 (.build [(I j 0),(I j 0),(.bool false),(I j 0)] [(0,F,(s 14)),(1,F,(s 16)),(2,(.agg 2),(s 19))]),[1,2,3,4,5,6,7]),(⟨S 21,N,y (.agg 4) [s 20]⟩,[1,2,3,4,5,6,7,8]),(lS 22 4 32 12 21,Z10)]
abbrev aK1:LA:=[M 3 22]
abbrev aRM:LA:=[lB 23 8,M 8 23]
abbrev aRO:bF:=(Q (O aH4) (Q (C (s 9) Z (X 0)) (Q (K 1 (Q (O aK2) (D 11 aRN aK1))) (O aRM))))
abbrev aRL:LA:=[M 24 3,M 2 24]
def g31:LFn:=⟨(Q (O aHz) (Q (O aK3) (Q (Q (O aH5) (K 0 (R aRO))) (Q (O aRL) .ret)))),25,[.slot 2]⟩
theorem aVy:aJ Tryz.prog 48=some g31:=Zz
abbrev aRJ:LA:=[H 7 0 1,E 8 7,H 9 1 1,E 10 9,P 11 80 [s 8,s 10],M 6 11,lQ 12 6 0,lQ 13 6 1,⟨S 3,N,x (.agg 2) (c (.agg [(I j 0),(.sl (.agg 4) .nil [])]))⟩,W 2 3 12,M 4 13]
abbrev aRI:LA:=[M 14 4,A 15 (b .neq (s 14) (B 0)),M 16 15,lO 17 16 1 3,lN 18 16 17,U 19 16 (w (s 18)),lO 20 16 1 1,lN 21 16 20,U 22 16 (w (s 21)),U 23 16 (b .neq (s 19) (s 22)),lH 24 16 23]
abbrev aHy:LA:=[lF 5 0]
abbrev aRH:LA:=[M 25 5,H 26 1 1,E 27 26,lP 28 27,lA 29 25 28]
abbrev aRG:LD:=[(H 32 1 3,[]),(E 33 32,[0]),(M 34 5,[]),(lC 35 4 33 34,Z3),(G 36 4 35,Z4),(H 37 1 1,[]),(E 38 37,[5]),(M 39 5,[]),(lC 40 4 38 39,[5,6,7]),(G 41 4 40,[5,6,7,8]),(A 42 (e true (.plain (.agg 4) [.int,.int,.bool,.int]) (s 36) (s 41)),Z10)]
abbrev aRF:LA:=[M 30 5,lB 31 30,M 5 31]
abbrev aRK:bF:=(Q (Q (O aRH) (C (s 29) Z (X 0))) (Q (K 1 (Q (D 11 aRG aAV) (C (s 42) (Q (O aGB) .ret) Z))) (O aRF)))
abbrev aRE:LA:=[A 2 (m Bb)]
def g32:LFn:=⟨(Q (O aFO) (Q (O aRJ) (Q (Q (O aRI) (C (s 24) (Q (O aGB) .ret) Z)) (Q (Q (O aHy) (K 0 (R aRK))) (Q (O aRE) .ret))))),43,[.slot 2]⟩
theorem aVx:aJ Tryz.prog 49=some g32:=Zz
abbrev aRA:LA:=[Y 3 2 0,A 6 (m (c (.sl (.agg 4) .nil []))),lF 7 0]
abbrev aF9:LA:=[lF 8 0]
abbrev aQ9:LA:=[M 12 8,M 13 2,lP 14 13,lA 15 12 14]
abbrev aQ8:LD:=[(M 18 2,[]),(M 19 8,[]),(lC 20 4 18 19,[0,1]),(H 21 0 20,Z3),(H 22 0 21,Z4),(E 23 22,Z5),(A 24 (b .lss (s 23) (B 0)),Z6),(M 25 24,Z7),(lM 26 25 2,Z8),(lM 27 25 8,Z8),(U 28 25 (i (.agg 4) (s 26) (s 27)),Z10),(lO 29 25 0 28,Z11),(lO 30 25 0 29,Z12),(lN 31 25 30,Z13),(lO 32 25 0 3,Z8),(lN 33 25 32,[0,1,2,3,4,5,6,7,14]),(U 34 25 (b .geq (s 31) (s 33)),Z16),(lH 35 25 34,Z17),(M 36 35,Z18),(lM 37 36 2,Z19),(lM 38 36 8,Z19),(U 39 36 (i (.agg 4) (s 37) (s 38)),Z21),(lO 40 36 0 39,Z22),(lO 41 36 1 40,Z23),(U 42 36 (l (.agg 2) (s 41)),Z24),(⟨S 43,S (36,false),k 53 [s 42]⟩,Z25),(U 44 36 (.not (s 43)),Z26),(lH 45 36 44,Z27)]
abbrev aQ7:LA:=[M 46 1,M 6 46,lF 7 2]
abbrev aQ6:LA:=[M 16 8,lB 17 16,M 8 17]
abbrev aRD:bF:=(Q (Q (O aQ9) (C (s 15) Z (X 0))) (Q (K 1 (Q (D 28 aQ8 aAV) (C (s 45) (Q (O aQ7) .ret) Z))) (O aQ6)))
abbrev aF8:LA:=[lF 9 0]
abbrev aQ5:LA:=[M 47 9,M 48 2,lP 49 48,lA 50 47 49]
abbrev aQ4:LA:=[M 53 2,M 54 9,lC 55 4 53 54,H 56 3 55,E 57 56,A 58 (b .gtr (s 57) (B 1000000)),M 59 58,lM 60 59 2,lM 61 59 9,U 62 59 (i (.agg 4) (s 60) (s 61)),lO 63 59 3 62,lN 64 59 63,U 65 59 (b .lss (s 64) (B (-1000000))),lH 66 59 65]
abbrev aQ3:LA:=[M 67 1,M 6 67,lF 7 1]
abbrev aK0:LA:=[M 51 9,lB 52 51,M 9 52]
abbrev aRC:bF:=(Q (Q (O aQ5) (C (s 50) Z (X 2))) (Q (K 3 (Q (O aQ4) (C (s 66) (Q (O aQ3) .ret) Z))) (O aK0)))
abbrev aKz:LA:=[⟨S 68,N,y (.agg 4) []⟩,M 69 1,lS 70 4 32 68 69,M 71 2,lS 72 4 32 70 71,P 73 81 [s 72],M 10 73]
abbrev aDi:LA:=[lF 11 0]
abbrev aKy:LA:=[M 74 11,M 75 10,lP 76 75,lA 77 74 76]
abbrev aKx:LA:=[M 80 10,M 81 11,lC 82 4 80 81,H 83 3 82,E 84 83,A 85 (b .gtr (s 84) (B 1000000)),M 86 85,lM 87 86 10,lM 88 86 11,U 89 86 (i (.agg 4) (s 87) (s 88)),lO 90 86 3 89,lN 91 86 90,U 92 86 (b .lss (s 91) (B (-1000000))),lH 93 86 92]
abbrev aKw:LA:=[M 94 1,M 6 94,lF 7 1]
abbrev aKv:LA:=[M 78 11,lB 79 78,M 11 79]
abbrev aRB:bF:=(Q (Q (O aKy) (C (s 77) Z (X 4))) (Q (K 5 (Q (O aKx) (C (s 93) (Q (O aKw) .ret) Z))) (O aKv)))
abbrev aKu:LA:=[M 95 10,M 6 95,lF 7 0]
def g33:LFn:=⟨(Q (O aRA) (Q (Q (O aF9) (K 0 (R aRD))) (Q (Q (O aF8) (K 2 (R aRC))) (Q (O aKz) (Q (Q (O aDi) (K 4 (R aRB))) (Q (O aKu) .ret)))))),96,[.slot 6,.slot 7]⟩
theorem aVw:aJ Tryz.prog 50=some g33:=Zz
abbrev aQ2:LA:=[A 8 (.aC0 (.func 82) [] [s 4,s 5]),M 7 8]
abbrev aQ1:LA:=[G 9 3 4,G 10 3 5,A 11 (e true (.plain (.agg 3) [.int,.int,.int]) (s 9) (s 10)),M 12 11,lL 13 12 1 5,T 14 12 (l (.agg 2) (s 13)),⟨S 15,S (12,true),k 66 [s 14]⟩,lI 16 12 15,M 17 16,lJ 18 17 0,lJ 19 17 7,⟨S 20,S (17,true),k 85 [s 18,s 19]⟩,lI 21 17 20,M 6 21]
def g34:LFn:=⟨(Q (O aK5) (Q (O aQ2) (Q (O aQ1) .ret))),22,[.slot 6]⟩
theorem aVv:aJ Tryz.prog 51=some g34:=Zz
abbrev aKt:LA:=[Y 3 2 0,A 6 (m (c (.sl (.agg 2) .nil [])))]
abbrev aQ0:LA:=[G 7 2 3,P 8 63 [s 7],A 9 (.not (s 8)),M 10 9,lM 11 10 1,U 12 10 (b .lss (s 11) (B 0)),lH 13 10 12,M 14 13,lM 15 14 1,lO 16 14 0 3,lN 17 14 16,U 18 14 (b .geq (s 15) (s 17)),lH 19 14 18,M 20 19,lM 21 20 2,U 22 20 (b .lss (s 21) (B 0)),lH 23 20 22,M 24 23,lM 25 24 2,lO 26 24 0 3,lN 27 24 26,U 28 24 (b .geq (s 25) (s 27)),lH 29 24 28]
abbrev aHx:LA:=[A 6 (m (c (.sl (.agg 2) .nil [])))]
abbrev aQz:LA:=[G 30 2 3,M 31 1,P 32 72 [s 30,s 31],M 33 2,lE 34 32 33,E 35 34,M 6 35]
def g35:LFn:=⟨(Q (O aKt) (Q (Q (O aQ0) (C (s 29) (Q (O aHx) .ret) Z)) (Q (O aQz) .ret))),36,[.slot 6]⟩
theorem aTT:aJ Tryz.prog 52=some g35:=Zz
abbrev aFK:LA:=[Y 1 2 0,lG 2]
abbrev aFJ:LA:=[H 3 0 1,E 4 3,A 5 (b .geq (s 4) (B 0)),M 6 5,lL 7 6 1 1,lK 8 6 7,T 9 6 (b .geq (s 8) (B 0)),lI 10 6 9,M 11 10,lL 12 11 0 1,lK 13 11 12,T 14 11 (b .leq (s 13) (B 1048576)),lI 15 11 14,M 16 15,lL 17 16 1 1,lK 18 16 17,T 19 16 (b .leq (s 18) (B 1048576)),lI 20 16 19,M 2 20]
def g36:LFn:=⟨(Q (O aFK) (Q (O aFJ) .ret)),21,[.slot 2]⟩
theorem aVu:aJ Tryz.prog 53=some g36:=Zz
abbrev aFI:LA:=[Y 3 2 1,lG 4]
abbrev aFH:LA:=[lF 5 0]
abbrev aFG:LA:=[M 6 5,M 7 0,lP 8 7,lA 9 6 8]
abbrev aFF:LD:=[(M 12 0,[]),(M 13 5,[]),(lC 14 2 12 13,[0,1]),(G 15 2 14,Z3),(G 16 2 3,[]),(P 17 86 [s 15,s 16],Z5)]
abbrev aFE:LA:=[A 4 (m Bb)]
abbrev aFD:LA:=[M 10 5,lB 11 10,M 5 11]
abbrev aQy:bF:=(Q (Q (O aFG) (C (s 9) Z (X 0))) (Q (K 1 (Q (D 6 aFF aAV) (C (s 17) (Q (O aFE) .ret) Z))) (O aFD)))
abbrev aFC:LA:=[lG 4]
def g37:LFn:=⟨(Q (O aFI) (Q (Q (O aFH) (K 0 (R aQy))) (Q (O aFC) .ret))),18,[.slot 4]⟩
theorem aVt:aJ Tryz.prog 54=some g37:=Zz
abbrev aQv:LA:=[Y 4 2 0,Y 6 2 2,A 8 (m (c (.sl (.agg 2) .nil [])))]
abbrev aQu:LA:=[G 14 2 4,M 15 1,M 16 3,P 17 87 [s 14,s 15,s 16],M 9 17]
abbrev aQt:LA:=[A 10 (m (c (.sl (.agg 2) .nil [])))]
abbrev aQs:LA:=[M 18 11,M 19 9,lP 20 19,lA 21 18 20]
abbrev aQr:LD:=[(M 25 9,[]),(M 26 11,[]),(lC 27 2 25 26,[0,1]),(G 28 2 27,Z3),(G 29 2 6,[]),(⟨S 30,N,.aAZ 88 [s 28,s 29] []⟩,Z5),(M 24 30,Z6),(lQ 31 24 0,Z7),(lQ 32 24 1,Z7),(⟨S 12,N,x (.agg 2) (c (.agg [(I j 0),(I j 0)]))⟩,[]),(W 2 12 31,[0,1,2,3,4,5,6,7,9]),(M 13 32,Z11)]
abbrev aQq:LA:=[M 33 13,A 34 (b .eql (s 33) (B 0))]
abbrev aQp:LA:=[M 35 10,G 36 2 12,⟨S 37,N,y (.agg 2) [s 36]⟩,lS 38 2 16 35 37,M 10 38]
abbrev aQo:LA:=[M 22 11,lB 23 22,M 11 23]
abbrev aQw:bF:=(Q (Q (O aQs) (C (s 21) Z (X 0))) (Q (K 1 (Q (D 12 aQr aAV) (Q (O aQq) (C (s 34) (O aQp) Z)))) (O aQo)))
abbrev aQn:LA:=[M 39 10,P 40 89 [s 39],M 8 40]
def g38:LFn:=⟨(Q (O aQv) (Q (O aQu) (Q (O aQt) (Q (Q (O aDi) (K 0 (R aQw))) (Q (O aQn) .ret))))),41,[.slot 8]⟩
theorem aVs:aJ Tryz.prog 55=some g38:=Zz
abbrev aFB:LA:=[Y 1 2 0,⟨S 2,N,x (.agg 2) (c (.agg [(I j 0),(I j 0)]))⟩]
abbrev aFA:LA:=[G 3 2 1,W 2 2 3]
def g39:LFn:=⟨(Q (O aFB) (Q (O aFA) .ret)),4,[.cell 2 (.agg 2)]⟩
theorem aVr:aJ Tryz.prog 56=some g39:=Zz
abbrev aQm:LA:=[⟨S 2,N,x F (s 0)⟩,⟨S 4,N,x (.agg 2) (c (.agg [(I j 0),(.sl (.agg 4) .nil [])]))⟩,A 5 (m (c .nilIface))]
abbrev aQl:LA:=[A 8 (.aC0 (.func 94) [] [s 2]),M 6 8]
abbrev aQk:LA:=[E 9 2,A 10 (b .lss (s 9) (B 0)),M 11 10,lN 12 11 2,U 13 11 (b .gtr (s 12) (B 200)),lH 14 11 13,M 15 14,lM 16 15 1,lM 17 15 6,⟨S 18,S (15,false),k 96 [s 16,s 17]⟩,lH 19 15 18]
abbrev aQj:LA:=[A 20 (.build [(I j 0),(.sl (.agg 4) .nil [])] []),A 21 (.aBM 64 (B 1)),W 2 4 20,M 5 21]
abbrev aQi:LA:=[M 22 1,P 23 99 [s 22],P 24 98 [s 23,(c (.fn (.func 100) [] []))],P 25 97 [s 24],M 7 25]
abbrev aG4:LA:=[M 26 7,P 27 101 [s 26],A 28 (b .gtr (s 27) (B 1048576))]
abbrev aG3:LA:=[A 29 (.build [(I j 0),(.sl (.agg 4) .nil [])] []),A 30 (.aBM 64 (B 1)),W 2 4 29,M 5 30]
abbrev aG2:LA:=[E 31 2,M 32 7,P 33 102 [s 31,s 32],M 34 33,lN 35 34 2,lM 36 34 7,⟨S 37,S (34,false),k 103 [s 35,s 36]⟩,lH 38 34 37]
abbrev aG1:LA:=[A 39 (.build [(I j 0),(.sl (.agg 4) .nil [])] []),A 40 (.aBM 64 (B 9)),W 2 4 39,M 5 40]
abbrev aG0:LA:=[E 41 2,M 42 7,A 43 (.build [(I j 0),(.sl (.agg 4) .nil [])] [(0,F,(s 41)),(1,F,(s 42))]),W 2 4 43,A 5 (m (c .nilIface))]
def g40:LFn:=⟨(Q (O aQm) (Q (O aQl) (Q (Q (O aQk) (C (s 19) (Q (O aQj) .ret) Z)) (Q (O aQi) (Q (Q (O aG4) (C (s 28) (Q (O aG3) .ret) Z)) (Q (Q (O aG2) (C (s 38) (Q (O aG1) .ret) Z)) (Q (O aG0) .ret))))))),44,[.cell 4 (.agg 2),.slot 5]⟩
theorem aVq:aJ Tryz.prog 62=some g40:=Zz
abbrev aQh:LA:=[H 6 0 1,E 7 6,H 8 1 1,E 9 8,P 10 62 [s 7,s 9],M 5 10,lQ 11 5 0,lQ 12 5 1,⟨S 3,N,x (.agg 2) (c (.agg [(I j 0),(.sl (.agg 4) .nil [])]))⟩,W 2 3 11,M 4 12]
abbrev aQg:LA:=[M 13 4,A 14 (e false (.iface true) (s 13) (c .nilIface)),M 15 14,lL 16 15 1 3,lK 17 15 16,lL 18 15 1 1,lK 19 15 18,⟨S 20,S (15,true),k 57 [s 17,s 19]⟩,lI 21 15 20,M 2 21]
def g41:LFn:=⟨(Q (O aFO) (Q (O aQh) (Q (O aQg) .ret))),22,[.slot 2]⟩
theorem aVp:aJ Tryz.prog 63=some g41:=Zz
abbrev aKr:LA:=[Y 2 4 0,lG 3]
abbrev aQf:LD:=[(H 4 0 2,[]),(H 5 0 4,[0]),(E 6 5,[0,1]),(A 7 (b .lss (s 6) (B 0)),Z3),(M 8 7,Z4),(lO 9 8 0 2,Z5),(lO 10 8 0 9,Z6),(lN 11 8 10,Z7),(lN 12 8 1,Z5),(U 13 8 (n (s 12)),[0,1,2,3,4,8]),(lO 14 8 0 13,[0,1,2,3,4,8,9]),(lO 15 8 0 14,[0,1,2,3,4,8,9,10]),(lN 16 8 15,[0,1,2,3,4,8,9,10,11]),(U 17 8 (b .geq (s 11) (s 16)),Z13),(lH 18 8 17,Z14),(M 19 18,Z15),(lO 20 19 0 2,Z16),(lO 21 19 1 20,Z17),(U 22 19 (l (.agg 2) (s 21)),Z18),(⟨S 23,S (19,false),k 66 [s 22]⟩,Z19),(U 24 19 (.not (s 23)),Z20),(lH 25 19 24,Z21),(M 3 25,Z22)]
def g42:LFn:=⟨(Q (O aKr) (Q (D 23 aQf aAV) .ret)),26,[.slot 3]⟩
theorem aVo:aJ Tryz.prog 65=some g42:=Zz
abbrev aE8:LA:=[Y 1 2 0,lG 2]
abbrev aBA:LA:=[H 3 0 1,E 4 3,P 5 104 [s 4,(B 1048576)],M 6 5,lL 7 6 1 1,lK 8 6 7,⟨S 9,S (6,true),k 104 [s 8,(B 1048576)]⟩,lI 10 6 9,M 2 10]
def g43:LFn:=⟨(Q (O aE8) (Q (O aBA) .ret)),11,[.slot 2]⟩
theorem aVn:aJ Tryz.prog 66=some g43:=Zz
abbrev aQe:LA:=[Y 1 4 0,lG 2]
abbrev aQd:LA:=[H 3 3 1,E 4 3,P 5 68 [s 4],A 6 (.not (s 5)),M 2 6]
def g44:LFn:=⟨(Q (O aQe) (Q (O aQd) .ret)),7,[.slot 2]⟩
theorem aVm:aJ Tryz.prog 67=some g44:=Zz
abbrev aQc:LA:=[M 3 0,A 4 (b .geq (s 3) (B (-1000000))),M 5 4,lJ 6 5 0,T 7 5 (b .leq (s 6) (B 1000000)),lI 8 5 7,M 2 8]
def g45:LFn:=⟨(Q (O aGB) (Q (O aQc) .ret)),9,[.slot 2]⟩
theorem aVl:aJ Tryz.prog 68=some g45:=Zz
abbrev aQb:LA:=[Y 4 3 1]
abbrev aGz:LD:=[(M 6 0,[]),(G 7 3 4,[]),(A 8 (.aBw (.agg 3) [.int,.int,.int] (I j 0) false (s 6) (s 7)),[0,1]),(M 9 2,[]),(A 10 (b .add (s 8) (s 9)),Z4),(⟨S 11,N,.mp (.ent (.agg 3) [.int,.int,.int] (I j 0) (s 6) (s 7))⟩,[0,1,3]),(lQ 12 11 1,[0,1,3,5]),(⟨N,N,.mp (.est (s 6) (s 12) (s 10))⟩,Z7)]
abbrev aQa:LA:=[M 13 0,G 14 3 4,A 15 (.aBw (.agg 3) [.int,.int,.int] (I j 0) false (s 13) (s 14)),A 16 (b .eql (s 15) (B 0))]
abbrev aQZ:LA:=[M 17 0,G 18 3 4,⟨N,N,.mp (.del (.agg 3) [.int,.int,.int] (s 17) (s 18))⟩]
def g46:LFn:=⟨(Q (O aQb) (Q (D 8 aGz aAV) (Q (O aQa) (C (s 16) (O aQZ) Z)))),19,[]⟩
theorem aVk:aJ Tryz.prog 71=some g46:=Zz
abbrev aHw:LA:=[Y 2 2 0,A 4 (m (c (.sl F .nil [])))]
abbrev aQV:LA:=[H 16 0 2,E 17 16,⟨S 18,N,.mkz F 24 (s 17) (.sl (.agg 2) .nil [])⟩,M 5 18]
abbrev aQU:LA:=[M 19 5,M 20 1,A 21 (.build [(.bool false),(I j 0)] []),⟨S 22,N,y (.agg 2) [s 21]⟩,lE 23 19 20,⟨N,N,t F (s 23) (s 22)⟩]
abbrev aQT:LA:=[M 24 1,⟨S 25,N,y F [s 24]⟩,M 6 25]
abbrev aQS:LA:=[M 26 6,lP 27 26,A 28 (b .gtr (s 27) (B 0))]
abbrev aQR:LA:=[M 29 6,A 30 (i F (s 29) (B 0)),E 31 30,M 7 31]
abbrev aQQ:LA:=[M 32 6,A 33 (.slc F (s 32) (.some (B 1)) .none .none),M 6 33]
abbrev aQP:LA:=[M 34 5,M 35 7,lE 36 34 35,E 37 36,P 38 107 [s 37],M 8 38]
abbrev aQO:LA:=[H 39 1 2,E 40 39,lP 41 40,lF 42 0]
abbrev aQN:LA:=[lA 43 42 41]
abbrev aKq:LA:=[lC 44 4 40 42,G 45 4 44,⟨S 10,N,x (.agg 4) (c (.agg [(I j 0),(I j 0),(.bool false),(I j 0)]))⟩,W 4 10 45]
abbrev aKp:LA:=[H 46 0 10,E 47 46,M 48 7,A 49 (b .neq (s 47) (s 48))]
abbrev aKo:LA:=[M 50 8,lP 51 50,lF 52 0]
abbrev aKn:LA:=[lA 53 52 51]
abbrev aKm:LA:=[lC 54 2 50 52,G 55 2 54,⟨S 12,N,x (.agg 2) (c (.agg [(.bool false),(I j 0)]))⟩,W 2 12 55]
abbrev aKl:LA:=[G 57 2 12,H 58 2 10,G 59 2 58,P 60 108 [s 57,s 59],M 56 60,lQ 61 56 0,lQ 62 56 1,⟨S 13,N,x (.agg 2) (c (.agg [(.bool false),(I j 0)]))⟩,W 2 13 61,M 14 62]
abbrev aKk:LA:=[M 63 14,A 64 (e true (.iface true) (s 63) (c .nilIface))]
abbrev aKj:LA:=[lG 15]
abbrev aKi:LD:=[(M 66 5,[]),(H 67 1 10,[]),(E 68 67,[1]),(M 69 5,[]),(H 70 1 10,[]),(E 71 70,[4]),(lE 72 69 71,[3,4,5]),(E 73 72,[3,4,5,6]),(G 74 2 13,[]),(⟨S 75,N,.aAZ 109 [s 73,s 74] [s 67]⟩,[3,4,5,6,7,8]),(M 65 75,[3,4,5,6,7,8,9]),(lQ 76 65 0,[3,4,5,6,7,8,9,10]),(lQ 77 65 1,[3,4,5,6,7,8,9,10]),(lE 78 66 68,Z12),(⟨N,N,t F (s 78) (s 76)⟩,[0,1,2,3,4,5,6,7,8,9,10,11,13]),(M 15 77,Z15)]
abbrev aKh:LA:=[M 79 15]
abbrev aKg:LA:=[M 80 6,H 81 1 10,E 82 81,⟨S 83,N,y F [s 82]⟩,⟨S 84,N,a F 8 (s 80) (s 83)⟩,M 6 84]
abbrev aKf:LA:=[lB 85 52,M 52 85]
abbrev aQY:bF:=(Q (O aKn) (Q (C (s 53) Z (X 4)) (Q (K 5 (Q (O aKm) (Q (O aKl) (Q (Q (O aKk) (C (s 64) (X 5) Z)) (Q (O aKj) (Q (D 16 aKi aAV) (Q (O aKh) (C (s 79) (O aKg) Z)))))))) (O aKf))))
abbrev aKe:LA:=[lB 86 42,M 42 86]
abbrev aQX:bF:=(Q (O aQN) (Q (C (s 43) Z (X 2)) (Q (K 3 (Q (O aKq) (Q (Q (O aKp) (C (s 49) (X 3) Z)) (Q (O aKo) (K 4 (R aQY)))))) (O aKe))))
abbrev aQW:bF:=(Q (Q (O aQS) (C (s 28) Z (X 0))) (K 1 (Q (O aQR) (Q (O aQQ) (Q (O aQP) (Q (O aQO) (K 2 (R aQX))))))))
abbrev aKd:LA:=[M 87 5,M 4 87]
def g47:LFn:=⟨(Q (O aHw) (Q (O aQV) (Q (O aQU) (Q (O aQT) (Q (K 0 (R aQW)) (Q (O aKd) .ret)))))),88,[.slot 4]⟩
theorem aVj:aJ Tryz.prog 72=some g47:=Zz
abbrev aQL:LA:=[M 6 0,lR 7 6,H 8 3 7,E 9 8,⟨S 10,N,.mp (.rng (s 9))⟩]
abbrev aQK:LA:=[⟨S 11,N,.mp (.nxt (s 10))⟩,lQ 12 11 0]
abbrev aQJ:LA:=[⟨S 13,N,.mp (.key (s 10))⟩,lQ 14 13 0,lQ 15 13 1,⟨S 4,N,x (.agg 3) (c (.agg [(I j 0),(I j 0),(I j 0)]))⟩,W 3 4 14,M 5 15]
abbrev aQI:LA:=[M 16 5,A 17 (b .gtr (s 16) (B 0))]
abbrev aQH:LA:=[M 18 3,G 19 3 4,⟨S 20,N,y (.agg 3) [s 19]⟩,lS 21 3 24 18 20,M 3 21]
abbrev aQM:bF:=(Q (O aQK) (Q (C (s 12) Z (X 0)) (K 1 (Q (O aQJ) (Q (O aQI) (C (s 17) (O aQH) Z))))))
abbrev aQG:LA:=[M 22 3,M 2 22]
def g48:LFn:=⟨(Q (O aLS) (Q (O aLR) (Q (Q (O aQL) (K 0 (R aQM))) (Q (O aQG) .ret)))),23,[.slot 2]⟩
theorem aVi:aJ Tryz.prog 74=some g48:=Zz
abbrev aQD:LA:=[A 7 (m (c (.sl (.agg 2) .nil [])))]
abbrev aQC:LA:=[M 14 1,lP 15 14,lF 16 0]
abbrev aQB:LA:=[lA 17 16 15]
abbrev aQA:LA:=[lC 18 3 14 16,G 19 3 18,⟨S 9,N,x (.agg 3) (c (.agg [(I j 0),(I j 0),(I j 0)]))⟩,W 3 9 19]
abbrev aP9:LD:=[(M 20 0,[]),(lR 21 20,[0]),(H 22 2 21,[0,1]),(E 23 22,Z3),(H 24 0 9,[]),(E 25 24,[4]),(lE 26 23 25,Z6),(E 27 26,Z7),(M 28 2,[]),(lE 29 27 28,Z9),(E 30 29,Z10),(lP 31 30,Z11),(lF 32 0,[])]
abbrev aP8:LA:=[lA 33 32 31]
abbrev aP7:LA:=[lC 34 2 30 32,G 35 2 34,⟨S 11,N,x (.agg 2) (c (.agg [(.bool false),(I j 0)]))⟩,W 2 11 35]
abbrev aP6:LA:=[G 37 2 11,H 38 1 9,G 39 2 38,P 40 83 [s 37,s 39],M 36 40,lQ 41 36 0,lQ 42 36 1,⟨S 12,N,x (.agg 2) (c (.agg [(I j 0),(I j 0)]))⟩,W 2 12 41,M 13 42]
abbrev aP5:LA:=[M 43 13,A 44 (e false (.iface true) (s 43) (c .nilIface))]
abbrev aKc:LA:=[M 45 7,G 46 2 12,⟨S 47,N,y (.agg 2) [s 46]⟩,lS 48 2 16 45 47,M 7 48]
abbrev aKb:LA:=[lB 49 32,M 32 49]
abbrev aQF:bF:=(Q (O aP8) (Q (C (s 33) Z (X 2)) (Q (K 3 (Q (O aP7) (Q (O aP6) (Q (O aP5) (C (s 44) (O aKc) Z))))) (O aKb))))
abbrev aKa:LA:=[lB 50 16,M 16 50]
abbrev aQE:bF:=(Q (O aQB) (Q (C (s 17) Z (X 0)) (Q (K 1 (Q (O aQA) (Q (D 13 aP9 aAV) (K 2 (R aQF))))) (O aKa))))
abbrev aKZ:LA:=[M 51 7,P 52 110 [s 51],M 6 52]
def g49:LFn:=⟨(Q (O aHx) (Q (O aQD) (Q (Q (O aQC) (K 0 (R aQE))) (Q (O aKZ) .ret)))),53,[.slot 6]⟩
theorem aVh:aJ Tryz.prog 75=some g49:=Zz
abbrev aE6:LA:=[lG 4]
abbrev aCi:LA:=[M 5 0,M 6 1,P 7 111 [s 5,s 6],A 8 (b .geq (s 7) (B 0)),M 4 8]
def g50:LFn:=⟨(Q (O aE6) (Q (O aCi) .ret)),9,[.slot 4]⟩
theorem aVa:aJ Tryz.prog 76=some g50:=Zz
abbrev aE5:LA:=[Y 3 2 1,lG 4]
abbrev aCh:LA:=[M 5 0,A 6 (.aC0 (.func 112) [] [s 3]),P 7 76 [s 5,s 6],M 4 7]
def g51:LFn:=⟨(Q (O aE5) (Q (O aCh) .ret)),8,[.slot 4]⟩
theorem aVZ:aJ Tryz.prog 78=some g51:=Zz
abbrev aP4:LA:=[Y 1 2 0,⟨S 2,N,x (.agg 2) (c (.agg [(.bool false),(I j 0)]))⟩]
abbrev aP3:LA:=[G 3 2 1,W 2 2 3]
def g52:LFn:=⟨(Q (O aP4) (Q (O aP3) .ret)),4,[.cell 2 (.agg 2)]⟩
theorem aVY:aJ Tryz.prog 79=some g52:=Zz
abbrev aPu:LA:=[⟨S 4,N,x (.agg 2) (c (.agg [(I j 0),(.sl (.agg 4) .nil [])]))⟩,lF 5 0]
abbrev aPt:LA:=[M 16 0,A 17 (b .lss (s 16) (B 0)),M 18 17,lM 19 18 0,U 20 18 (b .gtr (s 19) (B 200)),lH 21 18 20]
abbrev aPs:LA:=[A 22 (.build [(I j 0),(.sl (.agg 4) .nil [])] []),W 2 4 22,lF 5 1]
abbrev aPr:LA:=[M 23 0,A 24 (.build [(I j 0),(.sl (.agg 4) .nil [])] [(0,F,(s 23))]),⟨S 6,N,x (.agg 2) (c (.agg [(I j 0),(.sl (.agg 4) .nil [])]))⟩,W 2 6 24]
abbrev aEx:LA:=[lF 7 0]
abbrev aPq:LA:=[M 25 7,M 26 1,lP 27 26,lA 28 25 27]
abbrev aPp:LA:=[M 31 1,M 32 7,lC 33 4 31 32,G 34 4 33,⟨S 8,N,x (.agg 4) (c (.agg [(I j 0),(I j 0),(.bool false),(I j 0)]))⟩,W 4 8 34]
abbrev aPo:LA:=[H 35 0 8,E 36 35,A 37 (b .lss (s 36) (B 0)),M 38 37,lO 39 38 1 8,lN 40 38 39,U 41 38 (b .lss (s 40) (B 0)),lH 42 38 41,M 43 42,lO 44 43 0 8,lN 45 43 44,lM 46 43 0,U 47 43 (b .geq (s 45) (s 46)),lH 48 43 47,M 49 48,lO 50 49 1 8,lN 51 49 50,lM 52 49 0,U 53 49 (b .geq (s 51) (s 52)),lH 54 49 53,M 55 54,lO 56 55 2 8,U 57 55 (l (.agg 2) (s 56)),⟨S 58,S (55,false),k 113 [s 57]⟩,U 59 55 (.not (s 58)),lH 60 55 59]
abbrev aPn:LA:=[A 61 (.build [(I j 0),(.sl (.agg 4) .nil [])] []),W 2 4 61,lF 5 1]
abbrev aPm:LA:=[H 62 1 6,E 63 62,G 64 4 8,P 65 114 [s 63,s 64],H 66 1 6,⟨N,N,t F (s 66) (s 65)⟩]
abbrev aKY:LA:=[M 29 7,lB 30 29,M 7 30]
abbrev aPy:bF:=(Q (Q (O aPq) (C (s 28) Z (X 0))) (Q (K 1 (Q (O aPp) (Q (Q (O aPo) (C (s 60) (Q (O aPn) .ret) Z)) (O aPm)))) (O aKY)))
abbrev aKX:LA:=[M 67 10,H 68 1 6,E 69 68,lP 70 69,lA 71 67 70]
abbrev aKW:LA:=[M 74 9,H 75 1 6,E 76 75,M 77 10,lC 78 4 76 77,H 79 2 78,H 80 1 79,E 81 80,A 82 (b .add (s 74) (s 81)),M 9 82]
abbrev aKV:LA:=[M 72 10,lB 73 72,M 10 73]
abbrev aPx:bF:=(Q (Q (O aKX) (C (s 71) Z (X 2))) (Q (K 3 (O aKW)) (O aKV)))
abbrev aKU:LA:=[M 83 9,A 84 (b .gtr (s 83) (B 1048576))]
abbrev aKT:LA:=[A 85 (.build [(I j 0),(.sl (.agg 4) .nil [])] []),W 2 4 85,lF 5 1]
abbrev aKS:LD:=[(G 86 2 6,[]),(P 87 115 [s 86,Bb],[0]),(G 88 2 6,[]),(P 89 115 [s 88,Ba],Z3),(M 11 87,Z4),(M 12 89,Z5)]
abbrev aKR:LA:=[M 90 13,M 91 0,lA 92 90 91]
abbrev aKQ:LA:=[M 95 11,M 96 13,lE 97 95 96,E 98 97,M 99 13,lE 100 98 99,E 101 100]
abbrev aKP:LA:=[A 102 (.build [(I j 0),(.sl (.agg 4) .nil [])] []),W 2 4 102,lF 5 9]
abbrev aKO:LA:=[M 93 13,lB 94 93,M 13 94]
abbrev aPw:bF:=(Q (Q (O aKR) (C (s 92) Z (X 4))) (Q (K 5 (Q (O aKQ) (C (s 101) (Q (O aKP) .ret) Z))) (O aKO)))
abbrev aGs:LA:=[lF 14 0]
abbrev aKN:LA:=[M 103 14,H 104 1 6,E 105 104,lP 106 105,lA 107 103 106]
abbrev aKM:LA:=[H 110 1 6,E 111 110,M 112 14,lC 113 4 111 112,G 114 4 113,⟨S 15,N,x (.agg 4) (c (.agg [(I j 0),(I j 0),(.bool false),(I j 0)]))⟩,W 4 15 114]
abbrev aKL:LD:=[(H 115 2 15,[]),(H 116 0 115,[0]),(E 117 116,[0,1]),(M 118 117,Z3),(lL 119 118 0 15,Z4),(lK 120 118 119,Z5),(lL 121 118 1 15,Z4),(lK 122 118 121,[0,1,2,3,6]),(T 123 118 (b .eql (s 120) (s 122)),Z8),(lJ 124 118 123,Z9),(lM 125 124 12,Z10),(lO 126 124 1 15,Z10),(lN 127 124 126,[0,1,2,3,4,5,6,7,8,9,11]),(U 128 124 (i F (s 125) (s 127)),Z13),(lN 129 124 128,Z14),(lO 130 124 0 15,Z10),(lN 131 124 130,[0,1,2,3,4,5,6,7,8,9,15]),(U 132 124 (i F (s 129) (s 131)),Z17),(lN 133 124 132,Z18),(T 134 118 (p (s 124) Bb (s 133)),Z19),(lI 135 118 134,Z20)]
abbrev aKK:LA:=[A 136 (.build [(I j 0),(.sl (.agg 4) .nil [])] []),W 2 4 136,lF 5 9]
abbrev aKJ:LA:=[M 108 14,lB 109 108,M 14 109]
abbrev aPv:bF:=(Q (Q (O aKN) (C (s 107) Z (X 6))) (Q (K 7 (Q (O aKM) (Q (D 21 aKL aAV) (C (s 135) (Q (O aKK) .ret) Z)))) (O aKJ)))
abbrev aKI:LA:=[G 137 2 6,W 2 4 137,lF 5 0]
def g53:LFn:=⟨(Q (O aPu) (Q (Q (O aPt) (C (s 21) (Q (O aPs) .ret) Z)) (Q (O aPr) (Q (Q (O aEx) (K 0 (R aPy))) (Q (O aF8) (Q (Q (O aH6) (K 2 (R aPx))) (Q (Q (O aKU) (C (s 84) (Q (O aKT) .ret) Z)) (Q (D 6 aKS aAV) (Q (Q (O aG6) (K 4 (R aPw))) (Q (Q (O aGs) (K 6 (R aPv))) (Q (O aKI) .ret))))))))))),138,[.cell 4 (.agg 2),.slot 5]⟩
theorem aVX:aJ Tryz.prog 80=some g53:=Zz
abbrev aPi:LA:=[M 9 4,M 10 0,lP 11 10,lA 12 9 11]
abbrev aPh:LA:=[A 5 (m Bb),lF 6 0]
abbrev aPg:LA:=[M 15 7,M 16 0,lP 17 16,lA 18 15 17]
abbrev aPf:LD:=[(M 21 0,[]),(M 22 7,[]),(lC 23 4 21 22,[0,1]),(H 24 0 23,Z3),(G 25 3 24,Z4),(M 26 0,[]),(M 27 4,[]),(lC 28 4 26 27,[5,6]),(H 29 0 28,[5,6,7]),(G 30 3 29,[5,6,7,8]),(A 31 (e false (.plain (.agg 3) [.int,.int,.int]) (s 25) (s 30)),Z10)]
abbrev aPe:LA:=[M 32 5,M 33 32,lJ 34 33 7,lJ 35 33 4,T 36 33 (b .geq (s 34) (s 35)),lI 37 33 36,M 5 37]
abbrev aPd:LA:=[M 38 6,M 39 0,M 40 7,lC 41 4 39 40,H 42 3 41,E 43 42,A 44 (b .add (s 38) (s 43)),M 6 44]
abbrev aKH:LA:=[M 19 7,lB 20 19,M 7 20]
abbrev aPl:bF:=(Q (Q (O aPg) (C (s 18) Z (X 2))) (Q (K 3 (Q (D 11 aPf aAV) (C (s 31) (Q (O aPe) (O aPd)) Z))) (O aKH)))
abbrev aKG:LA:=[M 45 5,A 46 (.not (s 45)),M 47 46,lM 48 47 6,U 49 47 (b .eql (s 48) (B 0)),lH 50 47 49]
abbrev aKF:LD:=[(M 51 8,[]),(M 52 3,[]),(lP 53 52,[1]),(lA 54 51 53,Z3),(M 55 54,Z4),(lJ 56 55 3,Z5),(lJ 57 55 8,Z5),(T 58 55 (i (.agg 4) (s 56) (s 57)),Z7),(lL 59 55 0 58,Z8),(T 60 55 (l (.agg 3) (s 59)),Z9),(lJ 61 55 0,Z5),(lJ 62 55 4,Z5),(T 63 55 (i (.agg 4) (s 61) (s 62)),[0,1,2,3,4,10,11]),(lL 64 55 0 63,[0,1,2,3,4,10,11,12]),(T 65 55 (l (.agg 3) (s 64)),[0,1,2,3,4,10,11,12,13]),(⟨S 66,S (55,true),k 116 [s 60,s 65]⟩,Z15),(lI 67 55 66,Z16)]
abbrev aKE:LA:=[M 68 8,lB 69 68,M 8 69]
abbrev aPk:bF:=(Q (Q (D 17 aKF aAV) (C (s 67) Z (X 4))) (K 5 (O aKE)))
abbrev aE4:LD:=[(⟨S 70,N,y (.agg 4) []⟩,[]),(M 71 3,[]),(M 72 8,[]),(A 73 (.slc (.agg 4) (s 71) .none (.some (s 72)) .none),[1,2]),(lS 74 4 32 70 73,Z4),(M 75 0,[]),(M 76 4,[]),(lC 77 4 75 76,[5,6]),(H 78 0 77,[5,6,7]),(G 79 3 78,[5,6,7,8]),(M 80 6,[]),(A 81 (.build [(I j 0),(I j 0),(I j 0),(I j 0)] [(0,(.agg 3),(s 79)),(3,F,(s 80))]),[5,6,7,8,9,10]),(⟨S 82,N,y (.agg 4) [s 81]⟩,[5,6,7,8,9,10,11]),(lS 83 4 32 74 82,Z13),(M 84 3,[]),(M 85 8,[]),(A 86 (.slc (.agg 4) (s 84) (.some (s 85)) .none .none),[14,15]),(lS 87 4 32 83 86,Z17)]
abbrev aDh:LA:=[M 3 87]
abbrev aE3:LA:=[M 13 4,lB 14 13,M 4 14]
abbrev aPj:bF:=(Q (Q (O aPi) (C (s 12) Z (X 0))) (Q (K 1 (Q (O aPh) (Q (Q (O aEx) (K 2 (R aPl))) (Q (Q (O aKG) (C (s 50) (X 1) Z)) (Q (O aF9) (Q (K 4 (R aPk)) (D 18 aE4 aDh))))))) (O aE3)))
abbrev aKD:LA:=[M 88 3,M 2 88]
def g54:LFn:=⟨(Q (O aHz) (Q (O aK3) (Q (Q (O aH0) (K 0 (R aPj))) (Q (O aKD) .ret)))),89,[.slot 2]⟩
theorem aVW:aJ Tryz.prog 81=some g54:=Zz
abbrev aPc:LA:=[Y 3 2 0,lG 4]
abbrev aPb:LA:=[G 8 2 3,H 9 1 1,G 10 2 9,P 11 83 [s 8,s 10],M 7 11,lQ 12 7 0,lQ 13 7 1,⟨S 5,N,x (.agg 2) (c (.agg [(I j 0),(I j 0)]))⟩,W 2 5 12,M 6 13]
abbrev aPa:LA:=[M 14 6,A 15 (e false (.iface true) (s 14) (c .nilIface)),M 16 15,T 17 16 (l (.agg 2) (s 5)),lL 18 16 1 2,T 19 16 (l (.agg 2) (s 18)),⟨S 20,S (16,true),k 84 [s 17,s 19]⟩,lI 21 16 20,M 4 21]
def g55:LFn:=⟨(Q (O aPc) (Q (O aPb) (Q (O aPa) .ret))),22,[.slot 4]⟩
theorem aVV:aJ Tryz.prog 82=some g55:=Zz
abbrev aPZ:LA:=[Y 2 2 0,Y 3 2 1,⟨S 4,N,x (.agg 2) (c (.agg [(I j 0),(I j 0)]))⟩,A 5 (m (c .nilIface))]
abbrev aPY:LA:=[G 7 2 2,P 8 117 [s 7],A 9 (.not (s 8)),M 10 9,U 11 10 (l (.agg 2) (s 3)),⟨S 12,S (10,false),k 66 [s 11]⟩,U 13 10 (.not (s 12)),lH 14 10 13]
abbrev aPX:LA:=[A 15 (.build [(I j 0),(I j 0)] []),A 16 (.aBM 64 (B 2)),W 2 4 15,M 5 16]
abbrev aPW:LA:=[H 17 0 3,E 18 17,H 19 1 2,E 20 19,A 21 (.build [(I j 0),(I j 0)] [(0,F,(s 18)),(1,F,(s 20))]),⟨S 6,N,x (.agg 2) (c (.agg [(I j 0),(I j 0)]))⟩,W 2 6 21]
abbrev aPV:LA:=[H 22 0 2,E 23 22,A 24 (.not (s 23))]
abbrev aPU:LA:=[H 25 1 6,E 26 25,H 27 1 3,E 28 27,A 29 (b .add (s 26) (s 28)),H 30 1 6,⟨N,N,t F (s 30) (s 29)⟩]
abbrev aPT:LA:=[G 31 2 6,P 32 66 [s 31],A 33 (.not (s 32))]
abbrev aPS:LA:=[A 34 (.build [(I j 0),(I j 0)] []),A 35 (.aBM 64 (B 1)),W 2 4 34,M 5 35]
abbrev aPR:LA:=[G 36 2 6,W 2 4 36,A 5 (m (c .nilIface))]
def g56:LFn:=⟨(Q (O aPZ) (Q (Q (O aPY) (C (s 14) (Q (O aPX) .ret) Z)) (Q (O aPW) (Q (Q (O aPV) (C (s 24) (O aPU) Z)) (Q (Q (O aPT) (C (s 33) (Q (O aPS) .ret) Z)) (Q (O aPR) .ret)))))),37,[.cell 4 (.agg 2),.slot 5]⟩
theorem aVU:aJ Tryz.prog 83=some g56:=Zz
abbrev aE2:LA:=[Y 2 2 0,Y 3 2 1,lG 4]
abbrev aE1:LA:=[H 5 0 2,E 6 5,H 7 0 3,E 8 7,A 9 (b .leq (s 6) (s 8)),M 10 9,lL 11 10 1 2,lK 12 10 11,lL 13 10 1 3,lK 14 10 13,T 15 10 (b .leq (s 12) (s 14)),lI 16 10 15,M 4 16]
def g57:LFn:=⟨(Q (O aE2) (Q (O aE1) .ret)),17,[.slot 4]⟩
theorem aVT:aJ Tryz.prog 84=some g57:=Zz
abbrev aE0:LA:=[Y 2 2 0,Y 3 2 1,lG 4]
abbrev aEz:LA:=[H 5 0 2,E 6 5,H 7 0 3,E 8 7,A 9 (b .gtr (s 6) (s 8)),A 10 (.not (s 9)),M 11 10,lL 12 11 1 2,lK 13 11 12,lL 14 11 1 3,lK 15 11 14,T 16 11 (b .gtr (s 13) (s 15)),T 17 11 (.not (s 16)),lI 18 11 17,M 4 18]
def g58:LFn:=⟨(Q (O aE0) (Q (O aEz) .ret)),19,[.slot 4]⟩
theorem aVS:aJ Tryz.prog 86=some g58:=Zz
abbrev aPQ:LA:=[G 7 2 3,P 8 49 [s 7],A 9 (.not (s 8)),M 10 9,lM 11 10 1,U 12 10 (b .lss (s 11) (B 0)),lH 13 10 12,M 14 13,lM 15 14 2,U 16 14 (b .lss (s 15) (B 0)),lH 17 14 16,M 18 17,lM 19 18 1,lO 20 18 0 3,lN 21 18 20,U 22 18 (b .geq (s 19) (s 21)),lH 23 18 22,M 24 23,lM 25 24 2,lO 26 24 0 3,lN 27 24 26,U 28 24 (b .geq (s 25) (s 27)),lH 29 24 28]
abbrev aPP:LA:=[G 30 2 3,M 31 1,P 32 119 [s 30,s 31],M 33 2,lE 34 32 33,E 35 34,M 6 35]
def g59:LFn:=⟨(Q (O aKt) (Q (Q (O aPQ) (C (s 29) (Q (O aHx) .ret) Z)) (Q (O aPP) .ret))),36,[.slot 6]⟩
theorem aVR:aJ Tryz.prog 87=some g59:=Zz
abbrev aPO:LA:=[Y 2 2 0,Y 3 2 1,⟨S 4,N,x (.agg 2) (c (.agg [(I j 0),(I j 0)]))⟩,lF 5 0]
abbrev aPN:LA:=[G 7 2 2,P 8 113 [s 7],A 9 (.not (s 8)),M 10 9,U 11 10 (l (.agg 2) (s 3)),⟨S 12,S (10,false),k 53 [s 11]⟩,U 13 10 (.not (s 12)),lH 14 10 13]
abbrev aPM:LA:=[A 15 (.build [(I j 0),(I j 0)] []),W 2 4 15,lF 5 2]
abbrev aPL:LA:=[H 16 1 3,E 17 16,M 6 17]
abbrev aPK:LA:=[H 18 0 2,E 19 18]
abbrev aPJ:LA:=[M 20 6,H 21 1 2,E 22 21,A 23 (b .add (s 20) (s 22)),A 24 (b .gtr (s 23) (B 1048576))]
abbrev aPI:LA:=[A 25 (.build [(I j 0),(I j 0)] []),W 2 4 25,lF 5 1]
abbrev aPH:LA:=[H 26 0 3,E 27 26,M 28 6,H 29 1 2,E 30 29,A 31 (b .add (s 28) (s 30)),A 32 (.build [(I j 0),(I j 0)] [(0,F,(s 27)),(1,F,(s 31))]),W 2 4 32,lF 5 0]
def g60:LFn:=⟨(Q (O aPO) (Q (Q (O aPN) (C (s 14) (Q (O aPM) .ret) Z)) (Q (O aPL) (Q (Q (O aPK) (C (s 19) (O aDv) Z)) (Q (Q (O aPJ) (C (s 24) (Q (O aPI) .ret) Z)) (Q (O aPH) .ret)))))),33,[.cell 4 (.agg 2),.slot 5]⟩
theorem aVQ:aJ Tryz.prog 88=some g60:=Zz
abbrev aHv:LA:=[A 2 (m (c (.sl (.agg 2) .nil [])))]
abbrev aKC:LA:=[A 3 (m (c (.sl (.agg 2) .nil [])))]
abbrev aPD:LA:=[M 8 4,M 9 0,lP 10 9,lA 11 8 10]
abbrev aPC:LA:=[M 14 0,M 15 4,lC 16 2 14 15,G 17 2 16,P 18 53 [s 17],M 5 18]
abbrev aPB:LA:=[M 19 6,M 20 0,lP 21 20,lA 22 19 21]
abbrev aPA:LD:=[(M 25 0,[]),(M 26 6,[]),(lC 27 2 25 26,[0,1]),(G 28 2 27,Z3),(P 29 53 [s 28],Z4),(M 30 29,Z5),(lJ 31 30 0,Z6),(lJ 32 30 6,Z6),(T 33 30 (i (.agg 2) (s 31) (s 32)),Z8),(T 34 30 (l (.agg 2) (s 33)),Z9),(lJ 35 30 0,Z6),(lJ 36 30 4,Z6),(T 37 30 (i (.agg 2) (s 35) (s 36)),[0,1,2,3,4,5,10,11]),(T 38 30 (l (.agg 2) (s 37)),[0,1,2,3,4,5,10,11,12]),(⟨S 39,S (30,true),k 86 [s 34,s 38]⟩,Z14),(lI 40 30 39,Z15),(M 41 40,Z16),(lJ 42 41 0,Z17),(lJ 43 41 6,Z17),(T 44 41 (i (.agg 2) (s 42) (s 43)),Z19),(T 45 41 (l (.agg 2) (s 44)),Z20),(lJ 46 41 0,Z17),(lJ 47 41 4,Z17),(T 48 41 (i (.agg 2) (s 46) (s 47)),[0,1,2,3,4,5,6,7,8,9,10,11,12,13,14,15,16,21,22]),(T 49 41 (l (.agg 2) (s 48)),[0,1,2,3,4,5,6,7,8,9,10,11,12,13,14,15,16,21,22,23]),(T 50 41 (e true (.plain (.agg 2) [.int,.int]) (s 45) (s 49)),Z25),(lJ 51 41 50,Z26),(lM 52 51 6,Z27),(lM 53 51 4,Z27),(U 54 51 (b .lss (s 52) (s 53)),Z29),(T 55 41 (p (s 51) Bb (s 54)),Z30),(lI 56 41 55,Z31)]
abbrev aO9:LA:=[lG 5]
abbrev aO8:LA:=[M 23 6,lB 24 23,M 6 24]
abbrev aPG:bF:=(Q (Q (O aPB) (C (s 22) Z (X 2))) (Q (K 3 (Q (D 32 aPA aAV) (C (s 56) (O aO9) Z))) (O aO8)))
abbrev aKB:LA:=[M 57 5,A 58 (.not (s 57))]
abbrev aKA:LD:=[(M 59 7,[]),(M 60 3,[]),(lP 61 60,[1]),(lA 62 59 61,Z3),(M 63 62,Z4),(lJ 64 63 3,Z5),(lJ 65 63 7,Z5),(T 66 63 (i (.agg 2) (s 64) (s 65)),Z7),(T 67 63 (l (.agg 2) (s 66)),Z8),(lJ 68 63 0,Z5),(lJ 69 63 4,Z5),(T 70 63 (i (.agg 2) (s 68) (s 69)),[0,1,2,3,4,9,10]),(T 71 63 (l (.agg 2) (s 70)),[0,1,2,3,4,9,10,11]),(⟨S 72,S (63,true),k 120 [s 67,s 71]⟩,Z13),(lI 73 63 72,Z14)]
abbrev aJ9:LA:=[M 74 7,lB 75 74,M 7 75]
abbrev aPF:bF:=(Q (Q (D 15 aKA aAV) (C (s 73) Z (X 4))) (K 5 (O aJ9)))
abbrev aEy:LD:=[(⟨S 76,N,y (.agg 2) []⟩,[]),(M 77 3,[]),(M 78 7,[]),(A 79 (.slc (.agg 2) (s 77) .none (.some (s 78)) .none),[1,2]),(lS 80 2 16 76 79,Z4),(M 81 0,[]),(M 82 4,[]),(lC 83 2 81 82,[5,6]),(G 84 2 83,[5,6,7]),(⟨S 85,N,y (.agg 2) [s 84]⟩,[5,6,7,8]),(lS 86 2 16 80 85,Z10),(M 87 3,[]),(M 88 7,[]),(A 89 (.slc (.agg 2) (s 87) (.some (s 88)) .none .none),[11,12]),(lS 90 2 16 86 89,Z14)]
abbrev aDg:LA:=[M 3 90]
abbrev aJ8:LA:=[M 12 4,lB 13 12,M 4 13]
abbrev aPE:bF:=(Q (Q (O aPD) (C (s 11) Z (X 0))) (Q (K 1 (Q (O aPC) (Q (Q (O aDv) (K 2 (R aPG))) (Q (Q (O aKB) (C (s 58) (X 1) Z)) (Q (O aEx) (Q (K 4 (R aPF)) (D 15 aEy aDg))))))) (O aJ8)))
abbrev aJ7:LA:=[M 91 3,M 2 91]
def g61:LFn:=⟨(Q (O aHv) (Q (O aKC) (Q (Q (O aH0) (K 0 (R aPE))) (Q (O aJ7) .ret)))),92,[.slot 2]⟩
theorem aVP:aJ Tryz.prog 89=some g61:=Zz
abbrev aO4:LA:=[Y 2 3 0,Y 3 3 1,lF 4 0]
abbrev aO3:LD:=[(H 5 0 2,[]),(E 6 5,[0]),(H 7 0 3,[]),(E 8 7,[2]),(P 9 125 [s 6,s 8],Z4),(H 10 1 2,[]),(G 11 2 10,[5]),(H 12 1 3,[]),(G 13 2 12,[7]),(P 14 126 [s 11,s 13],Z9),(⟨S 15,N,y F [s 9,s 14]⟩,Z10),(P 16 124 [s 15],Z11),(M 4 16,Z12)]
def g62:LFn:=⟨(Q (O aO4) (Q (D 13 aO3 aAV) .ret)),17,[.slot 4]⟩
theorem aVO:aJ Tryz.prog 93=some g62:=Zz
abbrev aO2:LA:=[G 4 4 2,E 5 1,P 6 95 [s 4,s 5],A 7 (.not (s 6)),M 3 7]
def g63:LFn:=⟨(Q (O aKr) (Q (O aO2) .ret)),8,[.slot 3]⟩
theorem aVN:aJ Tryz.prog 94=some g63:=Zz
abbrev aO1:LA:=[Y 2 4 0,lG 4]
abbrev aO0:LA:=[H 5 0 2,E 6 5,A 7 (b .geq (s 6) (B 0)),M 8 7,lL 9 8 0 2,lK 10 8 9,lJ 11 8 1,T 12 8 (b .lss (s 10) (s 11)),lI 13 8 12,M 14 13,lL 15 14 1 2,lK 16 14 15,T 17 14 (b .geq (s 16) (B 0)),lI 18 14 17,M 19 18,lL 20 19 1 2,lK 21 19 20,lJ 22 19 1,T 23 19 (b .lss (s 21) (s 22)),lI 24 19 23,M 25 24,lL 26 25 2 2,T 27 25 (l (.agg 2) (s 26)),⟨S 28,S (25,true),k 117 [s 27]⟩,lI 29 25 28,M 4 29]
def g64:LFn:=⟨(Q (O aO1) (Q (O aO0) .ret)),30,[.slot 4]⟩
theorem aVM:aJ Tryz.prog 95=some g64:=Zz
abbrev aOx:LA:=[M 6 0,lP 7 6,A 8 (b .lss (s 7) (B 2))]
abbrev aOw:LA:=[M 9 0,M 2 9]
abbrev aOv:LA:=[lF 3 1]
abbrev aOu:LA:=[M 10 3,M 11 0,lP 12 11,lA 13 10 12]
abbrev aOt:LD:=[(M 16 0,[]),(M 17 3,[]),(lC 18 4 16 17,[0,1]),(G 19 4 18,Z3),(M 20 0,[]),(M 21 3,[]),(A 22 (b .sub (s 21) (B 1)),[5]),(lC 23 4 20 22,[4,5,6]),(G 24 4 23,[4,5,6,7]),(A 25 (e false (.plain (.agg 4) [.int,.int,.bool,.int]) (s 19) (s 24)),Z9)]
abbrev aOs:LA:=[M 26 0,M 27 3,A 28 (.slc (.agg 4) (s 26) (.some (s 27)) .none .none),M 4 28]
abbrev aOr:LA:=[lF 5 1]
abbrev aOq:LA:=[M 29 5,M 30 4,lP 31 30,lA 32 29 31]
abbrev aOp:LD:=[(M 35 4,[]),(M 36 5,[]),(lC 37 4 35 36,[0,1]),(G 38 4 37,Z3),(M 39 4,[]),(M 40 5,[]),(A 41 (b .sub (s 40) (B 1)),[5]),(lC 42 4 39 41,[4,5,6]),(G 43 4 42,[4,5,6,7]),(A 44 (e true (.plain (.agg 4) [.int,.int,.bool,.int]) (s 38) (s 43)),Z9)]
abbrev aJ5:LA:=[M 45 0,M 46 3,M 47 4,M 48 5,lC 49 4 47 48,G 50 4 49,lC 51 4 45 46,W 4 51 50]
abbrev aJ4:LA:=[M 52 3,lB 53 52,M 3 53]
abbrev aJ3:LA:=[M 33 5,lB 34 33,M 5 34]
abbrev aOz:bF:=(Q (Q (O aOq) (C (s 32) Z (X 2))) (Q (K 3 (Q (D 10 aOp aAV) (C (s 44) (Q (O aJ5) (O aJ4)) Z))) (O aJ3)))
abbrev aJ2:LA:=[M 54 0,M 55 3,A 56 (.slc (.agg 4) (s 54) (.some (s 55)) .none .none),⟨N,N,.clear (.agg 4) (s 56) (.agg [(I j 0),(I j 0),(.bool false),(I j 0)])⟩]
abbrev aJ1:LA:=[M 57 0,M 58 3,A 59 (.slc (.agg 4) (s 57) .none (.some (s 58)) .none),M 2 59]
abbrev aJ0:LA:=[M 14 3,lB 15 14,M 3 15]
abbrev aOy:bF:=(Q (Q (O aOu) (C (s 13) Z (X 0))) (Q (K 1 (Q (D 10 aOt aAV) (C (s 25) (Q (O aOs) (Q (Q (O aOr) (K 2 (R aOz))) (Q (O aJ2) (Q (O aJ1) .ret)))) Z))) (O aJ0)))
abbrev aJz:LA:=[M 60 0,M 2 60]
def g65:LFn:=⟨(Q (O aHz) (Q (Q (O aOx) (C (s 8) (Q (O aOw) .ret) Z)) (Q (Q (O aOv) (K 0 (R aOy))) (Q (O aJz) .ret)))),61,[.slot 2]⟩
theorem aVL:aJ Tryz.prog 97=some g65:=Zz
abbrev aOo:LA:=[Y 2 4 0,Y 3 4 1,lF 4 0]
abbrev aOn:LD:=[(H 5 0 2,[]),(E 6 5,[0]),(H 7 0 3,[]),(E 8 7,[2]),(P 9 125 [s 6,s 8],Z4),(H 10 1 2,[]),(E 11 10,[5]),(H 12 1 3,[]),(E 13 12,[7]),(P 14 125 [s 11,s 13],Z9),(H 15 2 2,[]),(H 16 0 15,[10]),(E 17 16,[10,11]),(P 18 131 [s 17],Z13),(H 19 2 3,[]),(H 20 0 19,[14]),(E 21 20,[14,15]),(P 22 131 [s 21],Z17),(P 23 125 [s 18,s 22],Z18),(H 24 2 2,[]),(H 25 1 24,[19]),(E 26 25,[19,20]),(H 27 2 3,[]),(H 28 1 27,[22]),(E 29 28,[22,23]),(P 30 125 [s 26,s 29],Z25),(⟨S 31,N,y F [s 9,s 14,s 23,s 30]⟩,Z26),(P 32 124 [s 31],Z27),(M 4 32,Z28)]
def g66:LFn:=⟨(Q (O aOo) (Q (D 29 aOn aAV) .ret)),33,[.slot 4]⟩
theorem aVK:aJ Tryz.prog 100=some g66:=Zz
abbrev aOl:LA:=[lF 3 0]
abbrev aOk:LA:=[M 12 3,H 13 2 5,H 14 1 13,E 15 14,A 16 (b .add (s 12) (s 15)),M 3 16]
abbrev aOm:bF:=(Q (O aH4) (Q (C (s 9) Z (X 0)) (Q (K 1 (Q (O aK2) (O aOk))) (O aLQ))))
def g67:LFn:=⟨(Q (O aDG) (Q (O aOl) (Q (Q (O aH5) (K 0 (R aOm))) (Q (O aLP) .ret)))),19,[.slot 2]⟩
theorem aVJ:aJ Tryz.prog 101=some g67:=Zz
abbrev aOV:LA:=[M 14 0,⟨S 15,N,.mkz F 8 (s 14) (I j 0)⟩,M 5 15]
abbrev aOU:LA:=[M 16 1,lP 17 16,lF 18 0]
abbrev aOT:LA:=[lA 19 18 17]
abbrev aOS:LA:=[lC 20 4 16 18,G 21 4 20,⟨S 7,N,x (.agg 4) (c (.agg [(I j 0),(I j 0),(.bool false),(I j 0)]))⟩,W 4 7 21]
abbrev aOR:LA:=[H 22 2 7,H 23 1 22,E 24 23,A 25 (b .eql (s 24) (B 0))]
abbrev aOQ:LA:=[M 26 5,H 27 1 7,E 28 27,lE 29 26 28,E 30 29,lB 31 30,lE 32 26 28,⟨N,N,t F (s 32) (s 31)⟩]
abbrev aOP:LA:=[lB 33 18,M 18 33]
abbrev aOZ:bF:=(Q (O aOT) (Q (C (s 19) Z (X 0)) (Q (K 1 (Q (O aOS) (Q (O aOR) (C (s 25) (O aOQ) Z)))) (O aOP))))
abbrev aOO:LA:=[A 8 (m (c (.sl F .nil [])))]
abbrev aON:LA:=[M 34 5,lP 35 34,lF 36 0]
abbrev aJx:LA:=[lA 37 36 35]
abbrev aJw:LA:=[M 38 36,lE 39 34 36,E 40 39,M 9 38,M 10 40]
abbrev aJv:LA:=[M 41 10,A 42 (b .eql (s 41) (B 0))]
abbrev aJu:LA:=[M 43 8,M 44 9,⟨S 45,N,y F [s 44]⟩,⟨S 46,N,a F 8 (s 43) (s 45)⟩,M 8 46]
abbrev aJt:LA:=[lB 47 36,M 36 47]
abbrev aOY:bF:=(Q (O aJx) (Q (C (s 37) Z (X 2)) (Q (K 3 (Q (O aJw) (Q (O aJv) (C (s 42) (O aJu) Z)))) (O aJt))))
abbrev aJs:LA:=[M 48 11,M 49 8,lP 50 49,lA 51 48 50]
abbrev aJr:LA:=[M 54 1,lP 55 54,lF 56 0]
abbrev aJq:LA:=[lA 57 56 55]
abbrev aJp:LA:=[lC 58 4 54 56,G 59 4 58,⟨S 13,N,x (.agg 4) (c (.agg [(I j 0),(I j 0),(.bool false),(I j 0)]))⟩,W 4 13 59]
abbrev aJo:LD:=[(H 60 0 13,[]),(E 61 60,[0]),(M 62 8,[]),(M 63 11,[]),(lE 64 62 63,[2,3]),(E 65 64,[2,3,4]),(A 66 (b .neq (s 61) (s 65)),Z6),(M 67 66,Z7),(lO 68 67 2 13,Z8),(lO 69 67 1 68,Z9),(lN 70 67 69,Z10),(U 71 67 (b .gtr (s 70) (B 0)),Z11),(lH 72 67 71,Z12)]
abbrev aJn:LA:=[M 73 5,H 74 1 13,E 75 74,lE 76 73 75,E 77 76,A 78 (b .sub (s 77) (B 1)),lE 79 73 75,⟨N,N,t F (s 79) (s 78)⟩]
abbrev aJm:LA:=[M 80 5,H 81 1 13,E 82 81,lE 83 80 82,E 84 83,A 85 (b .eql (s 84) (B 0))]
abbrev aJl:LA:=[M 86 8,H 87 1 13,E 88 87,⟨S 89,N,y F [s 88]⟩,⟨S 90,N,a F 8 (s 86) (s 89)⟩,M 8 90]
abbrev aJk:LA:=[lB 91 56,M 56 91]
abbrev aOX:bF:=(Q (O aJq) (Q (C (s 57) Z (X 6)) (Q (K 7 (Q (O aJp) (Q (Q (D 13 aJo aAV) (C (s 72) (X 7) Z)) (Q (O aJn) (Q (O aJm) (C (s 85) (O aJl) Z)))))) (O aJk))))
abbrev aJj:LA:=[M 52 11,lB 53 52,M 11 53]
abbrev aOW:bF:=(Q (Q (O aJs) (C (s 51) Z (X 4))) (Q (K 5 (Q (O aJr) (K 6 (R aOX)))) (O aJj)))
abbrev aJi:LA:=[M 92 8,lP 93 92,M 94 0,lA 95 93 94,M 4 95]
def g68:LFn:=⟨(Q (O aDw) (Q (O aOV) (Q (Q (O aOU) (K 0 (R aOZ))) (Q (O aOO) (Q (Q (O aON) (K 2 (R aOY))) (Q (Q (O aDi) (K 4 (R aOW))) (Q (O aJi) .ret))))))),96,[.slot 4]⟩
theorem aVI:aJ Tryz.prog 102=some g68:=Zz
abbrev aOM:LA:=[⟨S 2,N,x F (s 0)⟩,⟨S 3,N,x F (s 1)⟩,lG 4]
abbrev aOL:LA:=[E 5 3,A 6 (.aC0 (.func 132) [] [s 2,s 3]),P 7 96 [s 5,s 6],M 4 7]
def g69:LFn:=⟨(Q (O aOM) (Q (O aOL) .ret)),8,[.slot 4]⟩
theorem aVH:aJ Tryz.prog 103=some g69:=Zz
abbrev aEw:LA:=[lG 4]
abbrev aEv:LA:=[M 5 0,A 6 (b .geq (s 5) (B 0)),M 7 6,lJ 8 7 0,lJ 9 7 1,T 10 7 (b .leq (s 8) (s 9)),lI 11 7 10,M 4 11]
def g70:LFn:=⟨(Q (O aEw) (Q (O aEv) .ret)),12,[.slot 4]⟩
theorem aU6:aJ Tryz.prog 104=some g70:=Zz
abbrev aOK:LA:=[Y 2 2 0,Y 3 2 1,⟨S 4,N,x (.agg 2) (c (.agg [(.bool false),(I j 0)]))⟩,A 5 (m (c .nilIface))]
abbrev aOJ:LA:=[G 7 2 2,P 8 117 [s 7],A 9 (.not (s 8)),M 10 9,U 11 10 (l (.agg 2) (s 3)),⟨S 12,S (10,false),k 117 [s 11]⟩,U 13 10 (.not (s 12)),lH 14 10 13]
abbrev aOI:LA:=[A 15 (.build [(.bool false),(I j 0)] []),A 16 (.aBM 64 (B 2)),W 2 4 15,M 5 16]
abbrev aOH:LA:=[H 17 0 3,E 18 17]
abbrev aOG:LA:=[G 19 2 3,W 2 4 19,A 5 (m (c .nilIface))]
abbrev aOF:LA:=[H 20 0 2,E 21 20,H 22 1 2,E 23 22,H 24 1 3,E 25 24,A 26 (b .add (s 23) (s 25)),A 27 (.build [(.bool false),(I j 0)] [(0,F,(s 21)),(1,F,(s 26))]),⟨S 6,N,x (.agg 2) (c (.agg [(.bool false),(I j 0)]))⟩,W 2 6 27]
abbrev aOE:LA:=[G 28 2 6,P 29 117 [s 28],A 30 (.not (s 29))]
abbrev aOD:LA:=[A 31 (.build [(.bool false),(I j 0)] []),A 32 (.aBM 64 (B 1)),W 2 4 31,M 5 32]
abbrev aOC:LA:=[G 33 2 6,W 2 4 33,A 5 (m (c .nilIface))]
def g71:LFn:=⟨(Q (O aOK) (Q (Q (O aOJ) (C (s 14) (Q (O aOI) .ret) Z)) (Q (Q (O aOH) (C (s 18) (Q (O aOG) .ret) Z)) (Q (O aOF) (Q (Q (O aOE) (C (s 30) (Q (O aOD) .ret) Z)) (Q (O aOC) .ret)))))),34,[.cell 4 (.agg 2),.slot 5]⟩
theorem aU5:aJ Tryz.prog 108=some g71:=Zz
abbrev aOB:LA:=[Y 3 2 1,A 4 (m (c (.sl (.agg 2) .nil []))),lG 5]
abbrev aOA:LA:=[M 6 0,A 7 (.aC0 (.func 134) [] [s 3]),P 8 85 [s 6,s 7]]
abbrev aN9:LA:=[M 9 0,M 4 9,lG 5]
abbrev aN8:LA:=[M 10 0,A 11 (.aC0 (.func 137) [] [s 3]),P 12 136 [s 10,s 11],M 0 12]
abbrev aN7:LA:=[M 13 0,G 14 2 3,⟨S 15,N,y (.agg 2) [s 14]⟩,lS 16 2 16 13 15,M 0 16]
abbrev aN6:LA:=[M 17 0,P 18 138 [s 17,(c (.fn (.func 139) [] []))]]
abbrev aN5:LA:=[M 19 0,M 4 19,A 5 (m Bb)]
def g72:LFn:=⟨(Q (O aOB) (Q (Q (O aOA) (C (s 8) (Q (O aN9) .ret) Z)) (Q (O aN8) (Q (O aN7) (Q (O aN6) (Q (O aN5) .ret)))))),20,[.slot 4,.slot 5]⟩
theorem aTS:aJ Tryz.prog 109=some g72:=Zz
abbrev aN3:LA:=[M 6 0,P 7 141 [s 6],P 8 140 [s 7,(c (.fn (.func 126) [] []))],lP 9 8,lF 10 0]
abbrev aN2:LA:=[lC 12 2 8 10,G 13 2 12,⟨S 5,N,x (.agg 2) (c (.agg [(I j 0),(I j 0)]))⟩,W 2 5 13]
abbrev aN1:LA:=[G 14 2 5,P 15 66 [s 14],M 16 15,lJ 17 16 3,T 18 16 (l (.agg 2) (s 5)),⟨S 19,S (16,true),k 78 [s 17,s 18]⟩,T 20 16 (.not (s 19)),lI 21 16 20]
abbrev aN0:LA:=[M 22 3,G 23 2 5,⟨S 24,N,y (.agg 2) [s 23]⟩,lS 25 2 16 22 24,M 3 25]
abbrev aNz:LA:=[lB 26 10,M 10 26]
abbrev aN4:bF:=(Q (O aH2) (Q (C (s 11) Z (X 0)) (Q (K 1 (Q (O aN2) (Q (O aN1) (C (s 21) (O aN0) Z)))) (O aNz))))
abbrev aNy:LA:=[M 27 3,M 2 27]
def g73:LFn:=⟨(Q (O aHv) (Q (O aKC) (Q (Q (O aN3) (K 0 (R aN4))) (Q (O aNy) .ret)))),28,[.slot 2]⟩
theorem aU4:aJ Tryz.prog 110=some g73:=Zz
abbrev aEu:LA:=[lF 4 0]
abbrev aEt:LA:=[M 6 0,lP 7 6,lF 8 0]
abbrev aEs:LA:=[lA 9 8 7]
abbrev aEr:LA:=[M 10 8,M 5 10]
abbrev aEq:LA:=[M 11 1,M 12 0,M 13 5,lC 14 2 12 13,G 15 2 14,⟨S 16,N,.aAc (s 11) [s 15]⟩]
abbrev aEp:LA:=[M 17 5,M 4 17]
abbrev aEo:LA:=[lB 18 8,M 8 18]
abbrev aNx:bF:=(Q (O aEs) (Q (C (s 9) Z (X 0)) (Q (K 1 (Q (O aEr) (Q (O aEq) (C (s 16) (Q (O aEp) .ret) Z)))) (O aEo))))
abbrev aEn:LA:=[A 4 (m (B (-1)))]
def g74:LFn:=⟨(Q (O aEu) (Q (Q (O aEt) (K 0 (R aNx))) (Q (O aEn) .ret))),19,[.slot 4]⟩
theorem aU3:aJ Tryz.prog 111=some g74:=Zz
abbrev aEm:LA:=[Y 2 2 0,lG 3]
abbrev aCg:LA:=[G 4 2 2,G 5 2 1,P 6 84 [s 4,s 5],M 3 6]
def g75:LFn:=⟨(Q (O aEm) (Q (O aCg) .ret)),7,[.slot 3]⟩
theorem aU2:aJ Tryz.prog 112=some g75:=Zz
abbrev aNw:LA:=[H 3 1 1,E 4 3,A 5 (b .geq (s 4) (B 0)),M 6 5,lL 7 6 1 1,lK 8 6 7,T 9 6 (b .leq (s 8) (B 1048576)),lI 10 6 9,M 2 10]
def g76:LFn:=⟨(Q (O aFO) (Q (O aNw) .ret)),11,[.slot 2]⟩
theorem aU1:aJ Tryz.prog 113=some g76:=Zz
abbrev aNu:LA:=[Y 3 4 1,A 4 (m (c (.sl (.agg 4) .nil [])))]
abbrev aNt:LD:=[(M 6 5,[]),(M 7 0,[]),(lP 8 7,[1]),(lA 9 6 8,Z3),(M 10 9,Z4),(lJ 11 10 0,Z5),(lJ 12 10 5,Z5),(T 13 10 (i (.agg 4) (s 11) (s 12)),Z7),(T 14 10 (l (.agg 4) (s 13)),Z8),(T 15 10 (l (.agg 4) (s 3)),Z5),(⟨S 16,S (10,true),k 142 [s 14,s 15]⟩,Z10),(lI 17 10 16,Z11)]
abbrev aNs:LA:=[M 18 5,lB 19 18,M 5 19]
abbrev aNv:bF:=(Q (Q (D 12 aNt aAV) (C (s 17) Z (X 0))) (K 1 (O aNs)))
abbrev aNr:LD:=[(M 20 5,[]),(M 21 0,[]),(lP 22 21,[1]),(lA 23 20 22,Z3),(M 24 23,Z4),(lJ 25 24 0,Z5),(lJ 26 24 5,Z5),(T 27 24 (i (.agg 4) (s 25) (s 26)),Z7),(T 28 24 (l (.agg 4) (s 27)),Z8),(T 29 24 (l (.agg 4) (s 3)),Z5),(T 30 24 (e false (.plain (.agg 4) [.int,.int,.bool,.int]) (s 28) (s 29)),Z10),(lI 31 24 30,Z11)]
abbrev aNq:LA:=[M 32 0,M 4 32]
abbrev aNp:LD:=[(⟨S 33,N,y (.agg 4) []⟩,[]),(M 34 0,[]),(M 35 5,[]),(A 36 (.slc (.agg 4) (s 34) .none (.some (s 35)) .none),[1,2]),(lS 37 4 32 33 36,Z4),(G 38 4 3,[]),(⟨S 39,N,y (.agg 4) [s 38]⟩,[5]),(lS 40 4 32 37 39,Z7),(M 41 0,[]),(M 42 5,[]),(A 43 (.slc (.agg 4) (s 41) (.some (s 42)) .none .none),[8,9]),(lS 44 4 32 40 43,Z11),(M 4 44,Z12)]
def g77:LFn:=⟨(Q (O aNu) (Q (O aHy) (Q (K 0 (R aNv)) (Q (Q (D 12 aNr aAV) (C (s 31) (Q (O aNq) .ret) Z)) (Q (D 13 aNp aAV) .ret))))),45,[.slot 4]⟩
theorem aU0:aJ Tryz.prog 114=some g77:=Zz
abbrev aMf:LA:=[H 11 0 2,E 12 11,⟨S 13,N,.mkz F 24 (s 12) (.sl F .nil [])⟩,M 5 13]
abbrev aMe:LA:=[M 14 6,H 15 0 2,E 16 15,lA 17 14 16]
abbrev aMd:LA:=[M 20 5,M 21 6,H 22 0 2,E 23 22,⟨S 24,N,.mkz F 1 (s 23) (.bool false)⟩,lE 25 20 21,⟨N,N,t F (s 25) (s 24)⟩]
abbrev aMc:LA:=[M 18 6,lB 19 18,M 6 19]
abbrev aMk:bF:=(Q (Q (O aMe) (C (s 17) Z (X 0))) (Q (K 1 (O aMd)) (O aMc)))
abbrev aMb:LA:=[M 26 7,H 27 1 2,E 28 27,lP 29 28,lA 30 26 29]
abbrev aMa:LA:=[M 33 1,A 34 (.not (s 33)),M 35 34,lO 36 35 1 2,lN 37 35 36,lM 38 35 7,U 39 35 (i (.agg 4) (s 37) (s 38)),lO 40 35 2 39,lO 41 35 1 40,lN 42 35 41,U 43 35 (b .eql (s 42) (B 0)),lH 44 35 43]
abbrev aMZ:LD:=[(M 45 5,[]),(H 46 1 2,[]),(E 47 46,[1]),(M 48 7,[]),(lC 49 4 47 48,[1,2,3]),(H 50 0 49,[1,2,3,4]),(E 51 50,[1,2,3,4,5]),(lE 52 45 51,Z7),(E 53 52,Z8),(H 54 1 2,[]),(E 55 54,[9]),(M 56 7,[]),(lC 57 4 55 56,[9,10,11]),(H 58 1 57,[9,10,11,12]),(E 59 58,[9,10,11,12,13]),(lE 60 53 59,Z15)]
abbrev aIV:LA:=[⟨N,N,t F (s 60) Bb⟩]
abbrev aIe:LA:=[M 31 7,lB 32 31,M 7 32]
abbrev aMj:bF:=(Q (Q (O aMb) (C (s 30) Z (X 2))) (Q (K 3 (Q (O aMa) (C (s 44) (D 16 aMZ aIV) Z))) (O aIe)))
abbrev aId:LA:=[M 61 8,H 62 0 2,E 63 62,lA 64 61 63]
abbrev aIc:LA:=[M 67 9,H 68 0 2,E 69 68,lA 70 67 69]
abbrev aIb:LA:=[M 73 10,H 74 0 2,E 75 74,lA 76 73 75,M 77 76,lJ 78 77 5,lJ 79 77 9,T 80 77 (i F (s 78) (s 79)),lK 81 77 80,lJ 82 77 8,T 83 77 (i F (s 81) (s 82)),lK 84 77 83,lI 85 77 84]
abbrev aIa:LD:=[(M 88 5,[]),(M 89 9,[]),(lE 90 88 89,[0,1]),(E 91 90,Z3),(M 92 10,[]),(M 93 5,[]),(M 94 9,[]),(lE 95 93 94,[5,6]),(E 96 95,[5,6,7]),(M 97 10,[]),(lE 98 96 97,[5,6,7,8,9]),(E 99 98,[5,6,7,8,9,10]),(M 100 99,[5,6,7,8,9,10,11]),(lM 101 100 5,[5,6,7,8,9,10,11,12]),(lM 102 100 8,[5,6,7,8,9,10,11,12]),(U 103 100 (i F (s 101) (s 102)),[5,6,7,8,9,10,11,12,13,14]),(lN 104 100 103,[5,6,7,8,9,10,11,12,13,14,15]),(lM 105 100 10,[5,6,7,8,9,10,11,12]),(U 106 100 (i F (s 104) (s 105)),[5,6,7,8,9,10,11,12,13,14,15,16,17]),(lN 107 100 106,[5,6,7,8,9,10,11,12,13,14,15,16,17,18]),(lH 108 100 107,[5,6,7,8,9,10,11,12,13,14,15,16,17,18,19]),(lE 109 91 92,Z21)]
abbrev aGD:LA:=[⟨N,N,t F (s 109) (s 108)⟩]
abbrev aIZ:LA:=[M 86 10,lB 87 86,M 10 87]
abbrev aMi:bF:=(Q (Q (O aIb) (C (s 85) Z (X 8))) (Q (K 9 (D 22 aIa aGD)) (O aIZ)))
abbrev aIY:LA:=[M 71 9,lB 72 71,M 9 72]
abbrev aMh:bF:=(Q (Q (O aIc) (C (s 70) Z (X 6))) (Q (K 7 (Q (O aH6) (K 8 (R aMi)))) (O aIY)))
abbrev aIX:LA:=[M 65 8,lB 66 65,M 8 66]
abbrev aMg:bF:=(Q (Q (O aId) (C (s 64) Z (X 4))) (Q (K 5 (Q (O aF8) (K 6 (R aMh)))) (O aIX)))
abbrev aIW:LA:=[M 110 5,M 4 110]
def g78:LFn:=⟨(Q (O aHw) (Q (O aMf) (Q (Q (O aDv) (K 0 (R aMk))) (Q (Q (O aEx) (K 2 (R aMj))) (Q (Q (O aF9) (K 4 (R aMg))) (Q (O aIW) .ret)))))),111,[.slot 4]⟩
theorem aUz:aJ Tryz.prog 115=some g78:=Zz
abbrev aMY:LA:=[Y 2 3 0,Y 3 3 1,lG 4]
abbrev aHC:LA:=[H 5 0 2,E 6 5,H 7 0 3,E 8 7,A 9 (b .neq (s 6) (s 8))]
abbrev aHB:LA:=[H 10 0 2,E 11 10,H 12 0 3,E 13 12,lA 14 11 13,M 4 14]
abbrev aMX:LA:=[H 15 1 2,G 16 2 15,H 17 1 3,G 18 2 17,P 19 120 [s 16,s 18],M 4 19]
def g79:LFn:=⟨(Q (O aMY) (Q (Q (O aHC) (C (s 9) (Q (O aHB) .ret) Z)) (Q (O aMX) .ret))),20,[.slot 4]⟩
theorem aUy:aJ Tryz.prog 116=some g79:=Zz
abbrev aMW:LA:=[H 3 1 1,E 4 3,P 5 104 [s 4,(B 1048576)],M 2 5]
def g80:LFn:=⟨(Q (O aFO) (Q (O aMW) .ret)),6,[.slot 2]⟩
theorem aUn:aJ Tryz.prog 117=some g80:=Zz
abbrev aMQ:LA:=[H 15 0 2,E 16 15,⟨S 17,N,.mkz F 24 (s 16) (.sl (.agg 2) .nil [])⟩,M 5 17]
abbrev aMP:LA:=[M 18 5,M 19 1,A 20 (.build [(.bool false),(I j 0)] []),⟨S 21,N,y (.agg 2) [s 20]⟩,lE 22 18 19,⟨N,N,t F (s 22) (s 21)⟩]
abbrev aMO:LA:=[M 23 6,H 24 0 2,E 25 24,A 26 (b .mul (B 2) (s 25)),A 27 (b .leq (s 23) (s 26))]
abbrev aMN:LA:=[H 30 0 2,E 31 30,⟨S 32,N,.mkz F 24 (s 31) (.sl (.agg 2) .nil [])⟩,M 7 32]
abbrev aMM:LA:=[M 33 8,H 34 0 2,E 35 34,lA 36 33 35]
abbrev aML:LD:=[(M 39 7,[]),(M 40 8,[]),(M 41 7,[]),(M 42 8,[]),(lE 43 41 42,[2,3]),(E 44 43,[2,3,4]),(M 45 5,[]),(M 46 8,[]),(lE 47 45 46,[6,7]),(E 48 47,[6,7,8]),(lS 49 2 16 44 48,[2,3,4,5,6,7,8,9]),(lE 50 39 40,Z11)]
abbrev aIH:LA:=[⟨N,N,t F (s 50) (s 49)⟩]
abbrev aMK:LA:=[M 37 8,lB 38 37,M 8 38]
abbrev aMV:bF:=(Q (Q (O aMM) (C (s 36) Z (X 2))) (Q (K 3 (D 12 aML aIH)) (O aMK)))
abbrev aIU:LA:=[M 51 9,H 52 1 2,E 53 52,lP 54 53,lA 55 51 54]
abbrev aIT:LA:=[H 58 1 2,E 59 58,M 60 9,lC 61 4 59 60,G 62 4 61,⟨S 10,N,x (.agg 4) (c (.agg [(I j 0),(I j 0),(.bool false),(I j 0)]))⟩,W 4 10 62]
abbrev aIS:LA:=[M 63 11,M 64 5,H 65 0 10,E 66 65,lE 67 64 66,E 68 67,lP 69 68,lA 70 63 69]
abbrev aIR:LD:=[(M 74 5,[]),(H 75 0 10,[]),(E 76 75,[1]),(lE 77 74 76,Z3),(E 78 77,Z4),(M 79 11,[]),(lC 80 2 78 79,Z6),(G 81 2 80,Z7),(H 82 2 10,[]),(G 83 2 82,[8]),(⟨S 84,N,.aAZ 143 [s 81,s 83] []⟩,Z10),(M 73 84,Z11),(lQ 85 73 0,Z12),(lQ 86 73 1,Z12),(⟨S 12,N,x (.agg 2) (c (.agg [(.bool false),(I j 0)]))⟩,[]),(W 2 12 85,[0,1,2,3,4,5,6,7,8,9,10,11,12,14]),(M 13 86,Z16)]
abbrev aIQ:LA:=[M 87 13,A 88 (b .eql (s 87) (B 0))]
abbrev aIP:LD:=[(M 89 7,[]),(H 90 1 10,[]),(E 91 90,[1]),(M 92 7,[]),(H 93 1 10,[]),(E 94 93,[4]),(lE 95 92 94,[3,4,5]),(E 96 95,[3,4,5,6]),(G 97 2 12,[]),(⟨S 98,N,y (.agg 2) [s 97]⟩,[8]),(lS 99 2 16 96 98,[3,4,5,6,7,8,9]),(lE 100 89 91,Z11)]
abbrev aGC:LA:=[⟨N,N,t F (s 100) (s 99)⟩]
abbrev aIO:LA:=[M 71 11,lB 72 71,M 11 72]
abbrev aMU:bF:=(Q (Q (O aIS) (C (s 70) Z (X 6))) (Q (K 7 (Q (D 17 aIR aAV) (Q (O aIQ) (C (s 88) (D 12 aIP aGC) Z)))) (O aIO)))
abbrev aIN:LA:=[M 56 9,lB 57 56,M 9 57]
abbrev aMT:bF:=(Q (Q (O aIU) (C (s 55) Z (X 4))) (Q (K 5 (Q (O aIT) (Q (O aDi) (K 6 (R aMU))))) (O aIN)))
abbrev aIM:LA:=[M 101 14,H 102 0 2,E 103 102,lA 104 101 103]
abbrev aIL:LA:=[M 107 5,M 108 14,M 109 7,M 110 14,lE 111 109 110,E 112 111,P 113 144 [s 112],lE 114 107 108,⟨N,N,t F (s 114) (s 113)⟩]
abbrev aIK:LA:=[M 105 14,lB 106 105,M 14 106]
abbrev aMS:bF:=(Q (Q (O aIM) (C (s 104) Z (X 8))) (Q (K 9 (O aIL)) (O aIK)))
abbrev aIJ:LA:=[M 28 6,lB 29 28,M 6 29]
abbrev aMR:bF:=(Q (Q (O aMO) (C (s 27) Z (X 0))) (Q (K 1 (Q (O aMN) (Q (Q (O aF9) (K 2 (R aMV))) (Q (Q (O aF8) (K 4 (R aMT))) (Q (O aGs) (K 8 (R aMS))))))) (O aIJ)))
abbrev aII:LA:=[M 115 5,M 4 115]
def g81:LFn:=⟨(Q (O aHw) (Q (O aMQ) (Q (O aMP) (Q (Q (O aDv) (K 0 (R aMR))) (Q (O aII) .ret))))),116,[.slot 4]⟩
theorem aUm:aJ Tryz.prog 119=some g81:=Zz
abbrev aBi:LA:=[Y 2 2 0,Y 3 2 1,lG 4]
abbrev aBh:LA:=[H 5 0 2,E 6 5,H 7 0 3,E 8 7,lA 9 6 8,M 10 9,lO 11 10 0 2,lN 12 10 11,lO 13 10 0 3,lN 14 10 13,U 15 10 (b .eql (s 12) (s 14)),lM 16 10 15,lL 17 16 1 2,lK 18 16 17,lL 19 16 1 3,lK 20 16 19,T 21 16 (b .lss (s 18) (s 20)),U 22 10 (p (s 16) (s 21) Ba),lH 23 10 22,M 4 23]
def g82:LFn:=⟨(Q (O aBi) (Q (O aBh) .ret)),24,[.slot 4]⟩
theorem aUl:aJ Tryz.prog 120=some g82:=Zz
abbrev aHA:LA:=[Y 2 2 0,Y 3 2 1,lF 4 0]
abbrev aMJ:LD:=[(H 5 0 2,[]),(E 6 5,[0]),(H 7 0 3,[]),(E 8 7,[2]),(P 9 125 [s 6,s 8],Z4),(H 10 1 2,[]),(E 11 10,[5]),(H 12 1 3,[]),(E 13 12,[7]),(P 14 125 [s 11,s 13],Z9),(⟨S 15,N,y F [s 9,s 14]⟩,Z10),(P 16 124 [s 15],Z11),(M 4 16,Z12)]
def g83:LFn:=⟨(Q (O aHA) (Q (D 13 aMJ aAV) .ret)),17,[.slot 4]⟩
theorem aUk:aJ Tryz.prog 126=some g83:=Zz
abbrev aMI:LA:=[M 3 0]
abbrev aMH:LA:=[lF 2 1]
def g84:LFn:=⟨(Q (O aDG) (Q (Q (O aMI) (C (s 3) (Q (O aMH) .ret) Z)) (Q (O aDG) .ret))),4,[.slot 2]⟩
theorem aUj:aJ Tryz.prog 131=some g84:=Zz
abbrev aMG:LA:=[Y 3 4 0,lG 4]
abbrev aMF:LA:=[H 5 2 3,H 6 0 5,E 7 6,M 8 7,lK 9 8 1,lK 10 8 2,lL 11 8 1 3,lK 12 8 11,lL 13 8 0 3,lK 14 8 13,⟨S 15,S (8,true),k 133 [s 9,s 10,s 12,s 14]⟩,lI 16 8 15,M 4 16]
def g85:LFn:=⟨(Q (O aMG) (Q (O aMF) .ret)),17,[.slot 4]⟩
theorem aUi:aJ Tryz.prog 132=some g85:=Zz
abbrev aG9:LA:=[lG 8]
abbrev aMC:LA:=[M 13 0,⟨S 14,N,.mkz F 1 (s 13) (.bool false)⟩,M 9 14]
abbrev aMB:LA:=[M 15 2,⟨S 16,N,y F [s 15]⟩,M 10 16]
abbrev aMA:LA:=[M 17 10,lP 18 17,A 19 (b .gtr (s 18) (B 0))]
abbrev aL9:LA:=[M 22 10,A 23 (i F (s 22) (B 0)),E 24 23,M 25 3,A 26 (b .eql (s 24) (s 25))]
abbrev aL8:LA:=[A 8 (m Bb)]
abbrev aL7:LA:=[M 27 1,lP 28 27,lF 29 0]
abbrev aL6:LA:=[lA 30 29 28]
abbrev aL5:LA:=[lC 31 4 27 29,G 32 4 31,⟨S 12,N,x (.agg 4) (c (.agg [(I j 0),(I j 0),(.bool false),(I j 0)]))⟩,W 4 12 32]
abbrev aL4:LD:=[(H 33 0 12,[]),(E 34 33,[0]),(M 35 10,[]),(A 36 (i F (s 35) (B 0)),[2]),(E 37 36,[2,3]),(A 38 (b .eql (s 34) (s 37)),Z5),(M 39 38,Z6),(lJ 40 39 9,Z7),(lL 41 39 1 12,Z7),(lK 42 39 41,[0,1,2,3,4,5,6,8]),(T 43 39 (i F (s 40) (s 42)),Z10),(lK 44 39 43,Z11),(T 45 39 (.not (s 44)),Z12),(lI 46 39 45,Z13)]
abbrev aIG:LA:=[M 47 9,H 48 1 12,E 49 48,lE 50 47 49,⟨N,N,t F (s 50) Bb⟩]
abbrev aIF:LA:=[M 51 10,H 52 1 12,E 53 52,⟨S 54,N,y F [s 53]⟩,⟨S 55,N,a F 8 (s 51) (s 54)⟩,M 10 55]
abbrev aIE:LA:=[lB 56 29,M 29 56]
abbrev aME:bF:=(Q (O aL6) (Q (C (s 30) Z (X 2)) (Q (K 3 (Q (O aL5) (Q (D 14 aL4 aAV) (C (s 46) (Q (O aIG) (O aIF)) Z)))) (O aIE))))
abbrev aID:LA:=[M 20 10,A 21 (.slc F (s 20) (.some (B 1)) .none .none),M 10 21]
abbrev aMD:bF:=(Q (Q (O aMA) (C (s 19) Z (X 0))) (Q (K 1 (Q (Q (O aL9) (C (s 26) (Q (O aL8) .ret) Z)) (Q (O aL7) (K 2 (R aME))))) (O aID)))
def g86:LFn:=⟨(Q (O aG9) (Q (O aMC) (Q (Q (O aMB) (K 0 (R aMD))) (Q (O aG9) .ret)))),57,[.slot 8]⟩
theorem aUh:aJ Tryz.prog 133=some g86:=Zz
abbrev aG8:LA:=[Y 2 2 0,lG 3]
abbrev aL3:LA:=[G 4 2 2,G 5 2 1,P 6 135 [s 4,s 5],M 3 6]
def g87:LFn:=⟨(Q (O aG8) (Q (O aL3) .ret)),7,[.slot 3]⟩
theorem aUg:aJ Tryz.prog 134=some g87:=Zz
abbrev aG7:LA:=[Y 2 2 0,Y 3 2 1,lG 4]
abbrev aL2:LA:=[H 5 0 2,E 6 5,M 7 6,lO 8 7 0 3,lN 9 7 8,U 10 7 (.not (s 9)),lH 11 7 10,M 12 11,lL 13 12 1 2,lK 14 12 13,lL 15 12 1 3,lK 16 12 15,T 17 12 (b .leq (s 14) (s 16)),lI 18 12 17,M 4 18]
def g88:LFn:=⟨(Q (O aG7) (Q (O aL2) .ret)),19,[.slot 4]⟩
theorem aUf:aJ Tryz.prog 135=some g88:=Zz
abbrev aL0:LA:=[G 4 2 1,G 5 2 2,P 6 135 [s 4,s 5],M 3 6]
def g89:LFn:=⟨(Q (O aG8) (Q (O aL0) .ret)),7,[.slot 3]⟩
theorem aUe:aJ Tryz.prog 137=some g89:=Zz
abbrev aLz:LD:=[(H 5 0 2,[]),(E 6 5,[0]),(P 7 131 [s 6],[0,1]),(H 8 0 3,[]),(E 9 8,[3]),(P 10 131 [s 9],Z5),(A 11 (b .sub (s 7) (s 10)),Z6),(M 4 11,Z7)]
def g90:LFn:=⟨(Q (O aHA) (Q (D 8 aLz aAV) .ret)),12,[.slot 4]⟩
theorem aUT:aJ Tryz.prog 139=some g90:=Zz
abbrev aLy:LA:=[Y 2 4 0,Y 3 4 1,lG 4]
abbrev aLx:LA:=[H 15 1 2,E 16 15,H 17 1 3,E 18 17,A 19 (b .neq (s 16) (s 18))]
abbrev aLw:LA:=[H 20 1 2,E 21 20,H 22 1 3,E 23 22,lA 24 21 23,M 4 24]
abbrev aLv:LA:=[H 25 2 2,H 26 0 25,E 27 26,H 28 2 3,H 29 0 28,E 30 29,A 31 (e true (.plain F [.bool]) (s 27) (s 30))]
abbrev aLu:LA:=[H 32 2 3,H 33 0 32,E 34 33,M 4 34]
abbrev aLt:LA:=[H 35 2 2,H 36 1 35,E 37 36,H 38 2 3,H 39 1 38,E 40 39,lA 41 37 40,M 4 41]
def g91:LFn:=⟨(Q (O aLy) (Q (Q (O aHC) (C (s 9) (Q (O aHB) .ret) Z)) (Q (Q (O aLx) (C (s 19) (Q (O aLw) .ret) Z)) (Q (Q (O aLv) (C (s 31) (Q (O aLu) .ret) Z)) (Q (O aLt) .ret))))),42,[.slot 4]⟩
theorem aUS:aJ Tryz.prog 142=some g91:=Zz
abbrev aLs:LA:=[Y 2 2 0,Y 3 2 1,⟨S 4,N,x (.agg 2) (c (.agg [(.bool false),(I j 0)]))⟩,lF 5 0]
abbrev aLr:LA:=[G 6 2 2,P 7 113 [s 6],A 8 (.not (s 7)),M 9 8,U 10 9 (l (.agg 2) (s 3)),⟨S 11,S (9,false),k 113 [s 10]⟩,U 12 9 (.not (s 11)),lH 13 9 12]
abbrev aLq:LA:=[A 14 (.build [(.bool false),(I j 0)] []),W 2 4 14,lF 5 2]
abbrev aLp:LA:=[H 15 0 3,E 16 15]
abbrev aLo:LA:=[G 17 2 3,W 2 4 17,lF 5 0]
abbrev aLn:LA:=[H 18 1 2,E 19 18,H 20 1 3,E 21 20,A 22 (b .add (s 19) (s 21)),A 23 (b .gtr (s 22) (B 1048576))]
abbrev aLm:LA:=[A 24 (.build [(.bool false),(I j 0)] []),W 2 4 24,lF 5 1]
abbrev aLl:LA:=[H 25 0 2,E 26 25,H 27 1 2,E 28 27,H 29 1 3,E 30 29,A 31 (b .add (s 28) (s 30)),A 32 (.build [(.bool false),(I j 0)] [(0,F,(s 26)),(1,F,(s 31))]),W 2 4 32,lF 5 0]
def g92:LFn:=⟨(Q (O aLs) (Q (Q (O aLr) (C (s 13) (Q (O aLq) .ret) Z)) (Q (Q (O aLp) (C (s 16) (Q (O aLo) .ret) Z)) (Q (Q (O aLn) (C (s 23) (Q (O aLm) .ret) Z)) (Q (O aLl) .ret))))),33,[.cell 4 (.agg 2),.slot 5]⟩
theorem aUR:aJ Tryz.prog 143=some g92:=Zz
abbrev aLi:LA:=[A 3 (m (c (.sl (.agg 2) .nil []))),A 4 (m (c (.sl (.agg 2) .nil [])))]
abbrev aLh:LA:=[M 8 5,M 9 0,lP 10 9,lA 11 8 10]
abbrev aLg:LA:=[M 14 7,M 15 0,lP 16 15,lA 17 14 16]
abbrev aLf:LD:=[(M 20 0,[]),(M 21 7,[]),(lC 22 2 20 21,[0,1]),(G 23 2 22,Z3),(M 24 0,[]),(M 25 5,[]),(lC 26 2 24 25,[4,5]),(G 27 2 26,[4,5,6]),(P 28 155 [s 23,s 27],Z8),(M 29 28,Z9),(lJ 30 29 0,Z10),(lJ 31 29 7,Z10),(T 32 29 (i (.agg 2) (s 30) (s 31)),Z12),(T 33 29 (l (.agg 2) (s 32)),Z13),(lJ 34 29 0,Z10),(lJ 35 29 5,Z10),(T 36 29 (i (.agg 2) (s 34) (s 35)),[0,1,2,3,4,5,6,7,8,9,14,15]),(T 37 29 (l (.agg 2) (s 36)),[0,1,2,3,4,5,6,7,8,9,14,15,16]),(T 38 29 (e true (.plain (.agg 2) [.bool,.int]) (s 33) (s 37)),Z18),(lJ 39 29 38,Z19),(lM 40 39 7,Z20),(lM 41 39 5,Z20),(U 42 39 (b .lss (s 40) (s 41)),Z22),(T 43 29 (p (s 39) Bb (s 42)),Z23),(lI 44 29 43,Z24)]
abbrev aLe:LA:=[M 18 7,lB 19 18,M 7 19]
abbrev aLk:bF:=(Q (Q (O aLg) (C (s 17) Z (X 2))) (Q (K 3 (Q (D 25 aLf aAV) (C (s 44) (O aM3) Z))) (O aLe)))
abbrev aIC:LA:=[M 45 6,M 46 45,lJ 47 46 0,lJ 48 46 5,T 49 46 (i (.agg 2) (s 47) (s 48)),lL 50 46 0 49,lK 51 46 50,lI 52 46 51]
abbrev aIB:LA:=[M 53 4,M 54 0,M 55 5,lC 56 2 54 55,G 57 2 56,⟨S 58,N,y (.agg 2) [s 57]⟩,lS 59 2 16 53 58,M 4 59]
abbrev aIA:LA:=[M 60 6,M 61 60,lJ 62 61 0,lJ 63 61 5,T 64 61 (i (.agg 2) (s 62) (s 63)),lL 65 61 0 64,lK 66 61 65,T 67 61 (.not (s 66)),lI 68 61 67]
abbrev aH9:LA:=[M 69 3,M 70 0,M 71 5,lC 72 2 70 71,G 73 2 72,⟨S 74,N,y (.agg 2) [s 73]⟩,lS 75 2 16 69 74,M 3 75]
abbrev aH8:LA:=[M 12 5,lB 13 12,M 5 13]
abbrev aLj:bF:=(Q (Q (O aLh) (C (s 11) Z (X 0))) (Q (K 1 (Q (O aTW) (Q (Q (O aEx) (K 2 (R aLk))) (Q (Q (O aIC) (C (s 52) (O aIB) Z)) (Q (O aIA) (C (s 68) (O aH9) Z)))))) (O aH8)))
abbrev aH7:LA:=[M 76 3,M 77 4,lS 78 2 16 76 77,M 2 78]
def g93:LFn:=⟨(Q (O aHv) (Q (O aLi) (Q (Q (O aHy) (K 0 (R aLj))) (Q (O aH7) .ret)))),79,[.slot 2]⟩
theorem aUQ:aJ Tryz.prog 144=some g93:=Zz
abbrev aLU:LA:=[H 5 0 2,E 6 5,A 7 (.not (s 6)),M 8 7,lL 9 8 0 3,lK 10 8 9,lI 11 8 10]
abbrev aLT:LA:=[H 12 1 2,E 13 12,H 14 1 3,E 15 14,A 16 (b .leq (s 13) (s 15)),M 4 16]
def g94:LFn:=⟨(Q (O aG7) (Q (Q (O aLU) (C (s 11) (Q (O aDw) .ret) Z)) (Q (O aLT) .ret))),17,[.slot 4]⟩
theorem aUP:aJ Tryz.prog 155=some g94:=Zz
end L
end Go.Proofs.YtecepaehmojpgaaGreat
