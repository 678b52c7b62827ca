/-
The functions of the code,lowered:printed by a program,checked by the kernel. No conditions.
-/
import Derived.Test.YtemjhgboialjpaaGreatKcb
import Derived.Test.YtemjhgboialjpaaGreatProg
namespace Go.Proofs.YtemjhgboialjpaaGreat
open Go.RowKit
open aN renaming slot→s,const→c
open bK renaming move→m,load→l,fldA→f,bin→b,eq→e,idxA→i,pick→p,ext→q,nilCheck→n,len→w
open LOp renaming val→v,call→k,box→x,bslice→y,append→a,store→t
open bB renaming seq→Q,ops→O,cond→C,block→K,loop→R,skip→Z,exit→X,draw→D
open Sh renaming leaf→F
open V renaming int→I
open Go.IntKind renaming i64→j
open Option renaming some→S,none→N
namespace L
abbrev g1r0:List aA:=[⟨S 2,N,x (.agg 2) (s 0)⟩,⟨S 4,N,v (m (c (.bool false)))⟩]
abbrev g1r1:List aA:=[⟨S 17,N,k 15 []⟩,⟨S 18,N,v (.not (s 17))⟩]
abbrev g1r2:List aA:=[⟨S 4,N,v (m (c (.bool false)))⟩]
abbrev g1r3:List aA:=[⟨S 19,N,v (l (.agg 2) (s 2))⟩,⟨S 20,N,k 16 [s 19]⟩,⟨S 21,N,v (m (s 20))⟩,⟨S 22,S (21,false),v (m (s 1))⟩,⟨S 23,S (21,false),v (w (s 22))⟩,⟨S 24,S (21,false),v (b .gtr (s 23) (c (I j 15)))⟩,⟨S 25,N,v (p (s 21) (c (.bool true)) (s 24))⟩]
abbrev g1r4:List aA:=[⟨S 4,N,v (m (c (.bool true)))⟩]
abbrev g1r5:List aA:=[⟨S 26,N,v (l (.agg 2) (s 2))⟩,⟨S 27,N,k 17 [s 26]⟩,⟨S 5,N,x (.agg 2) (c (.agg [(I j 0),(.sl (.agg 4) .nil [])]))⟩,⟨N,N,t (.agg 2) (s 5) (s 27)⟩]
abbrev g1r6:List aA:=[⟨S 29,N,v (l (.agg 2) (s 2))⟩,⟨S 30,N,k 18 [s 29]⟩,⟨S 28,N,v (m (s 30))⟩,⟨S 31,N,v (q (s 28) 0)⟩,⟨S 32,N,v (q (s 28) 1)⟩,⟨S 6,N,v (m (s 31))⟩,⟨S 7,N,v (m (s 32))⟩]
abbrev g1r7:List aA:=[⟨S 33,N,v (l (.agg 2) (s 5))⟩,⟨S 34,N,k 19 [s 33]⟩,⟨S 35,N,v (.not (s 34))⟩]
abbrev g1r8:List aA:=[⟨S 36,N,v (m (s 7))⟩,⟨S 37,N,k 20 [s 36,(c (I j 2))]⟩,⟨S 38,N,v (m (s 37))⟩,⟨S 39,S (38,true),v (m (s 6))⟩,⟨S 40,S (38,true),v (e false .ptr (s 39) (c .nilPtr))⟩,⟨S 41,N,v (p (s 38) (s 40) (c (.bool false)))⟩,⟨S 4,N,v (m (s 41))⟩]
abbrev g1r9:List aA:=[⟨S 42,N,v (m (s 7))⟩,⟨S 43,N,v (e true (.iface true) (s 42) (c .nilIface))⟩]
abbrev g1r10:List aA:=[⟨S 4,N,v (m (c (.bool false)))⟩]
abbrev g1r11:List aA:=[⟨S 8,N,v (m (c (.sl (.agg 4) .nil [])))⟩]
abbrev g1r12:List aA:=[⟨S 44,N,v (m (s 1))⟩,⟨S 45,N,v (w (s 44))⟩,⟨S 46,N,v (m (c (I j 0)))⟩]
abbrev g1r13:List aA:=[⟨S 47,N,v (b .lss (s 46) (s 45))⟩]
abbrev g1r14:List aA:=[⟨S 48,N,v (i F (s 44) (s 46))⟩,⟨S 49,N,v (l F (s 48))⟩,⟨S 10,N,v (m (s 49))⟩]
abbrev g1r15:List aA:=[⟨S 50,N,v (m (s 10))⟩,⟨S 51,N,v (w (s 50))⟩,⟨S 52,N,v (b .gtr (s 51) (c (I j 20)))⟩]
abbrev g1r16:List aA:=[⟨S 4,N,v (m (c (.bool true)))⟩]
abbrev g1r17:List aA:=[⟨S 53,N,v (m (s 6))⟩,⟨S 54,N,k 21 [s 53]⟩,⟨S 11,N,v (m (s 54))⟩]
abbrev g1r18:List aA:=[⟨S 55,N,v (m (s 6))⟩,⟨S 56,N,v (m (s 10))⟩,⟨S 57,N,k 22 [s 55,s 56]⟩,⟨S 12,N,v (m (s 57))⟩]
abbrev g1r19:List (aA×List Nat):=[(⟨S 59,N,v (l (.agg 2) (s 5))⟩,[]),(⟨S 60,N,v (m (s 8))⟩,[]),(⟨S 61,N,v (m (s 10))⟩,[]),(⟨S 62,N,k 24 [s 61]⟩,[2]),(⟨S 63,N,k 23 [s 59,s 60,s 62]⟩,[0,1,2,3]),(⟨S 58,N,v (m (s 63))⟩,[0,1,2,3,4]),(⟨S 64,N,v (q (s 58) 0)⟩,[0,1,2,3,4,5]),(⟨S 65,N,v (q (s 58) 1)⟩,[0,1,2,3,4,5]),(⟨S 13,N,v (m (s 64))⟩,[0,1,2,3,4,5,6]),(⟨S 14,N,v (m (s 65))⟩,[0,1,2,3,4,5,6,7,8])]
abbrev g1r19t:List aA:=[]
abbrev g1r20:List aA:=[⟨S 66,N,v (m (s 13))⟩,⟨S 8,N,v (m (s 66))⟩]
abbrev g1r21:List aA:=[⟨S 67,N,v (m (s 12))⟩,⟨S 68,N,k 13 [s 67]⟩,⟨S 69,N,v (m (s 14))⟩,⟨S 70,N,v (b .neq (s 68) (s 69))⟩,⟨S 71,N,v (m (s 70))⟩,⟨S 72,S (71,false),v (m (s 6))⟩,⟨S 73,S (71,false),v (m (s 8))⟩,⟨S 74,S (71,false),v (m (s 10))⟩,⟨S 75,S (71,false),k 25 [s 72,s 73,s 74]⟩,⟨S 76,S (71,false),v (.not (s 75))⟩,⟨S 77,N,v (p (s 71) (c (.bool true)) (s 76))⟩,⟨S 78,N,v (m (s 77))⟩,⟨S 79,S (78,false),v (m (s 14))⟩,⟨S 80,S (78,false),v (b .neq (s 79) (c (I j 0)))⟩,⟨S 81,S (78,false),v (m (s 80))⟩,⟨S 82,S (81,true),v (m (s 6))⟩,⟨S 83,S (81,true),v (m (s 11))⟩,⟨S 84,S (81,true),k 26 [s 82,s 83]⟩,⟨S 85,S (81,true),v (.not (s 84))⟩,⟨S 86,S (78,false),v (p (s 81) (s 85) (c (.bool false)))⟩,⟨S 87,N,v (p (s 78) (c (.bool true)) (s 86))⟩]
abbrev g1r22:List aA:=[⟨S 4,N,v (m (c (.bool false)))⟩]
abbrev g1r23:List aA:=[⟨S 88,N,v (b .add (s 46) (c (I j 1)))⟩,⟨S 46,N,v (m (s 88))⟩]
abbrev g1l0:bB:=(Q (O g1r13) (Q (C (s 47) Z (X 0)) (Q (K 1 (Q (O g1r14) (Q (Q (O g1r15) (C (s 52) (Q (O g1r16) .ret) Z)) (Q (O g1r17) (Q (O g1r18) (Q (D 10 g1r19 g1r19t) (Q (O g1r20) (Q (O g1r21) (C (s 87) (Q (O g1r22) .ret) Z))))))))) (O g1r23))))
abbrev g1r24:List aA:=[⟨S 89,N,v (m (s 6))⟩,⟨S 90,N,k 27 [s 89]⟩,⟨S 15,N,v (m (s 90))⟩]
abbrev g1r25:List (aA×List Nat):=[(⟨S 91,N,v (m (s 15))⟩,[]),(⟨S 92,N,v (w (s 91))⟩,[0]),(⟨S 93,N,v (f 0 (s 5))⟩,[]),(⟨S 94,N,v (l F (s 93))⟩,[2]),(⟨S 95,N,v (b .neq (s 92) (s 94))⟩,[0,1,2,3]),(⟨S 96,N,v (m (s 95))⟩,[0,1,2,3,4]),(⟨S 97,S (96,false),v (m (s 6))⟩,[0,1,2,3,4,5]),(⟨S 98,S (96,false),k 28 [s 97,(c (I j (-1)))]⟩,[0,1,2,3,4,5,6]),(⟨S 99,S (96,false),v (w (s 98))⟩,[0,1,2,3,4,5,6,7]),(⟨S 100,S (96,false),v (m (s 6))⟩,[0,1,2,3,4,5]),(⟨S 101,S (96,false),v (f 0 (s 5))⟩,[0,1,2,3,4,5]),(⟨S 102,S (96,false),v (l F (s 101))⟩,[0,1,2,3,4,5,10]),(⟨S 103,S (96,false),k 28 [s 100,s 102]⟩,[0,1,2,3,4,5,6,7,9,10,11]),(⟨S 104,S (96,false),v (w (s 103))⟩,[0,1,2,3,4,5,6,7,9,10,11,12]),(⟨S 105,S (96,false),v (b .add (s 99) (s 104))⟩,[0,1,2,3,4,5,6,7,8,9,10,11,12,13]),(⟨S 106,S (96,false),v (b .gtr (s 105) (c (I j 0)))⟩,[0,1,2,3,4,5,6,7,8,9,10,11,12,13,14]),(⟨S 107,N,v (p (s 96) (c (.bool true)) (s 106))⟩,[0,1,2,3,4,5,6,7,8,9,10,11,12,13,14,15])]
abbrev g1r25t:List aA:=[]
abbrev g1r26:List aA:=[⟨S 4,N,v (m (c (.bool false)))⟩]
abbrev g1r27:List aA:=[⟨S 108,N,v (m (s 15))⟩,⟨S 109,N,v (w (s 108))⟩,⟨S 110,N,v (m (c (I j 0)))⟩]
abbrev g1r28:List aA:=[⟨S 111,N,v (b .lss (s 110) (s 109))⟩]
abbrev g1r29:List aA:=[⟨S 112,N,v (m (s 110))⟩,⟨S 16,N,v (m (s 112))⟩]
abbrev g1r30:List (aA×List Nat):=[(⟨S 113,N,v (m (s 15))⟩,[]),(⟨S 114,N,v (m (s 16))⟩,[]),(⟨S 115,N,v (i F (s 113) (s 114))⟩,[0,1]),(⟨S 116,N,v (l F (s 115))⟩,[0,1,2]),(⟨S 117,N,v (l (.agg 2) (s 5))⟩,[]),(⟨S 118,N,v (m (s 8))⟩,[]),(⟨S 119,N,v (m (s 16))⟩,[]),(⟨S 120,N,k 30 [s 117,s 118,s 119]⟩,[4,5,6]),(⟨S 121,N,k 29 [s 116,s 120]⟩,[0,1,2,3,4,5,6,7]),(⟨S 122,N,v (.not (s 121))⟩,[0,1,2,3,4,5,6,7,8]),(⟨S 123,N,v (m (s 122))⟩,[0,1,2,3,4,5,6,7,8,9]),(⟨S 124,S (123,false),v (m (s 6))⟩,[0,1,2,3,4,5,6,7,8,9,10]),(⟨S 125,S (123,false),v (m (s 16))⟩,[0,1,2,3,4,5,6,7,8,9,10]),(⟨S 126,S (123,false),k 28 [s 124,s 125]⟩,[0,1,2,3,4,5,6,7,8,9,10,11,12]),(⟨S 127,S (123,false),v (l (.agg 2) (s 5))⟩,[0,1,2,3,4,5,6,7,8,9,10]),(⟨S 128,S (123,false),v (m (s 8))⟩,[0,1,2,3,4,5,6,7,8,9,10]),(⟨S 129,S (123,false),v (m (s 16))⟩,[0,1,2,3,4,5,6,7,8,9,10]),(⟨S 130,S (123,false),k 30 [s 127,s 128,s 129]⟩,[0,1,2,3,4,5,6,7,8,9,10,11,12,13,14,15,16]),(⟨S 131,S (123,false),k 29 [s 126,s 130]⟩,[0,1,2,3,4,5,6,7,8,9,10,11,12,13,14,15,16,17]),(⟨S 132,S (123,false),v (.not (s 131))⟩,[0,1,2,3,4,5,6,7,8,9,10,11,12,13,14,15,16,17,18]),(⟨S 133,N,v (p (s 123) (c (.bool true)) (s 132))⟩,[0,1,2,3,4,5,6,7,8,9,10,11,12,13,14,15,16,17,18,19])]
abbrev g1r30t:List aA:=[]
abbrev g1r31:List aA:=[⟨S 4,N,v (m (c (.bool false)))⟩]
abbrev g1r32:List aA:=[⟨S 134,N,v (b .add (s 110) (c (I j 1)))⟩,⟨S 110,N,v (m (s 134))⟩]
abbrev g1l1:bB:=(Q (O g1r28) (Q (C (s 111) Z (X 2)) (Q (K 3 (Q (O g1r29) (Q (D 21 g1r30 g1r30t) (C (s 133) (Q (O g1r31) .ret) Z)))) (O g1r32))))
abbrev g1r33:List aA:=[⟨S 4,N,v (m (c (.bool true)))⟩]
def corollarylaw23_CountPlays:LFn:=⟨(Q (O g1r0) (Q (Q (O g1r1) (C (s 18) (Q (O g1r2) .ret) Z)) (Q (Q (O g1r3) (C (s 25) (Q (O g1r4) .ret) Z)) (Q (O g1r5) (Q (O g1r6) (Q (Q (O g1r7) (C (s 35) (Q (O g1r8) .ret) Z)) (Q (Q (O g1r9) (C (s 43) (Q (O g1r10) .ret) Z)) (Q (O g1r11) (Q (Q (O g1r12) (K 0 (R g1l0))) (Q (O g1r24) (Q (Q (D 17 g1r25 g1r25t) (C (s 107) (Q (O g1r26) .ret) Z)) (Q (Q (O g1r27) (K 2 (R g1l1))) (Q (O g1r33) .ret))))))))))))),135,[.slot 4]⟩
theorem corollarylaw23_CountPlays_low:aG Tryz.prog 4=some corollarylaw23_CountPlays:=by kernel_rfl
abbrev g9r0:List aA:=[⟨S 2,N,v (m (c (I j 0)))⟩]
abbrev g9r1:List aA:=[⟨S 5,N,v (m (s 0))⟩,⟨S 6,N,v (e false (.iface true) (s 5) (c .nilIface))⟩]
abbrev g9r2:List aA:=[⟨S 2,N,v (m (c (I j 0)))⟩]
abbrev g9r3:List aA:=[⟨S 8,N,v (m (s 0))⟩,⟨S 9,N,v (.asrt 48 (I j 0) (s 8))⟩,⟨S 7,N,v (m (s 9))⟩,⟨S 10,N,v (q (s 7) 0)⟩,⟨S 11,N,v (q (s 7) 1)⟩,⟨S 3,N,v (m (s 10))⟩,⟨S 4,N,v (m (s 11))⟩]
abbrev g9r4:List aA:=[⟨S 12,N,v (m (s 4))⟩,⟨S 13,N,v (m (s 12))⟩,⟨S 14,S (13,true),v (m (s 3))⟩,⟨S 15,S (13,true),v (b .neq (s 14) (c (I j 0)))⟩,⟨S 16,N,v (p (s 13) (s 15) (c (.bool false)))⟩]
abbrev g9r5:List aA:=[⟨S 17,N,v (m (s 3))⟩,⟨S 2,N,v (m (s 17))⟩]
abbrev g9r6:List aA:=[⟨S 2,N,v (m (c (I j (-1))))⟩]
def corollarynum_Num:LFn:=⟨(Q (O g9r0) (Q (Q (O g9r1) (C (s 6) (Q (O g9r2) .ret) Z)) (Q (Q (O g9r3) (Q (O g9r4) (C (s 16) (Q (O g9r5) .ret) Z))) (Q (O g9r6) .ret)))),18,[.slot 2]⟩
theorem corollarynum_Num_low:aG Tryz.prog 13=some corollarynum_Num:=by kernel_rfl
abbrev g11r0:List aA:=[⟨S 0,N,v (m (c (.bool false)))⟩]
abbrev g11r1:List aA:=[⟨S 8,N,v (.build [(I j 0),(I j 0),(.bool false),(I j 0)] [(0,F,(c (I j 0))),(1,F,(c (I j 1)))])⟩,⟨S 9,N,y (.agg 4) [s 8]⟩,⟨S 10,N,k 65 [(c (I j 2)),s 9]⟩,⟨S 7,N,v (m (s 10))⟩,⟨S 11,N,v (q (s 7) 0)⟩,⟨S 12,N,v (q (s 7) 1)⟩,⟨S 1,N,x (.agg 2) (c (.agg [(I j 0),(.sl (.agg 4) .nil [])]))⟩,⟨N,N,t (.agg 2) (s 1) (s 11)⟩,⟨S 2,N,v (m (s 12))⟩]
abbrev g11r2:List aA:=[⟨S 14,N,v (l (.agg 2) (s 1))⟩,⟨S 15,N,k 18 [s 14]⟩,⟨S 13,N,v (m (s 15))⟩,⟨S 16,N,v (q (s 13) 0)⟩,⟨S 17,N,v (q (s 13) 1)⟩,⟨S 3,N,v (m (s 16))⟩,⟨S 4,N,v (m (s 17))⟩]
abbrev g11r3:List aA:=[⟨S 18,N,v (m (s 2))⟩,⟨S 19,N,v (e true (.iface true) (s 18) (c .nilIface))⟩,⟨S 20,N,v (m (s 19))⟩,⟨S 21,S (20,false),v (m (s 4))⟩,⟨S 22,S (20,false),v (e true (.iface true) (s 21) (c .nilIface))⟩,⟨S 23,N,v (p (s 20) (c (.bool true)) (s 22))⟩,⟨S 24,N,v (m (s 23))⟩,⟨S 25,S (24,false),v (m (s 3))⟩,⟨S 26,S (24,false),v (e false .ptr (s 25) (c .nilPtr))⟩,⟨S 27,N,v (p (s 24) (c (.bool true)) (s 26))⟩]
abbrev g11r4:List aA:=[⟨S 0,N,v (m (c (.bool false)))⟩]
abbrev g11r5:List aA:=[⟨S 28,N,v (m (s 3))⟩,⟨S 29,N,v (.build [(I j 0),(I j 0)] [(0,F,(c (I j 2)))])⟩,⟨S 30,N,v (.build [(I j 0),(I j 0),(I j 0)] [(1,(.agg 2),(s 29))])⟩,⟨S 31,N,v (.build [(I j 0),(I j 0),(I j 0),(I j 0)] [(0,(.agg 3),(s 30)),(3,F,(c (I j 1)))])⟩,⟨S 32,N,y (.agg 4) [s 31]⟩,⟨S 33,N,k 22 [s 28,s 32]⟩,⟨S 5,N,v (m (s 33))⟩]
abbrev g11r6:List aA:=[⟨S 34,N,v (m (s 3))⟩,⟨S 35,N,k 28 [s 34,(c (I j 1))]⟩,⟨S 6,N,v (m (s 35))⟩]
abbrev g11r7:List aA:=[⟨S 36,N,v (m (s 5))⟩,⟨S 37,N,v (e false (.iface true) (s 36) (c .nilIface))⟩,⟨S 38,N,v (m (s 37))⟩,⟨S 39,S (38,true),v (m (s 6))⟩,⟨S 40,S (38,true),v (w (s 39))⟩,⟨S 41,S (38,true),v (b .eql (s 40) (c (I j 1)))⟩,⟨S 42,N,v (p (s 38) (s 41) (c (.bool false)))⟩,⟨S 43,N,v (m (s 42))⟩,⟨S 44,S (43,true),v (m (s 6))⟩,⟨S 45,S (43,true),v (i (.agg 2) (s 44) (c (I j 0)))⟩,⟨S 46,S (43,true),v (l (.agg 2) (s 45))⟩,⟨S 47,S (43,true),v (.build [(I j 0),(I j 0)] [(0,F,(c (I j 2)))])⟩,⟨S 48,S (43,true),v (e false (.plain (.agg 2) [.int,.int]) (s 46) (s 47))⟩,⟨S 49,N,v (p (s 43) (s 48) (c (.bool false)))⟩,⟨S 0,N,v (m (s 49))⟩]
def corollarylaw23_alive:LFn:=⟨(Q (O g11r0) (Q (O g11r1) (Q (O g11r2) (Q (Q (O g11r3) (C (s 27) (Q (O g11r4) .ret) Z)) (Q (O g11r5) (Q (O g11r6) (Q (O g11r7) .ret))))))),50,[.slot 0]⟩
theorem corollarylaw23_alive_low:aG Tryz.prog 15=some corollarylaw23_alive:=by kernel_rfl
abbrev g12r0:List aA:=[⟨S 1,N,x (.agg 2) (s 0)⟩,⟨S 2,N,v (m (c (.bool false)))⟩]
abbrev g12r1:List aA:=[⟨S 3,N,v (f 0 (s 1))⟩,⟨S 4,N,v (l F (s 3))⟩,⟨S 5,N,v (b .gtr (s 4) (c (I j 14)))⟩,⟨S 6,N,v (m (s 5))⟩,⟨S 7,S (6,true),v (f 0 (s 1))⟩,⟨S 8,S (6,true),v (l F (s 7))⟩,⟨S 9,S (6,true),v (b .leq (s 8) (c (I j 200)))⟩,⟨S 10,N,v (p (s 6) (s 9) (c (.bool false)))⟩,⟨S 11,N,v (m (s 10))⟩,⟨S 12,S (11,false),v (f 1 (s 1))⟩,⟨S 13,S (11,false),v (l F (s 12))⟩,⟨S 14,S (11,false),v (w (s 13))⟩,⟨S 15,S (11,false),v (b .gtr (s 14) (c (I j 40)))⟩,⟨S 16,N,v (p (s 11) (c (.bool true)) (s 15))⟩,⟨S 2,N,v (m (s 16))⟩]
def corollarylaw22_Large:LFn:=⟨(Q (O g12r0) (Q (O g12r1) .ret)),17,[.slot 2]⟩
theorem corollarylaw22_Large_low:aG Tryz.prog 16=some corollarylaw22_Large:=by kernel_rfl
abbrev g13r0:List aA:=[⟨S 1,N,x (.agg 2) (s 0)⟩,⟨S 2,N,x (.agg 2) (c (.agg [(I j 0),(.sl (.agg 4) .nil [])]))⟩]
abbrev g13r1:List (aA×List Nat):=[(⟨S 3,N,v (f 0 (s 1))⟩,[]),(⟨S 4,N,v (l F (s 3))⟩,[0]),(⟨S 5,N,v (f 1 (s 1))⟩,[]),(⟨S 6,N,v (l F (s 5))⟩,[2]),(⟨S 7,N,k 66 [s 6]⟩,[2,3]),(⟨S 8,N,v (.build [(I j 0),(.sl (.agg 4) .nil [])] [(0,F,(s 4)),(1,F,(s 7))])⟩,[0,1,2,3,4])]
abbrev g13r1t:List aA:=[⟨N,N,t (.agg 2) (s 2) (s 8)⟩]
def corollarylaw22_Document:LFn:=⟨(Q (O g13r0) (Q (D 6 g13r1 g13r1t) .ret)),9,[.cell 2 (.agg 2)]⟩
theorem corollarylaw22_Document_low:aG Tryz.prog 17=some corollarylaw22_Document:=by kernel_rfl
abbrev g14r0:List aA:=[⟨S 1,N,x (.agg 2) (s 0)⟩,⟨S 2,N,v (m (c .nilPtr))⟩,⟨S 3,N,v (m (c .nilIface))⟩]
abbrev g14r1:List aA:=[⟨S 5,N,v (l (.agg 2) (s 1))⟩,⟨S 6,N,k 67 [s 5]⟩,⟨S 7,N,v (.not (s 6))⟩]
abbrev g14r2:List aA:=[⟨S 8,N,v (.mkif 48 (c (I j 2)))⟩,⟨S 2,N,v (m (c .nilPtr))⟩,⟨S 3,N,v (m (s 8))⟩]
abbrev g14r3:List (aA×List Nat):=[(⟨S 9,N,v (f 0 (s 1))⟩,[]),(⟨S 10,N,v (l F (s 9))⟩,[0]),(⟨S 11,N,v (f 1 (s 1))⟩,[]),(⟨S 12,N,v (l F (s 11))⟩,[2]),(⟨S 13,N,k 68 [s 12]⟩,[2,3]),(⟨S 14,N,v (.build [(I j 0),(.sl (.agg 4) .nil [])] [(0,F,(s 10)),(1,F,(s 13))])⟩,[0,1,2,3,4]),(⟨S 4,N,x (.agg 2) (c (.agg [(I j 0),(.sl (.agg 4) .nil [])]))⟩,[])]
abbrev g14r3t:List aA:=[⟨N,N,t (.agg 2) (s 4) (s 14)⟩]
abbrev g14r4:List (aA×List Nat):=[(⟨S 15,N,v (l (.agg 2) (s 4))⟩,[]),(⟨S 16,N,v (l (.agg 2) (s 4))⟩,[]),(⟨S 17,N,k 69 [s 16]⟩,[1]),(⟨S 18,N,.mp (.mk)⟩,[]),(⟨S 19,N,v (.build [(I j 0),(.sl (.agg 4) .nil []),(.sl F .nil []),.nilMap] [(0,(.agg 2),(s 15)),(2,F,(s 17)),(3,F,(s 18))])⟩,[0,1,2,3]),(⟨S 20,N,x (.agg 4) (s 19)⟩,[0,1,2,3,4]),(⟨S 2,N,v (m (s 20))⟩,[0,1,2,3,4,5]),(⟨S 3,N,v (m (c .nilIface))⟩,[0,1,2,3,4,5,6])]
abbrev g14r4t:List aA:=[]
def count_New:LFn:=⟨(Q (O g14r0) (Q (Q (O g14r1) (C (s 7) (Q (O g14r2) .ret) Z)) (Q (D 7 g14r3 g14r3t) (Q (D 8 g14r4 g14r4t) .ret)))),21,[.slot 2,.slot 3]⟩
theorem count_New_low:aG Tryz.prog 18=some count_New:=by kernel_rfl
abbrev g15r0:List aA:=[⟨S 1,N,x (.agg 2) (s 0)⟩,⟨S 2,N,v (m (c (.bool false)))⟩]
abbrev g15r1:List aA:=[⟨S 7,N,v (f 0 (s 1))⟩,⟨S 8,N,v (l F (s 7))⟩,⟨S 9,N,v (f 1 (s 1))⟩,⟨S 10,N,v (l F (s 9))⟩,⟨S 11,N,k 70 [s 8,s 10]⟩,⟨S 6,N,v (m (s 11))⟩,⟨S 12,N,v (q (s 6) 0)⟩,⟨S 13,N,v (q (s 6) 1)⟩,⟨S 3,N,x (.agg 2) (c (.agg [(I j 0),(.sl (.agg 4) .nil [])]))⟩,⟨N,N,t (.agg 2) (s 3) (s 12)⟩,⟨S 4,N,v (m (s 13))⟩]
abbrev g15r2:List aA:=[⟨S 14,N,v (m (s 4))⟩,⟨S 15,N,v (b .neq (s 14) (c (I j 0)))⟩,⟨S 16,N,v (m (s 15))⟩,⟨S 17,S (16,false),v (f 1 (s 3))⟩,⟨S 18,S (16,false),v (l F (s 17))⟩,⟨S 19,S (16,false),v (w (s 18))⟩,⟨S 20,S (16,false),v (f 1 (s 1))⟩,⟨S 21,S (16,false),v (l F (s 20))⟩,⟨S 22,S (16,false),v (w (s 21))⟩,⟨S 23,S (16,false),v (b .neq (s 19) (s 22))⟩,⟨S 24,N,v (p (s 16) (c (.bool true)) (s 23))⟩]
abbrev g15r3:List aA:=[⟨S 2,N,v (m (c (.bool false)))⟩]
abbrev g15r4:List aA:=[⟨S 5,N,v (m (c (I j 0)))⟩]
abbrev g15r5:List aA:=[⟨S 25,N,v (m (s 5))⟩,⟨S 26,N,v (f 1 (s 1))⟩,⟨S 27,N,v (l F (s 26))⟩,⟨S 28,N,v (w (s 27))⟩,⟨S 29,N,v (b .lss (s 25) (s 28))⟩]
abbrev g15r6:List (aA×List Nat):=[(⟨S 32,N,v (f 1 (s 3))⟩,[]),(⟨S 33,N,v (l F (s 32))⟩,[0]),(⟨S 34,N,v (m (s 5))⟩,[]),(⟨S 35,N,v (i (.agg 4) (s 33) (s 34))⟩,[0,1,2]),(⟨S 36,N,v (l (.agg 4) (s 35))⟩,[0,1,2,3]),(⟨S 37,N,v (f 1 (s 1))⟩,[]),(⟨S 38,N,v (l F (s 37))⟩,[5]),(⟨S 39,N,v (m (s 5))⟩,[]),(⟨S 40,N,v (i (.agg 4) (s 38) (s 39))⟩,[5,6,7]),(⟨S 41,N,v (l (.agg 4) (s 40))⟩,[5,6,7,8]),(⟨S 42,N,v (e true (.plain (.agg 4) [.int,.int,.bool,.int]) (s 36) (s 41))⟩,[0,1,2,3,4,5,6,7,8,9])]
abbrev g15r6t:List aA:=[]
abbrev g15r7:List aA:=[⟨S 2,N,v (m (c (.bool false)))⟩]
abbrev g15r8:List aA:=[⟨S 30,N,v (m (s 5))⟩,⟨S 31,N,v (b .add (s 30) (c (I j 1)))⟩,⟨S 5,N,v (m (s 31))⟩]
abbrev g15l0:bB:=(Q (Q (O g15r5) (C (s 29) Z (X 0))) (Q (K 1 (Q (D 11 g15r6 g15r6t) (C (s 42) (Q (O g15r7) .ret) Z))) (O g15r8)))
abbrev g15r9:List aA:=[⟨S 2,N,v (m (c (.bool true)))⟩]
def corollaryref22_Right:LFn:=⟨(Q (O g15r0) (Q (O g15r1) (Q (Q (O g15r2) (C (s 24) (Q (O g15r3) .ret) Z)) (Q (Q (O g15r4) (K 0 (R g15l0))) (Q (O g15r9) .ret))))),43,[.slot 2]⟩
theorem corollaryref22_Right_low:aG Tryz.prog 19=some corollaryref22_Right:=by kernel_rfl
abbrev g16r0:List aA:=[⟨S 4,N,v (m (c (.bool false)))⟩]
abbrev g16r1:List aA:=[⟨S 5,N,v (m (s 0))⟩,⟨S 6,N,k 13 [s 5]⟩,⟨S 7,N,v (m (s 1))⟩,⟨S 8,N,v (b .eql (s 6) (s 7))⟩,⟨S 4,N,v (m (s 8))⟩]
def corollarynum_Is:LFn:=⟨(Q (O g16r0) (Q (O g16r1) .ret)),9,[.slot 4]⟩
theorem corollarynum_Is_low:aG Tryz.prog 20=some corollarynum_Is:=by kernel_rfl
abbrev g17r0:List aA:=[⟨S 2,N,v (m (c .nilPtr))⟩]
abbrev g17r1:List aA:=[⟨S 3,N,v (m (s 0))⟩,⟨S 4,N,v (e false .ptr (s 3) (c .nilPtr))⟩]
abbrev g17r2:List aA:=[⟨S 2,N,v (m (c .nilPtr))⟩]
abbrev count_Counts_Copy_r3:List (aA×List Nat):=[(⟨S 5,N,v (m (s 0))⟩,[]),(⟨S 6,N,v (n (s 5))⟩,[0]),(⟨S 7,N,v (f 0 (s 6))⟩,[0,1]),(⟨S 8,N,v (l (.agg 2) (s 7))⟩,[0,1,2]),(⟨S 9,N,v (m (s 0))⟩,[]),(⟨S 10,N,v (n (s 9))⟩,[4]),(⟨S 11,N,v (f 2 (s 10))⟩,[4,5]),(⟨S 12,N,v (l F (s 11))⟩,[4,5,6]),(⟨S 13,N,v (m (s 0))⟩,[]),(⟨S 14,N,v (n (s 13))⟩,[8]),(⟨S 15,N,v (f 3 (s 14))⟩,[8,9]),(⟨S 16,N,v (l F (s 15))⟩,[8,9,10]),(⟨S 17,N,k 71 [s 16]⟩,[8,9,10,11]),(⟨S 18,N,v (.build [(I j 0),(.sl (.agg 4) .nil []),(.sl F .nil []),.nilMap] [(0,(.agg 2),(s 8)),(2,F,(s 12)),(3,F,(s 17))])⟩,[0,1,2,3,4,5,6,7,8,9,10,11,12]),(⟨S 19,N,x (.agg 4) (s 18)⟩,[0,1,2,3,4,5,6,7,8,9,10,11,12,13]),(⟨S 2,N,v (m (s 19))⟩,[0,1,2,3,4,5,6,7,8,9,10,11,12,13,14])]
abbrev g17r3t:List aA:=[]
def count_Counts_Copy:LFn:=⟨(Q (O g17r0) (Q (Q (O g17r1) (C (s 4) (Q (O g17r2) .ret) Z)) (Q (D 16 count_Counts_Copy_r3 g17r3t) .ret))),20,[.slot 2]⟩
theorem count_Counts_Copy_low:aG Tryz.prog 21=some count_Counts_Copy:=by kernel_rfl
abbrev g18r0:List aA:=[⟨S 2,N,x F (s 0)⟩,⟨S 4,N,v (m (c .nilIface))⟩]
abbrev g18r1:List aA:=[⟨S 12,N,v (l F (s 2))⟩,⟨S 13,N,v (e false .ptr (s 12) (c .nilPtr))⟩]
abbrev g18r2:List aA:=[⟨S 14,N,v (.mkif 48 (c (I j 13)))⟩,⟨S 4,N,v (m (s 14))⟩]
abbrev g18r3:List aA:=[⟨S 15,N,v (.mkfn (.func 72) [] [s 2])⟩,⟨S 5,N,v (m (s 15))⟩]
abbrev g18r4:List aA:=[⟨S 6,N,v (m (c (.fn (.func 74) [] [])))⟩]
abbrev g18r5:List aA:=[⟨S 17,N,v (m (s 1))⟩,⟨S 18,N,v (m (s 5))⟩,⟨S 19,N,k 76 [s 17,s 18]⟩,⟨S 16,N,v (m (s 19))⟩]
abbrev g18r6:List aA:=[⟨S 20,N,v (.mkif 48 (c (I j 2)))⟩,⟨S 4,N,v (m (s 20))⟩]
abbrev g18r7:List aA:=[⟨S 22,N,v (m (s 1))⟩,⟨S 23,N,v (m (s 6))⟩,⟨S 24,N,k 76 [s 22,s 23]⟩,⟨S 21,N,v (m (s 24))⟩]
abbrev g18r8:List aA:=[⟨S 25,N,v (.mkif 48 (c (I j 1)))⟩,⟨S 4,N,v (m (s 25))⟩]
abbrev g18r9:List aA:=[⟨S 26,N,v (l F (s 2))⟩,⟨S 27,N,v (n (s 26))⟩,⟨S 28,N,v (f 3 (s 27))⟩,⟨S 29,N,v (l F (s 28))⟩,⟨S 30,N,k 71 [s 29]⟩,⟨S 7,N,v (m (s 30))⟩]
abbrev g18r10:List aA:=[⟨S 31,N,v (m (s 1))⟩,⟨S 32,N,v (w (s 31))⟩,⟨S 33,N,v (m (c (I j 0)))⟩]
abbrev g18r11:List aA:=[⟨S 34,N,v (b .lss (s 33) (s 32))⟩]
abbrev g18r12:List aA:=[⟨S 35,N,v (i (.agg 4) (s 31) (s 33))⟩,⟨S 36,N,v (l (.agg 4) (s 35))⟩,⟨S 9,N,x (.agg 4) (c (.agg [(I j 0),(I j 0),(I j 0),(I j 0)]))⟩,⟨N,N,t (.agg 4) (s 9) (s 36)⟩]
abbrev g18r13:List aA:=[⟨S 37,N,v (m (s 7))⟩,⟨S 38,N,v (f 0 (s 9))⟩,⟨S 39,N,v (l (.agg 3) (s 38))⟩,⟨S 40,N,v (f 3 (s 9))⟩,⟨S 41,N,v (l F (s 40))⟩,⟨S 42,N,k 77 [s 37,s 39,s 41]⟩]
abbrev g18r14:List aA:=[⟨S 43,N,v (b .add (s 33) (c (I j 1)))⟩,⟨S 33,N,v (m (s 43))⟩]
abbrev g18l0:bB:=(Q (O g18r11) (Q (C (s 34) Z (X 1)) (Q (K 2 (Q (O g18r12) (O g18r13))) (O g18r14))))
abbrev g18r15:List aA:=[⟨S 44,N,v (m (s 7))⟩,⟨S 45,N,.mp (.rng (s 44))⟩]
abbrev g18r16:List aA:=[⟨S 46,N,.mp (.nxt (s 45))⟩,⟨S 47,N,v (q (s 46) 0)⟩]
abbrev g18r17:List aA:=[⟨S 48,N,.mp (.key (s 45))⟩,⟨S 49,N,v (q (s 48) 1)⟩,⟨S 11,N,v (m (s 49))⟩]
abbrev g18r18:List aA:=[⟨S 50,N,v (m (s 11))⟩,⟨S 51,N,k 75 [s 50]⟩,⟨S 52,N,v (.not (s 51))⟩]
abbrev g18r19:List aA:=[⟨S 53,N,v (.mkif 48 (c (I j 1)))⟩,⟨S 4,N,v (m (s 53))⟩]
abbrev g18l1:bB:=(Q (O g18r16) (Q (C (s 47) Z (X 3)) (K 4 (Q (O g18r17) (Q (O g18r18) (C (s 52) (Q (O g18r19) .ret) Z))))))
abbrev g18r20:List aA:=[⟨S 54,N,v (l F (s 2))⟩,⟨S 55,N,v (m (s 7))⟩,⟨S 56,N,v (n (s 54))⟩,⟨S 57,N,v (f 3 (s 56))⟩,⟨N,N,t F (s 57) (s 55)⟩]
abbrev g18r21:List aA:=[⟨S 4,N,v (m (c .nilIface))⟩]
def count_Counts_Apply:LFn:=⟨(Q (O g18r0) (Q (Q (O g18r1) (C (s 13) (Q (O g18r2) .ret) Z)) (Q (O g18r3) (Q (O g18r4) (Q (K 0 (Q (O g18r5) (C (s 16) (Q (O g18r6) .ret) (Q (O g18r7) (C (s 21) (Q (O g18r8) .ret) Z))))) (Q (O g18r9) (Q (Q (O g18r10) (K 1 (R g18l0))) (Q (Q (O g18r15) (K 3 (R g18l1))) (Q (O g18r20) (Q (O g18r21) .ret)))))))))),58,[.slot 4]⟩
theorem count_Counts_Apply_low:aG Tryz.prog 22=some count_Counts_Apply:=by kernel_rfl
abbrev g19r0:List aA:=[⟨S 3,N,x (.agg 2) (s 0)⟩,⟨S 6,N,v (m (c (.sl (.agg 4) .nil [])))⟩,⟨S 7,N,v (m (c (I j 0)))⟩]
abbrev g19r1:List aA:=[⟨S 8,N,v (m (c (I j 0)))⟩]
abbrev g19r2:List aA:=[⟨S 12,N,v (m (s 8))⟩,⟨S 13,N,v (m (s 2))⟩,⟨S 14,N,v (w (s 13))⟩,⟨S 15,N,v (b .lss (s 12) (s 14))⟩]
abbrev g19r3:List (aA×List Nat):=[(⟨S 18,N,v (m (s 2))⟩,[]),(⟨S 19,N,v (m (s 8))⟩,[]),(⟨S 20,N,v (i (.agg 4) (s 18) (s 19))⟩,[0,1]),(⟨S 21,N,v (f 0 (s 20))⟩,[0,1,2]),(⟨S 22,N,v (f 0 (s 21))⟩,[0,1,2,3]),(⟨S 23,N,v (l F (s 22))⟩,[0,1,2,3,4]),(⟨S 24,N,v (b .lss (s 23) (c (I j 0)))⟩,[0,1,2,3,4,5]),(⟨S 25,N,v (m (s 24))⟩,[0,1,2,3,4,5,6]),(⟨S 26,S (25,false),v (m (s 2))⟩,[0,1,2,3,4,5,6,7]),(⟨S 27,S (25,false),v (m (s 8))⟩,[0,1,2,3,4,5,6,7]),(⟨S 28,S (25,false),v (i (.agg 4) (s 26) (s 27))⟩,[0,1,2,3,4,5,6,7,8,9]),(⟨S 29,S (25,false),v (f 0 (s 28))⟩,[0,1,2,3,4,5,6,7,8,9,10]),(⟨S 30,S (25,false),v (f 0 (s 29))⟩,[0,1,2,3,4,5,6,7,8,9,10,11]),(⟨S 31,S (25,false),v (l F (s 30))⟩,[0,1,2,3,4,5,6,7,8,9,10,11,12]),(⟨S 32,S (25,false),v (f 0 (s 3))⟩,[0,1,2,3,4,5,6,7]),(⟨S 33,S (25,false),v (l F (s 32))⟩,[0,1,2,3,4,5,6,7,14]),(⟨S 34,S (25,false),v (b .geq (s 31) (s 33))⟩,[0,1,2,3,4,5,6,7,8,9,10,11,12,13,14,15]),(⟨S 35,N,v (p (s 25) (c (.bool true)) (s 34))⟩,[0,1,2,3,4,5,6,7,8,9,10,11,12,13,14,15,16]),(⟨S 36,N,v (m (s 35))⟩,[0,1,2,3,4,5,6,7,8,9,10,11,12,13,14,15,16,17]),(⟨S 37,S (36,false),v (m (s 2))⟩,[0,1,2,3,4,5,6,7,8,9,10,11,12,13,14,15,16,17,18]),(⟨S 38,S (36,false),v (m (s 8))⟩,[0,1,2,3,4,5,6,7,8,9,10,11,12,13,14,15,16,17,18]),(⟨S 39,S (36,false),v (i (.agg 4) (s 37) (s 38))⟩,[0,1,2,3,4,5,6,7,8,9,10,11,12,13,14,15,16,17,18,19,20]),(⟨S 40,S (36,false),v (f 0 (s 39))⟩,[0,1,2,3,4,5,6,7,8,9,10,11,12,13,14,15,16,17,18,19,20,21]),(⟨S 41,S (36,false),v (f 1 (s 40))⟩,[0,1,2,3,4,5,6,7,8,9,10,11,12,13,14,15,16,17,18,19,20,21,22]),(⟨S 42,S (36,false),v (l (.agg 2) (s 41))⟩,[0,1,2,3,4,5,6,7,8,9,10,11,12,13,14,15,16,17,18,19,20,21,22,23]),(⟨S 43,S (36,false),k 78 [s 42]⟩,[0,1,2,3,4,5,6,7,8,9,10,11,12,13,14,15,16,17,18,19,20,21,22,23,24]),(⟨S 44,S (36,false),v (.not (s 43))⟩,[0,1,2,3,4,5,6,7,8,9,10,11,12,13,14,15,16,17,18,19,20,21,22,23,24,25]),(⟨S 45,N,v (p (s 36) (c (.bool true)) (s 44))⟩,[0,1,2,3,4,5,6,7,8,9,10,11,12,13,14,15,16,17,18,19,20,21,22,23,24,25,26])]
abbrev g19r3t:List aA:=[]
abbrev g19r4:List aA:=[⟨S 46,N,v (m (s 1))⟩,⟨S 6,N,v (m (s 46))⟩,⟨S 7,N,v (m (c (I j 2)))⟩]
abbrev g19r5:List aA:=[⟨S 16,N,v (m (s 8))⟩,⟨S 17,N,v (b .add (s 16) (c (I j 1)))⟩,⟨S 8,N,v (m (s 17))⟩]
abbrev g19l0:bB:=(Q (Q (O g19r2) (C (s 15) Z (X 0))) (Q (K 1 (Q (D 28 g19r3 g19r3t) (C (s 45) (Q (O g19r4) .ret) Z))) (O g19r5)))
abbrev g19r6:List aA:=[⟨S 9,N,v (m (c (I j 0)))⟩]
abbrev g19r7:List aA:=[⟨S 47,N,v (m (s 9))⟩,⟨S 48,N,v (m (s 2))⟩,⟨S 49,N,v (w (s 48))⟩,⟨S 50,N,v (b .lss (s 47) (s 49))⟩]
abbrev g19r8:List aA:=[⟨S 53,N,v (m (s 2))⟩,⟨S 54,N,v (m (s 9))⟩,⟨S 55,N,v (i (.agg 4) (s 53) (s 54))⟩,⟨S 56,N,v (f 3 (s 55))⟩,⟨S 57,N,v (l F (s 56))⟩,⟨S 58,N,v (b .gtr (s 57) (c (I j 1000000)))⟩,⟨S 59,N,v (m (s 58))⟩,⟨S 60,S (59,false),v (m (s 2))⟩,⟨S 61,S (59,false),v (m (s 9))⟩,⟨S 62,S (59,false),v (i (.agg 4) (s 60) (s 61))⟩,⟨S 63,S (59,false),v (f 3 (s 62))⟩,⟨S 64,S (59,false),v (l F (s 63))⟩,⟨S 65,S (59,false),v (b .lss (s 64) (c (I j (-1000000))))⟩,⟨S 66,N,v (p (s 59) (c (.bool true)) (s 65))⟩]
abbrev g19r9:List aA:=[⟨S 67,N,v (m (s 1))⟩,⟨S 6,N,v (m (s 67))⟩,⟨S 7,N,v (m (c (I j 1)))⟩]
abbrev g19r10:List aA:=[⟨S 51,N,v (m (s 9))⟩,⟨S 52,N,v (b .add (s 51) (c (I j 1)))⟩,⟨S 9,N,v (m (s 52))⟩]
abbrev g19l1:bB:=(Q (Q (O g19r7) (C (s 50) Z (X 2))) (Q (K 3 (Q (O g19r8) (C (s 66) (Q (O g19r9) .ret) Z))) (O g19r10)))
abbrev g19r11:List aA:=[⟨S 68,N,y (.agg 4) []⟩,⟨S 69,N,v (m (s 1))⟩,⟨S 70,N,a (.agg 4) 32 (s 68) (s 69)⟩,⟨S 71,N,v (m (s 2))⟩,⟨S 72,N,a (.agg 4) 32 (s 70) (s 71)⟩,⟨S 73,N,k 79 [s 72]⟩,⟨S 10,N,v (m (s 73))⟩]
abbrev g19r12:List aA:=[⟨S 11,N,v (m (c (I j 0)))⟩]
abbrev g19r13:List aA:=[⟨S 74,N,v (m (s 11))⟩,⟨S 75,N,v (m (s 10))⟩,⟨S 76,N,v (w (s 75))⟩,⟨S 77,N,v (b .lss (s 74) (s 76))⟩]
abbrev g19r14:List aA:=[⟨S 80,N,v (m (s 10))⟩,⟨S 81,N,v (m (s 11))⟩,⟨S 82,N,v (i (.agg 4) (s 80) (s 81))⟩,⟨S 83,N,v (f 3 (s 82))⟩,⟨S 84,N,v (l F (s 83))⟩,⟨S 85,N,v (b .gtr (s 84) (c (I j 1000000)))⟩,⟨S 86,N,v (m (s 85))⟩,⟨S 87,S (86,false),v (m (s 10))⟩,⟨S 88,S (86,false),v (m (s 11))⟩,⟨S 89,S (86,false),v (i (.agg 4) (s 87) (s 88))⟩,⟨S 90,S (86,false),v (f 3 (s 89))⟩,⟨S 91,S (86,false),v (l F (s 90))⟩,⟨S 92,S (86,false),v (b .lss (s 91) (c (I j (-1000000))))⟩,⟨S 93,N,v (p (s 86) (c (.bool true)) (s 92))⟩]
abbrev g19r15:List aA:=[⟨S 94,N,v (m (s 1))⟩,⟨S 6,N,v (m (s 94))⟩,⟨S 7,N,v (m (c (I j 1)))⟩]
abbrev g19r16:List aA:=[⟨S 78,N,v (m (s 11))⟩,⟨S 79,N,v (b .add (s 78) (c (I j 1)))⟩,⟨S 11,N,v (m (s 79))⟩]
abbrev g19l2:bB:=(Q (Q (O g19r13) (C (s 77) Z (X 4))) (Q (K 5 (Q (O g19r14) (C (s 93) (Q (O g19r15) .ret) Z))) (O g19r16)))
abbrev g19r17:List aA:=[⟨S 95,N,v (m (s 10))⟩,⟨S 6,N,v (m (s 95))⟩,⟨S 7,N,v (m (c (I j 0)))⟩]
def corollaryref23_Apply:LFn:=⟨(Q (O g19r0) (Q (Q (O g19r1) (K 0 (R g19l0))) (Q (Q (O g19r6) (K 2 (R g19l1))) (Q (O g19r11) (Q (Q (O g19r12) (K 4 (R g19l2))) (Q (O g19r17) .ret)))))),96,[.slot 6,.slot 7]⟩
theorem corollaryref23_Apply_low:aG Tryz.prog 23=some corollaryref23_Apply:=by kernel_rfl
abbrev g20r0:List aA:=[⟨S 2,N,v (m (c (.sl (.agg 4) .nil [])))⟩]
abbrev g20r1:List aA:=[⟨S 3,N,v (m (c (.sl (.agg 4) .nil [])))⟩]
abbrev g20r2:List aA:=[⟨S 6,N,v (m (s 0))⟩,⟨S 7,N,v (w (s 6))⟩,⟨S 8,N,v (m (c (I j 0)))⟩]
abbrev g20r3:List aA:=[⟨S 9,N,v (b .lss (s 8) (s 7))⟩]
abbrev g20r4:List aA:=[⟨S 10,N,v (i (.agg 4) (s 6) (s 8))⟩,⟨S 11,N,v (l (.agg 4) (s 10))⟩,⟨S 5,N,x (.agg 4) (c (.agg [(I j 0),(I j 0),(I j 0),(I j 0)]))⟩,⟨N,N,t (.agg 4) (s 5) (s 11)⟩]
abbrev g20r5:List (aA×List Nat):=[(⟨S 12,N,v (m (s 3))⟩,[]),(⟨S 13,N,v (f 0 (s 5))⟩,[]),(⟨S 14,N,v (l (.agg 3) (s 13))⟩,[1]),(⟨S 15,N,k 45 [s 14]⟩,[1,2]),(⟨S 16,N,v (f 3 (s 5))⟩,[]),(⟨S 17,N,v (l F (s 16))⟩,[4]),(⟨S 18,N,v (.build [(I j 0),(I j 0),(I j 0),(I j 0)] [(0,(.agg 3),(s 15)),(3,F,(s 17))])⟩,[1,2,3,4,5]),(⟨S 19,N,y (.agg 4) [s 18]⟩,[1,2,3,4,5,6]),(⟨S 20,N,a (.agg 4) 32 (s 12) (s 19)⟩,[0,1,2,3,4,5,6,7])]
abbrev g20r5t:List aA:=[⟨S 3,N,v (m (s 20))⟩]
abbrev g20r6:List aA:=[⟨S 21,N,v (b .add (s 8) (c (I j 1)))⟩,⟨S 8,N,v (m (s 21))⟩]
abbrev g20l0:bB:=(Q (O g20r3) (Q (C (s 9) Z (X 0)) (Q (K 1 (Q (O g20r4) (D 9 g20r5 g20r5t))) (O g20r6))))
abbrev g20r7:List aA:=[⟨S 22,N,v (m (s 3))⟩,⟨S 2,N,v (m (s 22))⟩]
def corollarylaw23_Changes:LFn:=⟨(Q (O g20r0) (Q (O g20r1) (Q (Q (O g20r2) (K 0 (R g20l0))) (Q (O g20r7) .ret)))),23,[.slot 2]⟩
theorem corollarylaw23_Changes_low:aG Tryz.prog 24=some corollarylaw23_Changes:=by kernel_rfl
abbrev g21r0:List aA:=[⟨S 6,N,x F (c (.bool false))⟩]
abbrev g21r1:List aA:=[⟨S 15,N,v (m (s 2))⟩,⟨S 16,N,v (w (s 15))⟩,⟨S 17,N,v (m (c (I j 0)))⟩]
abbrev g21r2:List aA:=[⟨S 18,N,v (b .lss (s 17) (s 16))⟩]
abbrev g21r3:List aA:=[⟨S 19,N,v (i (.agg 4) (s 15) (s 17))⟩,⟨S 20,N,v (l (.agg 4) (s 19))⟩,⟨S 8,N,x (.agg 4) (c (.agg [(I j 0),(I j 0),(I j 0),(I j 0)]))⟩,⟨N,N,t (.agg 4) (s 8) (s 20)⟩]
abbrev g21r4:List (aA×List Nat):=[(⟨S 21,N,v (m (s 0))⟩,[]),(⟨S 22,N,v (f 0 (s 8))⟩,[]),(⟨S 23,N,v (l (.agg 3) (s 22))⟩,[1]),(⟨S 24,N,k 80 [s 21,s 23]⟩,[0,1,2]),(⟨S 25,N,v (m (s 1))⟩,[]),(⟨S 26,N,v (f 0 (s 8))⟩,[]),(⟨S 27,N,v (l (.agg 3) (s 26))⟩,[5]),(⟨S 28,N,k 45 [s 27]⟩,[0,1,2,3,5,6]),(⟨S 29,N,k 81 [s 25,s 28]⟩,[0,1,2,3,4,5,6,7]),(⟨S 30,N,v (b .neq (s 24) (s 29))⟩,[0,1,2,3,4,5,6,7,8])]
abbrev g21r4t:List aA:=[]
abbrev g21r5:List aA:=[⟨N,N,t F (s 6) (c (.bool false))⟩]
abbrev g21r6:List aA:=[⟨S 31,N,v (b .add (s 17) (c (I j 1)))⟩,⟨S 17,N,v (m (s 31))⟩]
abbrev g21l0:bB:=(Q (O g21r2) (Q (C (s 18) Z (X 0)) (Q (K 1 (Q (O g21r3) (Q (D 10 g21r4 g21r4t) (C (s 30) (Q (O g21r5) .ret) Z)))) (O g21r6))))
abbrev g21r7:List aA:=[⟨S 9,N,x F (c (.sl (.agg 4) .nil []))⟩]
abbrev g21r8:List aA:=[⟨S 32,N,v (m (s 1))⟩,⟨S 33,N,v (w (s 32))⟩,⟨S 34,N,v (m (c (I j 0)))⟩]
abbrev g21r9:List aA:=[⟨S 35,N,v (b .lss (s 34) (s 33))⟩]
abbrev g21r10:List aA:=[⟨S 36,N,v (i (.agg 4) (s 32) (s 34))⟩,⟨S 37,N,v (l (.agg 4) (s 36))⟩,⟨S 11,N,x (.agg 4) (c (.agg [(I j 0),(I j 0),(I j 0),(I j 0)]))⟩,⟨N,N,t (.agg 4) (s 11) (s 37)⟩]
abbrev g21r11:List aA:=[⟨S 38,N,v (f 3 (s 11))⟩,⟨S 39,N,v (l F (s 38))⟩,⟨S 40,N,v (b .gtr (s 39) (c (I j 0)))⟩]
abbrev g21r12:List aA:=[⟨S 41,N,v (l F (s 9))⟩,⟨S 42,N,v (l (.agg 4) (s 11))⟩,⟨S 43,N,y (.agg 4) [s 42]⟩,⟨S 44,N,a (.agg 4) 32 (s 41) (s 43)⟩,⟨N,N,t F (s 9) (s 44)⟩]
abbrev g21r13:List aA:=[⟨S 45,N,v (b .add (s 34) (c (I j 1)))⟩,⟨S 34,N,v (m (s 45))⟩]
abbrev g21l1:bB:=(Q (O g21r9) (Q (C (s 35) Z (X 2)) (Q (K 3 (Q (O g21r10) (Q (O g21r11) (C (s 40) (O g21r12) Z)))) (O g21r13))))
abbrev g21r14:List aA:=[⟨S 12,N,x F (c (I j 0))⟩,⟨N,N,t F (s 12) (c (I j 0))⟩]
abbrev g21r15:List aA:=[⟨S 46,N,v (m (s 0))⟩,⟨S 47,N,k 82 [s 46]⟩]
abbrev g21r16:List aA:=[⟨S 13,N,x (.agg 3) (c (.agg [(I j 0),(I j 0),(I j 0)]))⟩,⟨N,N,t (.agg 3) (s 13) (s 48)⟩]
abbrev g21r17:List aA:=[⟨S 14,N,v (m (s 49))⟩]
abbrev g21r18:List (aA×List Nat):=[(⟨S 50,N,v (l F (s 12))⟩,[]),(⟨S 51,N,v (l F (s 9))⟩,[]),(⟨S 52,N,v (w (s 51))⟩,[1]),(⟨S 53,N,v (b .geq (s 50) (s 52))⟩,[0,1,2]),(⟨S 54,N,v (m (s 53))⟩,[0,1,2,3]),(⟨S 55,S (54,false),v (l (.agg 3) (s 13))⟩,[0,1,2,3,4]),(⟨S 56,S (54,false),k 45 [s 55]⟩,[0,1,2,3,4,5]),(⟨S 57,S (54,false),v (l F (s 9))⟩,[0,1,2,3,4]),(⟨S 58,S (54,false),v (l F (s 12))⟩,[0,1,2,3,4]),(⟨S 59,S (54,false),v (i (.agg 4) (s 57) (s 58))⟩,[0,1,2,3,4,7,8]),(⟨S 60,S (54,false),v (f 0 (s 59))⟩,[0,1,2,3,4,7,8,9]),(⟨S 61,S (54,false),v (l (.agg 3) (s 60))⟩,[0,1,2,3,4,7,8,9,10]),(⟨S 62,S (54,false),v (e true (.plain (.agg 3) [.int,.int,.int]) (s 56) (s 61))⟩,[0,1,2,3,4,5,6,7,8,9,10,11]),(⟨S 63,N,v (p (s 54) (c (.bool true)) (s 62))⟩,[0,1,2,3,4,5,6,7,8,9,10,11,12]),(⟨S 64,N,v (m (s 63))⟩,[0,1,2,3,4,5,6,7,8,9,10,11,12,13]),(⟨S 65,S (64,false),v (m (s 14))⟩,[0,1,2,3,4,5,6,7,8,9,10,11,12,13,14]),(⟨S 66,S (64,false),v (l F (s 9))⟩,[0,1,2,3,4,5,6,7,8,9,10,11,12,13,14]),(⟨S 67,S (64,false),v (l F (s 12))⟩,[0,1,2,3,4,5,6,7,8,9,10,11,12,13,14]),(⟨S 68,S (64,false),v (i (.agg 4) (s 66) (s 67))⟩,[0,1,2,3,4,5,6,7,8,9,10,11,12,13,14,16,17]),(⟨S 69,S (64,false),v (f 3 (s 68))⟩,[0,1,2,3,4,5,6,7,8,9,10,11,12,13,14,16,17,18]),(⟨S 70,S (64,false),v (l F (s 69))⟩,[0,1,2,3,4,5,6,7,8,9,10,11,12,13,14,16,17,18,19]),(⟨S 71,S (64,false),v (b .neq (s 65) (s 70))⟩,[0,1,2,3,4,5,6,7,8,9,10,11,12,13,14,15,16,17,18,19,20]),(⟨S 72,N,v (p (s 64) (c (.bool true)) (s 71))⟩,[0,1,2,3,4,5,6,7,8,9,10,11,12,13,14,15,16,17,18,19,20,21])]
abbrev g21r18t:List aA:=[]
abbrev g21r19:List aA:=[⟨N,N,t F (s 6) (c (.bool false))⟩]
abbrev g21r20:List aA:=[⟨S 73,N,v (l F (s 12))⟩,⟨S 74,N,v (b .add (s 73) (c (I j 1)))⟩,⟨N,N,t F (s 12) (s 74)⟩]
abbrev g21b2:bB:=(K 5 (Q (Q (D 23 g21r18 g21r18t) (C (s 72) (Q (O g21r19) .ret) Z)) (O g21r20)))
abbrev g21r21:List aA:=[⟨S 75,N,v (l F (s 12))⟩,⟨S 76,N,v (l F (s 9))⟩,⟨S 77,N,v (w (s 76))⟩,⟨S 78,N,v (b .eql (s 75) (s 77))⟩,⟨S 79,N,v (m (s 78))⟩,⟨S 80,S (79,true),v (m (s 0))⟩,⟨S 81,S (79,true),k 83 [s 80]⟩,⟨S 82,S (79,true),v (m (s 1))⟩,⟨S 83,S (79,true),v (w (s 82))⟩,⟨S 84,S (79,true),v (b .eql (s 83) (c (I j 0)))⟩,⟨S 85,S (79,true),v (e false (.plain F [.bool]) (s 81) (s 84))⟩,⟨S 86,N,v (p (s 79) (s 85) (c (.bool false)))⟩,⟨N,N,t F (s 6) (s 86)⟩]
def corollarylaw23_Is:LFn:=⟨(Q (O g21r0) (Q (Q (O g21r1) (K 0 (R g21l0))) (Q (O g21r7) (Q (Q (O g21r8) (K 2 (R g21l1))) (Q (O g21r14) (Q (Q (O g21r15) (K 4 (.range (s 47) [48,49] (Q (O g21r16) (O g21r17)) g21b2))) (Q (O g21r21) .ret))))))),87,[.cell 6 F]⟩
theorem corollarylaw23_Is_low:aG Tryz.prog 25=some corollarylaw23_Is:=by kernel_rfl
abbrev g22r0:List aA:=[⟨S 4,N,v (m (c (.bool false)))⟩]
abbrev g22r1:List aA:=[⟨S 5,N,v (m (s 0))⟩,⟨S 6,N,v (e false .ptr (s 5) (c .nilPtr))⟩,⟨S 7,N,v (m (s 6))⟩,⟨S 8,S (7,false),v (m (s 1))⟩,⟨S 9,S (7,false),v (e false .ptr (s 8) (c .nilPtr))⟩,⟨S 10,N,v (p (s 7) (c (.bool true)) (s 9))⟩]
abbrev g22r2:List aA:=[⟨S 4,N,v (m (c (.bool false)))⟩]
abbrev g22r3:List (aA×List Nat):=[(⟨S 11,N,v (m (s 0))⟩,[]),(⟨S 12,N,v (n (s 11))⟩,[0]),(⟨S 13,N,v (f 0 (s 12))⟩,[0,1]),(⟨S 14,N,v (f 0 (s 13))⟩,[0,1,2]),(⟨S 15,N,v (l F (s 14))⟩,[0,1,2,3]),(⟨S 16,N,v (m (s 1))⟩,[]),(⟨S 17,N,v (n (s 16))⟩,[5]),(⟨S 18,N,v (f 0 (s 17))⟩,[5,6]),(⟨S 19,N,v (f 0 (s 18))⟩,[5,6,7]),(⟨S 20,N,v (l F (s 19))⟩,[5,6,7,8]),(⟨S 21,N,v (b .eql (s 15) (s 20))⟩,[0,1,2,3,4,5,6,7,8,9]),(⟨S 22,N,v (m (s 21))⟩,[0,1,2,3,4,5,6,7,8,9,10]),(⟨S 23,S (22,true),v (m (s 0))⟩,[0,1,2,3,4,5,6,7,8,9,10,11]),(⟨S 24,S (22,true),v (n (s 23))⟩,[0,1,2,3,4,5,6,7,8,9,10,11,12]),(⟨S 25,S (22,true),v (f 0 (s 24))⟩,[0,1,2,3,4,5,6,7,8,9,10,11,12,13]),(⟨S 26,S (22,true),v (f 1 (s 25))⟩,[0,1,2,3,4,5,6,7,8,9,10,11,12,13,14]),(⟨S 27,S (22,true),v (l F (s 26))⟩,[0,1,2,3,4,5,6,7,8,9,10,11,12,13,14,15]),(⟨S 28,S (22,true),v (m (s 1))⟩,[0,1,2,3,4,5,6,7,8,9,10,11]),(⟨S 29,S (22,true),v (n (s 28))⟩,[0,1,2,3,4,5,6,7,8,9,10,11,17]),(⟨S 30,S (22,true),v (f 0 (s 29))⟩,[0,1,2,3,4,5,6,7,8,9,10,11,17,18]),(⟨S 31,S (22,true),v (f 1 (s 30))⟩,[0,1,2,3,4,5,6,7,8,9,10,11,17,18,19]),(⟨S 32,S (22,true),v (l F (s 31))⟩,[0,1,2,3,4,5,6,7,8,9,10,11,17,18,19,20]),(⟨S 33,S (22,true),k 84 [s 27,s 32]⟩,[0,1,2,3,4,5,6,7,8,9,10,11,12,13,14,15,16,17,18,19,20,21]),(⟨S 34,N,v (p (s 22) (s 33) (c (.bool false)))⟩,[0,1,2,3,4,5,6,7,8,9,10,11,12,13,14,15,16,17,18,19,20,21,22]),(⟨S 35,N,v (m (s 34))⟩,[0,1,2,3,4,5,6,7,8,9,10,11,12,13,14,15,16,17,18,19,20,21,22,23]),(⟨S 36,S (35,true),v (m (s 0))⟩,[0,1,2,3,4,5,6,7,8,9,10,11,12,13,14,15,16,17,18,19,20,21,22,23,24]),(⟨S 37,S (35,true),v (n (s 36))⟩,[0,1,2,3,4,5,6,7,8,9,10,11,12,13,14,15,16,17,18,19,20,21,22,23,24,25]),(⟨S 38,S (35,true),v (f 3 (s 37))⟩,[0,1,2,3,4,5,6,7,8,9,10,11,12,13,14,15,16,17,18,19,20,21,22,23,24,25,26]),(⟨S 39,S (35,true),v (l F (s 38))⟩,[0,1,2,3,4,5,6,7,8,9,10,11,12,13,14,15,16,17,18,19,20,21,22,23,24,25,26,27]),(⟨S 40,S (35,true),v (m (s 1))⟩,[0,1,2,3,4,5,6,7,8,9,10,11,12,13,14,15,16,17,18,19,20,21,22,23,24]),(⟨S 41,S (35,true),v (n (s 40))⟩,[0,1,2,3,4,5,6,7,8,9,10,11,12,13,14,15,16,17,18,19,20,21,22,23,24,29]),(⟨S 42,S (35,true),v (f 3 (s 41))⟩,[0,1,2,3,4,5,6,7,8,9,10,11,12,13,14,15,16,17,18,19,20,21,22,23,24,29,30]),(⟨S 43,S (35,true),v (l F (s 42))⟩,[0,1,2,3,4,5,6,7,8,9,10,11,12,13,14,15,16,17,18,19,20,21,22,23,24,29,30,31]),(⟨S 44,S (35,true),k 85 [s 39,s 43]⟩,[0,1,2,3,4,5,6,7,8,9,10,11,12,13,14,15,16,17,18,19,20,21,22,23,24,25,26,27,28,29,30,31,32]),(⟨S 45,N,v (p (s 35) (s 44) (c (.bool false)))⟩,[0,1,2,3,4,5,6,7,8,9,10,11,12,13,14,15,16,17,18,19,20,21,22,23,24,25,26,27,28,29,30,31,32,33]),(⟨S 4,N,v (m (s 45))⟩,[0,1,2,3,4,5,6,7,8,9,10,11,12,13,14,15,16,17,18,19,20,21,22,23,24,25,26,27,28,29,30,31,32,33,34])]
abbrev g22r3t:List aA:=[]
def count_Same:LFn:=⟨(Q (O g22r0) (Q (Q (O g22r1) (C (s 10) (Q (O g22r2) .ret) Z)) (Q (D 36 g22r3 g22r3t) .ret))),46,[.slot 4]⟩
theorem count_Same_low:aG Tryz.prog 26=some count_Same:=by kernel_rfl
abbrev g23r0:List aA:=[⟨S 2,N,v (m (c (.sl F .nil [])))⟩]
abbrev g23r1:List aA:=[⟨S 6,N,v (m (s 0))⟩,⟨S 7,N,v (e false .ptr (s 6) (c .nilPtr))⟩]
abbrev g23r2:List aA:=[⟨S 2,N,v (m (c (.sl F .nil [])))⟩]
abbrev g23r3:List aA:=[⟨S 3,N,v (m (c (.sl F .nil [])))⟩]
abbrev g23r4:List aA:=[⟨S 8,N,v (m (s 0))⟩,⟨S 9,N,k 86 [s 8]⟩,⟨S 4,N,v (m (s 9))⟩]
abbrev g23r5:List aA:=[⟨S 10,N,v (m (s 0))⟩,⟨S 11,N,v (n (s 10))⟩,⟨S 12,N,v (f 0 (s 11))⟩,⟨S 13,N,v (f 0 (s 12))⟩,⟨S 14,N,v (l F (s 13))⟩,⟨S 15,N,v (m (c (I j 0)))⟩]
abbrev g23r6:List aA:=[⟨S 16,N,v (b .lss (s 15) (s 14))⟩]
abbrev g23r7:List aA:=[⟨S 17,N,v (m (s 15))⟩,⟨S 5,N,v (m (s 17))⟩]
abbrev g23r8:List aA:=[⟨S 18,N,v (m (s 3))⟩,⟨S 19,N,v (m (s 0))⟩,⟨S 20,N,v (m (s 4))⟩,⟨S 21,N,v (m (s 5))⟩,⟨S 22,N,k 87 [s 19,s 20,s 21]⟩,⟨S 23,N,y F [s 22]⟩,⟨S 24,N,a F 24 (s 18) (s 23)⟩,⟨S 3,N,v (m (s 24))⟩]
abbrev g23r9:List aA:=[⟨S 25,N,v (b .add (s 15) (c (I j 1)))⟩,⟨S 15,N,v (m (s 25))⟩]
abbrev g23l0:bB:=(Q (O g23r6) (Q (C (s 16) Z (X 0)) (Q (K 1 (Q (O g23r7) (O g23r8))) (O g23r9))))
abbrev g23r10:List aA:=[⟨S 26,N,v (m (s 3))⟩,⟨S 2,N,v (m (s 26))⟩]
def count_Counts_Fronts:LFn:=⟨(Q (O g23r0) (Q (Q (O g23r1) (C (s 7) (Q (O g23r2) .ret) Z)) (Q (O g23r3) (Q (O g23r4) (Q (Q (O g23r5) (K 0 (R g23l0))) (Q (O g23r10) .ret)))))),27,[.slot 2]⟩
theorem count_Counts_Fronts_low:aG Tryz.prog 27=some count_Counts_Fronts:=by kernel_rfl
abbrev g24r0:List aA:=[⟨S 4,N,v (m (c (.sl (.agg 2) .nil [])))⟩]
abbrev g24r1:List aA:=[⟨S 5,N,v (m (s 0))⟩,⟨S 6,N,v (e false .ptr (s 5) (c .nilPtr))⟩,⟨S 7,N,v (m (s 6))⟩,⟨S 8,S (7,false),v (m (s 1))⟩,⟨S 9,S (7,false),v (b .lss (s 8) (c (I j 0)))⟩,⟨S 10,N,v (p (s 7) (c (.bool true)) (s 9))⟩,⟨S 11,N,v (m (s 10))⟩,⟨S 12,S (11,false),v (m (s 1))⟩,⟨S 13,S (11,false),v (m (s 0))⟩,⟨S 14,S (11,false),v (n (s 13))⟩,⟨S 15,S (11,false),v (f 0 (s 14))⟩,⟨S 16,S (11,false),v (f 0 (s 15))⟩,⟨S 17,S (11,false),v (l F (s 16))⟩,⟨S 18,S (11,false),v (b .geq (s 12) (s 17))⟩,⟨S 19,N,v (p (s 11) (c (.bool true)) (s 18))⟩]
abbrev g24r2:List aA:=[⟨S 4,N,v (m (c (.sl (.agg 2) .nil [])))⟩]
abbrev g24r3:List aA:=[⟨S 20,N,v (m (s 0))⟩,⟨S 21,N,v (m (s 0))⟩,⟨S 22,N,k 86 [s 21]⟩,⟨S 23,N,v (m (s 1))⟩,⟨S 24,N,k 87 [s 20,s 22,s 23]⟩,⟨S 4,N,v (m (s 24))⟩]
def count_Counts_Front:LFn:=⟨(Q (O g24r0) (Q (Q (O g24r1) (C (s 19) (Q (O g24r2) .ret) Z)) (Q (O g24r3) .ret))),25,[.slot 4]⟩
theorem count_Counts_Front_low:aG Tryz.prog 28=some count_Counts_Front:=by kernel_rfl
abbrev g25r0:List aA:=[⟨S 4,N,v (m (c (.bool false)))⟩]
abbrev g25r1:List aA:=[⟨S 5,N,v (m (s 0))⟩,⟨S 6,N,k 89 [s 5]⟩,⟨S 7,N,v (m (s 1))⟩,⟨S 8,N,k 88 [s 6,s 7]⟩,⟨S 4,N,v (m (s 8))⟩]
def corollarylaw21_Is:LFn:=⟨(Q (O g25r0) (Q (O g25r1) .ret)),9,[.slot 4]⟩
theorem corollarylaw21_Is_low:aG Tryz.prog 29=some corollarylaw21_Is:=by kernel_rfl
abbrev g26r0:List aA:=[⟨S 3,N,x (.agg 2) (s 0)⟩,⟨S 6,N,v (m (c (.sl (.agg 2) .nil [])))⟩]
abbrev g26r1:List aA:=[⟨S 7,N,v (m (c (.sl (.agg 2) .nil [])))⟩]
abbrev g26r2:List aA:=[⟨S 9,N,v (m (s 2))⟩,⟨S 10,N,v (b .lss (s 9) (c (I j 0)))⟩,⟨S 11,N,v (m (s 10))⟩,⟨S 12,S (11,false),v (m (s 2))⟩,⟨S 13,S (11,false),v (f 0 (s 3))⟩,⟨S 14,S (11,false),v (l F (s 13))⟩,⟨S 15,S (11,false),v (b .geq (s 12) (s 14))⟩,⟨S 16,N,v (p (s 11) (c (.bool true)) (s 15))⟩]
abbrev g26r3:List aA:=[⟨S 6,N,v (m (c (.sl (.agg 2) .nil [])))⟩]
abbrev g26r4:List aA:=[⟨S 8,N,v (m (c (I j 0)))⟩]
abbrev g26r5:List aA:=[⟨S 17,N,v (m (s 8))⟩,⟨S 18,N,v (m (s 1))⟩,⟨S 19,N,v (w (s 18))⟩,⟨S 20,N,v (b .lss (s 17) (s 19))⟩]
abbrev g26r6:List aA:=[⟨S 23,N,v (m (s 1))⟩,⟨S 24,N,v (m (s 8))⟩,⟨S 25,N,v (i (.agg 4) (s 23) (s 24))⟩,⟨S 26,N,v (f 3 (s 25))⟩,⟨S 27,N,v (l F (s 26))⟩,⟨S 28,N,v (b .gtr (s 27) (c (I j 0)))⟩]
abbrev g26r7:List (aA×List Nat):=[(⟨S 29,N,v (m (s 7))⟩,[]),(⟨S 30,N,v (l (.agg 2) (s 3))⟩,[]),(⟨S 31,N,v (m (s 1))⟩,[]),(⟨S 32,N,v (m (s 8))⟩,[]),(⟨S 33,N,v (i (.agg 4) (s 31) (s 32))⟩,[2,3]),(⟨S 34,N,v (f 0 (s 33))⟩,[2,3,4]),(⟨S 35,N,v (f 0 (s 34))⟩,[2,3,4,5]),(⟨S 36,N,v (l F (s 35))⟩,[2,3,4,5,6]),(⟨S 37,N,v (m (s 1))⟩,[]),(⟨S 38,N,v (m (s 8))⟩,[]),(⟨S 39,N,v (i (.agg 4) (s 37) (s 38))⟩,[8,9]),(⟨S 40,N,v (f 0 (s 39))⟩,[8,9,10]),(⟨S 41,N,v (f 1 (s 40))⟩,[8,9,10,11]),(⟨S 42,N,v (l (.agg 2) (s 41))⟩,[8,9,10,11,12]),(⟨S 43,N,v (m (s 2))⟩,[]),(⟨S 44,N,k 90 [s 30,s 36,s 42,s 43]⟩,[1,2,3,4,5,6,7,8,9,10,11,12,13,14]),(⟨S 45,N,a (.agg 2) 16 (s 29) (s 44)⟩,[0,1,2,3,4,5,6,7,8,9,10,11,12,13,14,15])]
abbrev g26r7t:List aA:=[⟨S 7,N,v (m (s 45))⟩]
abbrev g26r8:List aA:=[⟨S 21,N,v (m (s 8))⟩,⟨S 22,N,v (b .add (s 21) (c (I j 1)))⟩,⟨S 8,N,v (m (s 22))⟩]
abbrev g26l0:bB:=(Q (Q (O g26r5) (C (s 20) Z (X 0))) (Q (K 1 (Q (O g26r6) (C (s 28) (D 17 g26r7 g26r7t) Z))) (O g26r8)))
abbrev g26r9:List aA:=[⟨S 46,N,v (m (s 7))⟩,⟨S 47,N,k 91 [s 46]⟩,⟨S 6,N,v (m (s 47))⟩]
def corollaryref23_Front:LFn:=⟨(Q (O g26r0) (Q (O g26r1) (Q (Q (O g26r2) (C (s 16) (Q (O g26r3) .ret) Z)) (Q (Q (O g26r4) (K 0 (R g26l0))) (Q (O g26r9) .ret))))),48,[.slot 6]⟩
theorem corollaryref23_Front_low:aG Tryz.prog 30=some corollaryref23_Front:=by kernel_rfl
abbrev g41r0:List aA:=[⟨S 1,N,x (.agg 3) (s 0)⟩,⟨S 2,N,x (.agg 3) (c (.agg [(I j 0),(I j 0),(I j 0)]))⟩]
abbrev g41r1:List (aA×List Nat):=[(⟨S 3,N,v (f 0 (s 1))⟩,[]),(⟨S 4,N,v (l F (s 3))⟩,[0]),(⟨S 5,N,v (f 1 (s 1))⟩,[]),(⟨S 6,N,v (l (.agg 2) (s 5))⟩,[2]),(⟨S 7,N,k 103 [s 6]⟩,[2,3]),(⟨S 8,N,v (.build [(I j 0),(I j 0),(I j 0)] [(0,F,(s 4)),(1,(.agg 2),(s 7))])⟩,[0,1,2,3,4])]
abbrev g41r1t:List aA:=[⟨N,N,t (.agg 3) (s 2) (s 8)⟩]
def corollarylaw23_Stamp:LFn:=⟨(Q (O g41r0) (Q (D 6 g41r1 g41r1t) .ret)),9,[.cell 2 (.agg 3)]⟩
theorem corollarylaw23_Stamp_low:aG Tryz.prog 45=some corollarylaw23_Stamp:=by kernel_rfl
abbrev g60r0:List aA:=[⟨S 2,N,x F (s 0)⟩,⟨S 4,N,x (.agg 2) (c (.agg [(I j 0),(.sl (.agg 4) .nil [])]))⟩,⟨S 5,N,v (m (c .nilIface))⟩]
abbrev g60r1:List aA:=[⟨S 8,N,v (.mkfn (.func 124) [] [s 2])⟩,⟨S 6,N,v (m (s 8))⟩]
abbrev g60r2:List aA:=[⟨S 9,N,v (l F (s 2))⟩,⟨S 10,N,v (b .lss (s 9) (c (I j 0)))⟩,⟨S 11,N,v (m (s 10))⟩,⟨S 12,S (11,false),v (l F (s 2))⟩,⟨S 13,S (11,false),v (b .gtr (s 12) (c (I j 200)))⟩,⟨S 14,N,v (p (s 11) (c (.bool true)) (s 13))⟩,⟨S 15,N,v (m (s 14))⟩,⟨S 16,S (15,false),v (m (s 1))⟩,⟨S 17,S (15,false),v (m (s 6))⟩,⟨S 18,S (15,false),k 126 [s 16,s 17]⟩,⟨S 19,N,v (p (s 15) (c (.bool true)) (s 18))⟩]
abbrev g60r3:List aA:=[⟨S 20,N,v (.build [(I j 0),(.sl (.agg 4) .nil [])] [])⟩,⟨S 21,N,v (.mkif 48 (c (I j 1)))⟩,⟨N,N,t (.agg 2) (s 4) (s 20)⟩,⟨S 5,N,v (m (s 21))⟩]
abbrev g60r4:List aA:=[⟨S 22,N,v (m (s 1))⟩,⟨S 23,N,k 129 [s 22]⟩,⟨S 24,N,k 128 [s 23,(c (.fn (.func 130) [] []))]⟩,⟨S 25,N,k 127 [s 24]⟩,⟨S 7,N,v (m (s 25))⟩]
abbrev path_New_r5:List aA:=[⟨S 26,N,v (m (s 7))⟩,⟨S 27,N,k 131 [s 26]⟩,⟨S 28,N,v (b .gtr (s 27) (c (I j 1048576)))⟩]
abbrev path_New_r6:List aA:=[⟨S 29,N,v (.build [(I j 0),(.sl (.agg 4) .nil [])] [])⟩,⟨S 30,N,v (.mkif 48 (c (I j 1)))⟩,⟨N,N,t (.agg 2) (s 4) (s 29)⟩,⟨S 5,N,v (m (s 30))⟩]
abbrev path_New_r7:List aA:=[⟨S 31,N,v (l F (s 2))⟩,⟨S 32,N,v (m (s 7))⟩,⟨S 33,N,k 132 [s 31,s 32]⟩,⟨S 34,N,v (m (s 33))⟩,⟨S 35,S (34,false),v (l F (s 2))⟩,⟨S 36,S (34,false),v (m (s 7))⟩,⟨S 37,S (34,false),k 133 [s 35,s 36]⟩,⟨S 38,N,v (p (s 34) (c (.bool true)) (s 37))⟩]
abbrev path_New_r8:List aA:=[⟨S 39,N,v (.build [(I j 0),(.sl (.agg 4) .nil [])] [])⟩,⟨S 40,N,v (.mkif 48 (c (I j 9)))⟩,⟨N,N,t (.agg 2) (s 4) (s 39)⟩,⟨S 5,N,v (m (s 40))⟩]
abbrev path_New_r9:List aA:=[⟨S 41,N,v (l F (s 2))⟩,⟨S 42,N,v (m (s 7))⟩,⟨S 43,N,v (.build [(I j 0),(.sl (.agg 4) .nil [])] [(0,F,(s 41)),(1,F,(s 42))])⟩,⟨N,N,t (.agg 2) (s 4) (s 43)⟩,⟨S 5,N,v (m (c .nilIface))⟩]
def path_New:LFn:=⟨(Q (O g60r0) (Q (O g60r1) (Q (Q (O g60r2) (C (s 19) (Q (O g60r3) .ret) Z)) (Q (O g60r4) (Q (Q (O path_New_r5) (C (s 28) (Q (O path_New_r6) .ret) Z)) (Q (Q (O path_New_r7) (C (s 38) (Q (O path_New_r8) .ret) Z)) (Q (O path_New_r9) .ret))))))),44,[.cell 4 (.agg 2),.slot 5]⟩
theorem path_New_low:aG Tryz.prog 65=some path_New:=by kernel_rfl
abbrev g61r0:List aA:=[⟨S 2,N,v (m (c (.sl (.agg 4) .nil [])))⟩]
abbrev g61r1:List aA:=[⟨S 3,N,v (m (c (.sl (.agg 4) .nil [])))⟩]
abbrev g61r2:List aA:=[⟨S 6,N,v (m (s 0))⟩,⟨S 7,N,v (w (s 6))⟩,⟨S 8,N,v (m (c (I j 0)))⟩]
abbrev g61r3:List aA:=[⟨S 9,N,v (b .lss (s 8) (s 7))⟩]
abbrev g61r4:List aA:=[⟨S 10,N,v (i (.agg 4) (s 6) (s 8))⟩,⟨S 11,N,v (l (.agg 4) (s 10))⟩,⟨S 5,N,x (.agg 4) (c (.agg [(I j 0),(I j 0),(.bool false),(I j 0)]))⟩,⟨N,N,t (.agg 4) (s 5) (s 11)⟩]
abbrev g61r5:List (aA×List Nat):=[(⟨S 12,N,v (m (s 3))⟩,[]),(⟨S 13,N,v (f 0 (s 5))⟩,[]),(⟨S 14,N,v (l F (s 13))⟩,[1]),(⟨S 15,N,v (f 1 (s 5))⟩,[]),(⟨S 16,N,v (l F (s 15))⟩,[3]),(⟨S 17,N,v (f 2 (s 5))⟩,[]),(⟨S 18,N,v (l (.agg 2) (s 17))⟩,[5]),(⟨S 19,N,k 134 [s 18]⟩,[5,6]),(⟨S 20,N,v (.build [(I j 0),(I j 0),(.bool false),(I j 0)] [(0,F,(s 14)),(1,F,(s 16)),(2,(.agg 2),(s 19))])⟩,[1,2,3,4,5,6,7]),(⟨S 21,N,y (.agg 4) [s 20]⟩,[1,2,3,4,5,6,7,8]),(⟨S 22,N,a (.agg 4) 32 (s 12) (s 21)⟩,[0,1,2,3,4,5,6,7,8,9])]
abbrev g61r5t:List aA:=[⟨S 3,N,v (m (s 22))⟩]
abbrev g61r6:List aA:=[⟨S 23,N,v (b .add (s 8) (c (I j 1)))⟩,⟨S 8,N,v (m (s 23))⟩]
abbrev g61l0:bB:=(Q (O g61r3) (Q (C (s 9) Z (X 0)) (Q (K 1 (Q (O g61r4) (D 11 g61r5 g61r5t))) (O g61r6))))
abbrev g61r7:List aA:=[⟨S 24,N,v (m (s 3))⟩,⟨S 2,N,v (m (s 24))⟩]
def corollarylaw22_Ways:LFn:=⟨(Q (O g61r0) (Q (O g61r1) (Q (Q (O g61r2) (K 0 (R g61l0))) (Q (O g61r7) .ret)))),25,[.slot 2]⟩
theorem corollarylaw22_Ways_low:aG Tryz.prog 66=some corollarylaw22_Ways:=by kernel_rfl
abbrev g62r0:List aA:=[⟨S 1,N,x (.agg 2) (s 0)⟩,⟨S 2,N,v (m (c (.bool false)))⟩]
abbrev g62r1:List aA:=[⟨S 6,N,v (f 0 (s 1))⟩,⟨S 7,N,v (l F (s 6))⟩,⟨S 8,N,v (f 1 (s 1))⟩,⟨S 9,N,v (l F (s 8))⟩,⟨S 10,N,k 65 [s 7,s 9]⟩,⟨S 5,N,v (m (s 10))⟩,⟨S 11,N,v (q (s 5) 0)⟩,⟨S 12,N,v (q (s 5) 1)⟩,⟨S 3,N,x (.agg 2) (c (.agg [(I j 0),(.sl (.agg 4) .nil [])]))⟩,⟨N,N,t (.agg 2) (s 3) (s 11)⟩,⟨S 4,N,v (m (s 12))⟩]
abbrev g62r2:List aA:=[⟨S 13,N,v (m (s 4))⟩,⟨S 14,N,v (e false (.iface true) (s 13) (c .nilIface))⟩,⟨S 15,N,v (m (s 14))⟩,⟨S 16,S (15,true),v (f 1 (s 3))⟩,⟨S 17,S (15,true),v (l F (s 16))⟩,⟨S 18,S (15,true),v (f 1 (s 1))⟩,⟨S 19,S (15,true),v (l F (s 18))⟩,⟨S 20,S (15,true),k 84 [s 17,s 19]⟩,⟨S 21,N,v (p (s 15) (s 20) (c (.bool false)))⟩,⟨S 2,N,v (m (s 21))⟩]
def path_Right:LFn:=⟨(Q (O g62r0) (Q (O g62r1) (Q (O g62r2) .ret))),22,[.slot 2]⟩
theorem path_Right_low:aG Tryz.prog 67=some path_Right:=by kernel_rfl
abbrev g64r0:List aA:=[⟨S 1,N,x (.agg 2) (s 0)⟩,⟨S 2,N,v (m (c (.sl F .nil [])))⟩]
abbrev g64r1:List aA:=[⟨S 5,N,v (l (.agg 2) (s 1))⟩,⟨S 6,N,k 67 [s 5]⟩,⟨S 7,N,v (.not (s 6))⟩]
abbrev g64r2:List aA:=[⟨S 2,N,v (m (c (.sl F .nil [])))⟩]
abbrev g64r3:List aA:=[⟨S 3,N,v (m (c (.sl F .nil [])))⟩]
abbrev g64r4:List aA:=[⟨S 8,N,v (f 0 (s 1))⟩,⟨S 9,N,v (l F (s 8))⟩,⟨S 10,N,v (m (c (I j 0)))⟩]
abbrev g64r5:List aA:=[⟨S 11,N,v (b .lss (s 10) (s 9))⟩]
abbrev g64r6:List aA:=[⟨S 12,N,v (m (s 10))⟩,⟨S 4,N,v (m (s 12))⟩]
abbrev g64r7:List aA:=[⟨S 13,N,v (m (s 3))⟩,⟨S 14,N,v (l (.agg 2) (s 1))⟩,⟨S 15,N,v (m (s 4))⟩,⟨S 16,N,k 135 [s 14,s 15]⟩,⟨S 17,N,y F [s 16]⟩,⟨S 18,N,a F 24 (s 13) (s 17)⟩,⟨S 3,N,v (m (s 18))⟩]
abbrev g64r8:List aA:=[⟨S 19,N,v (b .add (s 10) (c (I j 1)))⟩,⟨S 10,N,v (m (s 19))⟩]
abbrev g64l0:bB:=(Q (O g64r5) (Q (C (s 11) Z (X 0)) (Q (K 1 (Q (O g64r6) (O g64r7))) (O g64r8))))
abbrev g64r9:List aA:=[⟨S 20,N,v (m (s 3))⟩,⟨S 2,N,v (m (s 20))⟩]
def path_All:LFn:=⟨(Q (O g64r0) (Q (Q (O g64r1) (C (s 7) (Q (O g64r2) .ret) Z)) (Q (O g64r3) (Q (Q (O g64r4) (K 0 (R g64l0))) (Q (O g64r9) .ret))))),21,[.slot 2]⟩
theorem path_All_low:aG Tryz.prog 69=some path_All:=by kernel_rfl
abbrev g65r0:List aA:=[⟨S 4,N,x (.agg 2) (c (.agg [(I j 0),(.sl (.agg 4) .nil [])]))⟩,⟨S 5,N,v (m (c (I j 0)))⟩]
abbrev g65r1:List aA:=[⟨S 16,N,v (m (s 0))⟩,⟨S 17,N,v (b .lss (s 16) (c (I j 0)))⟩,⟨S 18,N,v (m (s 17))⟩,⟨S 19,S (18,false),v (m (s 0))⟩,⟨S 20,S (18,false),v (b .gtr (s 19) (c (I j 200)))⟩,⟨S 21,N,v (p (s 18) (c (.bool true)) (s 20))⟩]
abbrev g65r2:List aA:=[⟨S 22,N,v (.build [(I j 0),(.sl (.agg 4) .nil [])] [])⟩,⟨N,N,t (.agg 2) (s 4) (s 22)⟩,⟨S 5,N,v (m (c (I j 1)))⟩]
abbrev g65r3:List aA:=[⟨S 23,N,v (m (s 0))⟩,⟨S 24,N,v (.build [(I j 0),(.sl (.agg 4) .nil [])] [(0,F,(s 23))])⟩,⟨S 6,N,x (.agg 2) (c (.agg [(I j 0),(.sl (.agg 4) .nil [])]))⟩,⟨N,N,t (.agg 2) (s 6) (s 24)⟩]
abbrev g65r4:List aA:=[⟨S 7,N,v (m (c (I j 0)))⟩]
abbrev g65r5:List aA:=[⟨S 25,N,v (m (s 7))⟩,⟨S 26,N,v (m (s 1))⟩,⟨S 27,N,v (w (s 26))⟩,⟨S 28,N,v (b .lss (s 25) (s 27))⟩]
abbrev g65r6:List aA:=[⟨S 31,N,v (m (s 1))⟩,⟨S 32,N,v (m (s 7))⟩,⟨S 33,N,v (i (.agg 4) (s 31) (s 32))⟩,⟨S 34,N,v (l (.agg 4) (s 33))⟩,⟨S 8,N,x (.agg 4) (c (.agg [(I j 0),(I j 0),(.bool false),(I j 0)]))⟩,⟨N,N,t (.agg 4) (s 8) (s 34)⟩]
abbrev g65r7:List aA:=[⟨S 35,N,v (f 0 (s 8))⟩,⟨S 36,N,v (l F (s 35))⟩,⟨S 37,N,v (b .lss (s 36) (c (I j 0)))⟩,⟨S 38,N,v (m (s 37))⟩,⟨S 39,S (38,false),v (f 1 (s 8))⟩,⟨S 40,S (38,false),v (l F (s 39))⟩,⟨S 41,S (38,false),v (b .lss (s 40) (c (I j 0)))⟩,⟨S 42,N,v (p (s 38) (c (.bool true)) (s 41))⟩,⟨S 43,N,v (m (s 42))⟩,⟨S 44,S (43,false),v (f 0 (s 8))⟩,⟨S 45,S (43,false),v (l F (s 44))⟩,⟨S 46,S (43,false),v (m (s 0))⟩,⟨S 47,S (43,false),v (b .geq (s 45) (s 46))⟩,⟨S 48,N,v (p (s 43) (c (.bool true)) (s 47))⟩,⟨S 49,N,v (m (s 48))⟩,⟨S 50,S (49,false),v (f 1 (s 8))⟩,⟨S 51,S (49,false),v (l F (s 50))⟩,⟨S 52,S (49,false),v (m (s 0))⟩,⟨S 53,S (49,false),v (b .geq (s 51) (s 52))⟩,⟨S 54,N,v (p (s 49) (c (.bool true)) (s 53))⟩,⟨S 55,N,v (m (s 54))⟩,⟨S 56,S (55,false),v (f 2 (s 8))⟩,⟨S 57,S (55,false),v (l (.agg 2) (s 56))⟩,⟨S 58,S (55,false),k 136 [s 57]⟩,⟨S 59,S (55,false),v (.not (s 58))⟩,⟨S 60,N,v (p (s 55) (c (.bool true)) (s 59))⟩]
abbrev g65r8:List aA:=[⟨S 61,N,v (.build [(I j 0),(.sl (.agg 4) .nil [])] [])⟩,⟨N,N,t (.agg 2) (s 4) (s 61)⟩,⟨S 5,N,v (m (c (I j 1)))⟩]
abbrev g65r9:List aA:=[⟨S 62,N,v (f 1 (s 6))⟩,⟨S 63,N,v (l F (s 62))⟩,⟨S 64,N,v (l (.agg 4) (s 8))⟩,⟨S 65,N,k 137 [s 63,s 64]⟩,⟨S 66,N,v (f 1 (s 6))⟩,⟨N,N,t F (s 66) (s 65)⟩]
abbrev g65r10:List aA:=[⟨S 29,N,v (m (s 7))⟩,⟨S 30,N,v (b .add (s 29) (c (I j 1)))⟩,⟨S 7,N,v (m (s 30))⟩]
abbrev g65l0:bB:=(Q (Q (O g65r5) (C (s 28) Z (X 0))) (Q (K 1 (Q (O g65r6) (Q (Q (O g65r7) (C (s 60) (Q (O g65r8) .ret) Z)) (O g65r9)))) (O g65r10)))
abbrev g65r11:List aA:=[⟨S 9,N,v (m (c (I j 0)))⟩]
abbrev g65r12:List aA:=[⟨S 10,N,v (m (c (I j 0)))⟩]
abbrev g65r13:List aA:=[⟨S 67,N,v (m (s 10))⟩,⟨S 68,N,v (f 1 (s 6))⟩,⟨S 69,N,v (l F (s 68))⟩,⟨S 70,N,v (w (s 69))⟩,⟨S 71,N,v (b .lss (s 67) (s 70))⟩]
abbrev g65r14:List aA:=[⟨S 74,N,v (m (s 9))⟩,⟨S 75,N,v (f 1 (s 6))⟩,⟨S 76,N,v (l F (s 75))⟩,⟨S 77,N,v (m (s 10))⟩,⟨S 78,N,v (i (.agg 4) (s 76) (s 77))⟩,⟨S 79,N,v (f 2 (s 78))⟩,⟨S 80,N,v (f 1 (s 79))⟩,⟨S 81,N,v (l F (s 80))⟩,⟨S 82,N,v (b .add (s 74) (s 81))⟩,⟨S 9,N,v (m (s 82))⟩]
abbrev g65r15:List aA:=[⟨S 72,N,v (m (s 10))⟩,⟨S 73,N,v (b .add (s 72) (c (I j 1)))⟩,⟨S 10,N,v (m (s 73))⟩]
abbrev g65l1:bB:=(Q (Q (O g65r13) (C (s 71) Z (X 2))) (Q (K 3 (O g65r14)) (O g65r15)))
abbrev g65r16:List aA:=[⟨S 83,N,v (m (s 9))⟩,⟨S 84,N,v (b .gtr (s 83) (c (I j 1048576)))⟩]
abbrev g65r17:List aA:=[⟨S 85,N,v (.build [(I j 0),(.sl (.agg 4) .nil [])] [])⟩,⟨N,N,t (.agg 2) (s 4) (s 85)⟩,⟨S 5,N,v (m (c (I j 1)))⟩]
abbrev g65r18:List (aA×List Nat):=[(⟨S 86,N,v (l (.agg 2) (s 6))⟩,[]),(⟨S 87,N,k 138 [s 86,(c (.bool true))]⟩,[0]),(⟨S 88,N,v (l (.agg 2) (s 6))⟩,[]),(⟨S 89,N,k 138 [s 88,(c (.bool false))]⟩,[0,1,2]),(⟨S 11,N,v (m (s 87))⟩,[0,1,2,3]),(⟨S 12,N,v (m (s 89))⟩,[0,1,2,3,4])]
abbrev g65r18t:List aA:=[]
abbrev g65r19:List aA:=[⟨S 13,N,v (m (c (I j 0)))⟩]
abbrev g65r20:List aA:=[⟨S 90,N,v (m (s 13))⟩,⟨S 91,N,v (m (s 0))⟩,⟨S 92,N,v (b .lss (s 90) (s 91))⟩]
abbrev g65r21:List aA:=[⟨S 95,N,v (m (s 11))⟩,⟨S 96,N,v (m (s 13))⟩,⟨S 97,N,v (i F (s 95) (s 96))⟩,⟨S 98,N,v (l F (s 97))⟩,⟨S 99,N,v (m (s 13))⟩,⟨S 100,N,v (i F (s 98) (s 99))⟩,⟨S 101,N,v (l F (s 100))⟩]
abbrev g65r22:List aA:=[⟨S 102,N,v (.build [(I j 0),(.sl (.agg 4) .nil [])] [])⟩,⟨N,N,t (.agg 2) (s 4) (s 102)⟩,⟨S 5,N,v (m (c (I j 9)))⟩]
abbrev g65r23:List aA:=[⟨S 93,N,v (m (s 13))⟩,⟨S 94,N,v (b .add (s 93) (c (I j 1)))⟩,⟨S 13,N,v (m (s 94))⟩]
abbrev g65l2:bB:=(Q (Q (O g65r20) (C (s 92) Z (X 4))) (Q (K 5 (Q (O g65r21) (C (s 101) (Q (O g65r22) .ret) Z))) (O g65r23)))
abbrev g65r24:List aA:=[⟨S 14,N,v (m (c (I j 0)))⟩]
abbrev g65r25:List aA:=[⟨S 103,N,v (m (s 14))⟩,⟨S 104,N,v (f 1 (s 6))⟩,⟨S 105,N,v (l F (s 104))⟩,⟨S 106,N,v (w (s 105))⟩,⟨S 107,N,v (b .lss (s 103) (s 106))⟩]
abbrev g65r26:List aA:=[⟨S 110,N,v (f 1 (s 6))⟩,⟨S 111,N,v (l F (s 110))⟩,⟨S 112,N,v (m (s 14))⟩,⟨S 113,N,v (i (.agg 4) (s 111) (s 112))⟩,⟨S 114,N,v (l (.agg 4) (s 113))⟩,⟨S 15,N,x (.agg 4) (c (.agg [(I j 0),(I j 0),(.bool false),(I j 0)]))⟩,⟨N,N,t (.agg 4) (s 15) (s 114)⟩]
abbrev g65r27:List (aA×List Nat):=[(⟨S 115,N,v (f 2 (s 15))⟩,[]),(⟨S 116,N,v (f 0 (s 115))⟩,[0]),(⟨S 117,N,v (l F (s 116))⟩,[0,1]),(⟨S 118,N,v (m (s 117))⟩,[0,1,2]),(⟨S 119,S (118,true),v (f 0 (s 15))⟩,[0,1,2,3]),(⟨S 120,S (118,true),v (l F (s 119))⟩,[0,1,2,3,4]),(⟨S 121,S (118,true),v (f 1 (s 15))⟩,[0,1,2,3]),(⟨S 122,S (118,true),v (l F (s 121))⟩,[0,1,2,3,6]),(⟨S 123,S (118,true),v (b .eql (s 120) (s 122))⟩,[0,1,2,3,4,5,6,7]),(⟨S 124,S (118,true),v (m (s 123))⟩,[0,1,2,3,4,5,6,7,8]),(⟨S 125,S (124,false),v (m (s 12))⟩,[0,1,2,3,4,5,6,7,8,9]),(⟨S 126,S (124,false),v (f 1 (s 15))⟩,[0,1,2,3,4,5,6,7,8,9]),(⟨S 127,S (124,false),v (l F (s 126))⟩,[0,1,2,3,4,5,6,7,8,9,11]),(⟨S 128,S (124,false),v (i F (s 125) (s 127))⟩,[0,1,2,3,4,5,6,7,8,9,10,11,12]),(⟨S 129,S (124,false),v (l F (s 128))⟩,[0,1,2,3,4,5,6,7,8,9,10,11,12,13]),(⟨S 130,S (124,false),v (f 0 (s 15))⟩,[0,1,2,3,4,5,6,7,8,9]),(⟨S 131,S (124,false),v (l F (s 130))⟩,[0,1,2,3,4,5,6,7,8,9,15]),(⟨S 132,S (124,false),v (i F (s 129) (s 131))⟩,[0,1,2,3,4,5,6,7,8,9,10,11,12,13,14,15,16]),(⟨S 133,S (124,false),v (l F (s 132))⟩,[0,1,2,3,4,5,6,7,8,9,10,11,12,13,14,15,16,17]),(⟨S 134,S (118,true),v (p (s 124) (c (.bool true)) (s 133))⟩,[0,1,2,3,4,5,6,7,8,9,10,11,12,13,14,15,16,17,18]),(⟨S 135,N,v (p (s 118) (s 134) (c (.bool false)))⟩,[0,1,2,3,4,5,6,7,8,9,10,11,12,13,14,15,16,17,18,19])]
abbrev g65r27t:List aA:=[]
abbrev g65r28:List aA:=[⟨S 136,N,v (.build [(I j 0),(.sl (.agg 4) .nil [])] [])⟩,⟨N,N,t (.agg 2) (s 4) (s 136)⟩,⟨S 5,N,v (m (c (I j 9)))⟩]
abbrev g65r29:List aA:=[⟨S 108,N,v (m (s 14))⟩,⟨S 109,N,v (b .add (s 108) (c (I j 1)))⟩,⟨S 14,N,v (m (s 109))⟩]
abbrev g65l3:bB:=(Q (Q (O g65r25) (C (s 107) Z (X 6))) (Q (K 7 (Q (O g65r26) (Q (D 21 g65r27 g65r27t) (C (s 135) (Q (O g65r28) .ret) Z)))) (O g65r29)))
abbrev g65r30:List aA:=[⟨S 137,N,v (l (.agg 2) (s 6))⟩,⟨N,N,t (.agg 2) (s 4) (s 137)⟩,⟨S 5,N,v (m (c (I j 0)))⟩]
def corollaryref22_Of:LFn:=⟨(Q (O g65r0) (Q (Q (O g65r1) (C (s 21) (Q (O g65r2) .ret) Z)) (Q (O g65r3) (Q (Q (O g65r4) (K 0 (R g65l0))) (Q (O g65r11) (Q (Q (O g65r12) (K 2 (R g65l1))) (Q (Q (O g65r16) (C (s 84) (Q (O g65r17) .ret) Z)) (Q (D 6 g65r18 g65r18t) (Q (Q (O g65r19) (K 4 (R g65l2))) (Q (Q (O g65r24) (K 6 (R g65l3))) (Q (O g65r30) .ret))))))))))),138,[.cell 4 (.agg 2),.slot 5]⟩
theorem corollaryref22_Of_low:aG Tryz.prog 70=some corollaryref22_Of:=by kernel_rfl
abbrev g67r0:List aA:=[⟨S 2,N,x (.agg 4) (s 0)⟩,⟨S 3,N,v (m (c (.bool false)))⟩]
abbrev g67r1:List (aA×List Nat):=[(⟨S 4,N,v (f 0 (s 2))⟩,[]),(⟨S 5,N,v (f 0 (s 4))⟩,[0]),(⟨S 6,N,v (l F (s 5))⟩,[0,1]),(⟨S 7,N,v (b .lss (s 6) (c (I j 0)))⟩,[0,1,2]),(⟨S 8,N,v (m (s 7))⟩,[0,1,2,3]),(⟨S 9,S (8,false),v (f 0 (s 2))⟩,[0,1,2,3,4]),(⟨S 10,S (8,false),v (f 0 (s 9))⟩,[0,1,2,3,4,5]),(⟨S 11,S (8,false),v (l F (s 10))⟩,[0,1,2,3,4,5,6]),(⟨S 12,S (8,false),v (l F (s 1))⟩,[0,1,2,3,4]),(⟨S 13,S (8,false),v (n (s 12))⟩,[0,1,2,3,4,8]),(⟨S 14,S (8,false),v (f 0 (s 13))⟩,[0,1,2,3,4,8,9]),(⟨S 15,S (8,false),v (f 0 (s 14))⟩,[0,1,2,3,4,8,9,10]),(⟨S 16,S (8,false),v (l F (s 15))⟩,[0,1,2,3,4,8,9,10,11]),(⟨S 17,S (8,false),v (b .geq (s 11) (s 16))⟩,[0,1,2,3,4,5,6,7,8,9,10,11,12]),(⟨S 18,N,v (p (s 8) (c (.bool true)) (s 17))⟩,[0,1,2,3,4,5,6,7,8,9,10,11,12,13]),(⟨S 19,N,v (m (s 18))⟩,[0,1,2,3,4,5,6,7,8,9,10,11,12,13,14]),(⟨S 20,S (19,false),v (f 0 (s 2))⟩,[0,1,2,3,4,5,6,7,8,9,10,11,12,13,14,15]),(⟨S 21,S (19,false),v (f 1 (s 20))⟩,[0,1,2,3,4,5,6,7,8,9,10,11,12,13,14,15,16]),(⟨S 22,S (19,false),v (l (.agg 2) (s 21))⟩,[0,1,2,3,4,5,6,7,8,9,10,11,12,13,14,15,16,17]),(⟨S 23,S (19,false),k 73 [s 22]⟩,[0,1,2,3,4,5,6,7,8,9,10,11,12,13,14,15,16,17,18]),(⟨S 24,S (19,false),v (.not (s 23))⟩,[0,1,2,3,4,5,6,7,8,9,10,11,12,13,14,15,16,17,18,19]),(⟨S 25,N,v (p (s 19) (c (.bool true)) (s 24))⟩,[0,1,2,3,4,5,6,7,8,9,10,11,12,13,14,15,16,17,18,19,20]),(⟨S 3,N,v (m (s 25))⟩,[0,1,2,3,4,5,6,7,8,9,10,11,12,13,14,15,16,17,18,19,20,21])]
abbrev g67r1t:List aA:=[]
def count_Counts_Apply_1:LFn:=⟨(Q (O g67r0) (Q (D 23 g67r1 g67r1t) .ret)),26,[.slot 3]⟩
theorem count_Counts_Apply_1_low:aG Tryz.prog 72=some count_Counts_Apply_1:=by kernel_rfl
abbrev stamp_Right_r0:List aA:=[⟨S 1,N,x (.agg 2) (s 0)⟩,⟨S 2,N,v (m (c (.bool false)))⟩]
abbrev stamp_Right_r1:List aA:=[⟨S 3,N,v (f 0 (s 1))⟩,⟨S 4,N,v (l F (s 3))⟩,⟨S 5,N,k 140 [s 4,(c (I j 1048576))]⟩,⟨S 6,N,v (m (s 5))⟩,⟨S 7,S (6,true),v (f 1 (s 1))⟩,⟨S 8,S (6,true),v (l F (s 7))⟩,⟨S 9,S (6,true),k 140 [s 8,(c (I j 1048576))]⟩,⟨S 10,N,v (p (s 6) (s 9) (c (.bool false)))⟩,⟨S 2,N,v (m (s 10))⟩]
def stamp_Right:LFn:=⟨(Q (O stamp_Right_r0) (Q (O stamp_Right_r1) .ret)),11,[.slot 2]⟩
theorem stamp_Right_low:aG Tryz.prog 73=some stamp_Right:=by kernel_rfl
abbrev g68r0:List aA:=[⟨S 1,N,x (.agg 4) (s 0)⟩,⟨S 2,N,v (m (c (.bool false)))⟩]
abbrev g68r1:List aA:=[⟨S 3,N,v (f 3 (s 1))⟩,⟨S 4,N,v (l F (s 3))⟩,⟨S 5,N,k 75 [s 4]⟩,⟨S 6,N,v (.not (s 5))⟩,⟨S 2,N,v (m (s 6))⟩]
def count_Counts_Apply_2:LFn:=⟨(Q (O g68r0) (Q (O g68r1) .ret)),7,[.slot 2]⟩
theorem count_Counts_Apply_2_low:aG Tryz.prog 74=some count_Counts_Apply_2:=by kernel_rfl
abbrev g69r0:List aA:=[⟨S 2,N,v (m (c (.bool false)))⟩]
abbrev g69r1:List aA:=[⟨S 3,N,v (m (s 0))⟩,⟨S 4,N,v (b .geq (s 3) (c (I j (-1000000))))⟩,⟨S 5,N,v (m (s 4))⟩,⟨S 6,S (5,true),v (m (s 0))⟩,⟨S 7,S (5,true),v (b .leq (s 6) (c (I j 1000000)))⟩,⟨S 8,N,v (p (s 5) (s 7) (c (.bool false)))⟩,⟨S 2,N,v (m (s 8))⟩]
def count_within:LFn:=⟨(Q (O g69r0) (Q (O g69r1) .ret)),9,[.slot 2]⟩
theorem count_within_low:aG Tryz.prog 75=some count_within:=by kernel_rfl
abbrev g71r0:List aA:=[⟨S 4,N,x (.agg 3) (s 1)⟩]
abbrev count_add_r1:List (aA×List Nat):=[(⟨S 6,N,v (m (s 0))⟩,[]),(⟨S 7,N,v (l (.agg 3) (s 4))⟩,[]),(⟨S 8,N,v (.mget (.agg 3) [.int,.int,.int] (I j 0) false (s 6) (s 7))⟩,[0,1]),(⟨S 9,N,v (m (s 2))⟩,[]),(⟨S 10,N,v (b .add (s 8) (s 9))⟩,[0,1,2,3]),(⟨S 11,N,.mp (.ent (.agg 3) [.int,.int,.int] (I j 0) (s 6) (s 7))⟩,[0,1,3]),(⟨S 12,N,v (q (s 11) 1)⟩,[0,1,3,5]),(⟨N,N,.mp (.est (s 6) (s 12) (s 10))⟩,[0,1,2,3,4,5,6])]
abbrev g71r1t:List aA:=[]
abbrev g71r2:List aA:=[⟨S 13,N,v (m (s 0))⟩,⟨S 14,N,v (l (.agg 3) (s 4))⟩,⟨S 15,N,v (.mget (.agg 3) [.int,.int,.int] (I j 0) false (s 13) (s 14))⟩,⟨S 16,N,v (b .eql (s 15) (c (I j 0)))⟩]
abbrev g71r3:List aA:=[⟨S 17,N,v (m (s 0))⟩,⟨S 18,N,v (l (.agg 3) (s 4))⟩,⟨N,N,.mp (.del (.agg 3) [.int,.int,.int] (s 17) (s 18))⟩]
def count_add:LFn:=⟨(Q (O g71r0) (Q (D 8 count_add_r1 g71r1t) (Q (O g71r2) (C (s 16) (O g71r3) Z)))),19,[]⟩
theorem count_add_low:aG Tryz.prog 77=some count_add:=by kernel_rfl
abbrev corollaryref20_Right_r0:List aA:=[⟨S 1,N,x (.agg 2) (s 0)⟩,⟨S 2,N,v (m (c (.bool false)))⟩]
abbrev corollaryref20_Right_r1:List aA:=[⟨S 3,N,v (f 0 (s 1))⟩,⟨S 4,N,v (l F (s 3))⟩,⟨S 5,N,v (b .geq (s 4) (c (I j 0)))⟩,⟨S 6,N,v (m (s 5))⟩,⟨S 7,S (6,true),v (f 1 (s 1))⟩,⟨S 8,S (6,true),v (l F (s 7))⟩,⟨S 9,S (6,true),v (b .geq (s 8) (c (I j 0)))⟩,⟨S 10,N,v (p (s 6) (s 9) (c (.bool false)))⟩,⟨S 11,N,v (m (s 10))⟩,⟨S 12,S (11,true),v (f 0 (s 1))⟩,⟨S 13,S (11,true),v (l F (s 12))⟩,⟨S 14,S (11,true),v (b .leq (s 13) (c (I j 1048576)))⟩,⟨S 15,N,v (p (s 11) (s 14) (c (.bool false)))⟩,⟨S 16,N,v (m (s 15))⟩,⟨S 17,S (16,true),v (f 1 (s 1))⟩,⟨S 18,S (16,true),v (l F (s 17))⟩,⟨S 19,S (16,true),v (b .leq (s 18) (c (I j 1048576)))⟩,⟨S 20,N,v (p (s 16) (s 19) (c (.bool false)))⟩,⟨S 2,N,v (m (s 20))⟩]
def corollaryref20_Right:LFn:=⟨(Q (O corollaryref20_Right_r0) (Q (O corollaryref20_Right_r1) .ret)),21,[.slot 2]⟩
theorem corollaryref20_Right_low:aG Tryz.prog 78=some corollaryref20_Right:=by kernel_rfl
abbrev g72r0:List aA:=[⟨S 2,N,v (m (c (.sl (.agg 4) .nil [])))⟩]
abbrev g72r1:List aA:=[⟨S 3,N,v (m (c (.sl (.agg 4) .nil [])))⟩]
abbrev g72r2:List aA:=[⟨S 4,N,v (m (c (I j 0)))⟩]
abbrev g72r3:List aA:=[⟨S 9,N,v (m (s 4))⟩,⟨S 10,N,v (m (s 0))⟩,⟨S 11,N,v (w (s 10))⟩,⟨S 12,N,v (b .lss (s 9) (s 11))⟩]
abbrev g72r4:List aA:=[⟨S 5,N,v (m (c (.bool true)))⟩,⟨S 6,N,v (m (c (I j 0)))⟩]
abbrev g72r5:List aA:=[⟨S 7,N,v (m (c (I j 0)))⟩]
abbrev g72r6:List aA:=[⟨S 15,N,v (m (s 7))⟩,⟨S 16,N,v (m (s 0))⟩,⟨S 17,N,v (w (s 16))⟩,⟨S 18,N,v (b .lss (s 15) (s 17))⟩]
abbrev g72r7:List (aA×List Nat):=[(⟨S 21,N,v (m (s 0))⟩,[]),(⟨S 22,N,v (m (s 7))⟩,[]),(⟨S 23,N,v (i (.agg 4) (s 21) (s 22))⟩,[0,1]),(⟨S 24,N,v (f 0 (s 23))⟩,[0,1,2]),(⟨S 25,N,v (l (.agg 3) (s 24))⟩,[0,1,2,3]),(⟨S 26,N,v (m (s 0))⟩,[]),(⟨S 27,N,v (m (s 4))⟩,[]),(⟨S 28,N,v (i (.agg 4) (s 26) (s 27))⟩,[5,6]),(⟨S 29,N,v (f 0 (s 28))⟩,[5,6,7]),(⟨S 30,N,v (l (.agg 3) (s 29))⟩,[5,6,7,8]),(⟨S 31,N,v (e false (.plain (.agg 3) [.int,.int,.int]) (s 25) (s 30))⟩,[0,1,2,3,4,5,6,7,8,9])]
abbrev g72r7t:List aA:=[]
abbrev g72r8:List aA:=[⟨S 32,N,v (m (s 5))⟩,⟨S 33,N,v (m (s 32))⟩,⟨S 34,S (33,true),v (m (s 7))⟩,⟨S 35,S (33,true),v (m (s 4))⟩,⟨S 36,S (33,true),v (b .geq (s 34) (s 35))⟩,⟨S 37,N,v (p (s 33) (s 36) (c (.bool false)))⟩,⟨S 5,N,v (m (s 37))⟩]
abbrev g72r9:List aA:=[⟨S 38,N,v (m (s 6))⟩,⟨S 39,N,v (m (s 0))⟩,⟨S 40,N,v (m (s 7))⟩,⟨S 41,N,v (i (.agg 4) (s 39) (s 40))⟩,⟨S 42,N,v (f 3 (s 41))⟩,⟨S 43,N,v (l F (s 42))⟩,⟨S 44,N,v (b .add (s 38) (s 43))⟩,⟨S 6,N,v (m (s 44))⟩]
abbrev g72r10:List aA:=[⟨S 19,N,v (m (s 7))⟩,⟨S 20,N,v (b .add (s 19) (c (I j 1)))⟩,⟨S 7,N,v (m (s 20))⟩]
abbrev g72l0:bB:=(Q (Q (O g72r6) (C (s 18) Z (X 2))) (Q (K 3 (Q (D 11 g72r7 g72r7t) (C (s 31) (Q (O g72r8) (O g72r9)) Z))) (O g72r10)))
abbrev g72r11:List aA:=[⟨S 45,N,v (m (s 5))⟩,⟨S 46,N,v (.not (s 45))⟩,⟨S 47,N,v (m (s 46))⟩,⟨S 48,S (47,false),v (m (s 6))⟩,⟨S 49,S (47,false),v (b .eql (s 48) (c (I j 0)))⟩,⟨S 50,N,v (p (s 47) (c (.bool true)) (s 49))⟩]
abbrev g72r12:List aA:=[⟨S 8,N,v (m (c (I j 0)))⟩]
abbrev g72r13:List (aA×List Nat):=[(⟨S 51,N,v (m (s 8))⟩,[]),(⟨S 52,N,v (m (s 3))⟩,[]),(⟨S 53,N,v (w (s 52))⟩,[1]),(⟨S 54,N,v (b .lss (s 51) (s 53))⟩,[0,1,2]),(⟨S 55,N,v (m (s 54))⟩,[0,1,2,3]),(⟨S 56,S (55,true),v (m (s 3))⟩,[0,1,2,3,4]),(⟨S 57,S (55,true),v (m (s 8))⟩,[0,1,2,3,4]),(⟨S 58,S (55,true),v (i (.agg 4) (s 56) (s 57))⟩,[0,1,2,3,4,5,6]),(⟨S 59,S (55,true),v (f 0 (s 58))⟩,[0,1,2,3,4,5,6,7]),(⟨S 60,S (55,true),v (l (.agg 3) (s 59))⟩,[0,1,2,3,4,5,6,7,8]),(⟨S 61,S (55,true),v (m (s 0))⟩,[0,1,2,3,4]),(⟨S 62,S (55,true),v (m (s 4))⟩,[0,1,2,3,4]),(⟨S 63,S (55,true),v (i (.agg 4) (s 61) (s 62))⟩,[0,1,2,3,4,10,11]),(⟨S 64,S (55,true),v (f 0 (s 63))⟩,[0,1,2,3,4,10,11,12]),(⟨S 65,S (55,true),v (l (.agg 3) (s 64))⟩,[0,1,2,3,4,10,11,12,13]),(⟨S 66,S (55,true),k 142 [s 60,s 65]⟩,[0,1,2,3,4,5,6,7,8,9,10,11,12,13,14]),(⟨S 67,N,v (p (s 55) (s 66) (c (.bool false)))⟩,[0,1,2,3,4,5,6,7,8,9,10,11,12,13,14,15])]
abbrev g72r13t:List aA:=[]
abbrev g72r14:List aA:=[⟨S 68,N,v (m (s 8))⟩,⟨S 69,N,v (b .add (s 68) (c (I j 1)))⟩,⟨S 8,N,v (m (s 69))⟩]
abbrev g72l1:bB:=(Q (Q (D 17 g72r13 g72r13t) (C (s 67) Z (X 4))) (K 5 (O g72r14)))
abbrev corollaryref23_Sum_r15:List (aA×List Nat):=[(⟨S 70,N,y (.agg 4) []⟩,[]),(⟨S 71,N,v (m (s 3))⟩,[]),(⟨S 72,N,v (m (s 8))⟩,[]),(⟨S 73,N,v (.slc (.agg 4) (s 71) .none (.some (s 72)) .none)⟩,[1,2]),(⟨S 74,N,a (.agg 4) 32 (s 70) (s 73)⟩,[0,1,2,3]),(⟨S 75,N,v (m (s 0))⟩,[]),(⟨S 76,N,v (m (s 4))⟩,[]),(⟨S 77,N,v (i (.agg 4) (s 75) (s 76))⟩,[5,6]),(⟨S 78,N,v (f 0 (s 77))⟩,[5,6,7]),(⟨S 79,N,v (l (.agg 3) (s 78))⟩,[5,6,7,8]),(⟨S 80,N,v (m (s 6))⟩,[]),(⟨S 81,N,v (.build [(I j 0),(I j 0),(I j 0),(I j 0)] [(0,(.agg 3),(s 79)),(3,F,(s 80))])⟩,[5,6,7,8,9,10]),(⟨S 82,N,y (.agg 4) [s 81]⟩,[5,6,7,8,9,10,11]),(⟨S 83,N,a (.agg 4) 32 (s 74) (s 82)⟩,[0,1,2,3,4,5,6,7,8,9,10,11,12]),(⟨S 84,N,v (m (s 3))⟩,[]),(⟨S 85,N,v (m (s 8))⟩,[]),(⟨S 86,N,v (.slc (.agg 4) (s 84) (.some (s 85)) .none .none)⟩,[14,15]),(⟨S 87,N,a (.agg 4) 32 (s 83) (s 86)⟩,[0,1,2,3,4,5,6,7,8,9,10,11,12,13,14,15,16])]
abbrev corollaryref23_Sum_r15t:List aA:=[⟨S 3,N,v (m (s 87))⟩]
abbrev corollaryref23_Sum_r16:List aA:=[⟨S 13,N,v (m (s 4))⟩,⟨S 14,N,v (b .add (s 13) (c (I j 1)))⟩,⟨S 4,N,v (m (s 14))⟩]
abbrev g72l2:bB:=(Q (Q (O g72r3) (C (s 12) Z (X 0))) (Q (K 1 (Q (O g72r4) (Q (Q (O g72r5) (K 2 (R g72l0))) (Q (Q (O g72r11) (C (s 50) (X 1) Z)) (Q (O g72r12) (Q (K 4 (R g72l1)) (D 18 corollaryref23_Sum_r15 corollaryref23_Sum_r15t))))))) (O corollaryref23_Sum_r16)))
abbrev g72r17:List aA:=[⟨S 88,N,v (m (s 3))⟩,⟨S 2,N,v (m (s 88))⟩]
def corollaryref23_Sum:LFn:=⟨(Q (O g72r0) (Q (O g72r1) (Q (Q (O g72r2) (K 0 (R g72l2))) (Q (O g72r17) .ret)))),89,[.slot 2]⟩
theorem corollaryref23_Sum_low:aG Tryz.prog 79=some corollaryref23_Sum:=by kernel_rfl
abbrev g73r0:List aA:=[⟨S 3,N,x (.agg 3) (s 1)⟩,⟨S 4,N,v (m (c (I j 0)))⟩]
abbrev g73r1:List aA:=[⟨S 5,N,v (m (s 0))⟩,⟨S 6,N,v (e false .ptr (s 5) (c .nilPtr))⟩]
abbrev g73r2:List aA:=[⟨S 4,N,v (m (c (I j 0)))⟩]
abbrev g73r3:List (aA×List Nat):=[(⟨S 7,N,v (m (s 0))⟩,[]),(⟨S 8,N,v (n (s 7))⟩,[0]),(⟨S 9,N,v (f 3 (s 8))⟩,[0,1]),(⟨S 10,N,v (l F (s 9))⟩,[0,1,2]),(⟨S 11,N,v (l (.agg 3) (s 3))⟩,[]),(⟨S 12,N,v (.mget (.agg 3) [.int,.int,.int] (I j 0) false (s 10) (s 11))⟩,[0,1,2,3,4]),(⟨S 4,N,v (m (s 12))⟩,[0,1,2,3,4,5])]
abbrev g73r3t:List aA:=[]
def count_Counts_Get:LFn:=⟨(Q (O g73r0) (Q (Q (O g73r1) (C (s 6) (Q (O g73r2) .ret) Z)) (Q (D 7 g73r3 g73r3t) .ret))),13,[.slot 4]⟩
theorem count_Counts_Get_low:aG Tryz.prog 80=some count_Counts_Get:=by kernel_rfl
abbrev g74r0:List aA:=[⟨S 3,N,x (.agg 3) (s 1)⟩,⟨S 4,N,v (m (c (I j 0)))⟩]
abbrev g74r1:List aA:=[⟨S 5,N,v (m (c (I j 0)))⟩]
abbrev g74r2:List aA:=[⟨S 6,N,v (m (s 5))⟩,⟨S 7,N,v (m (s 0))⟩,⟨S 8,N,v (w (s 7))⟩,⟨S 9,N,v (b .lss (s 6) (s 8))⟩]
abbrev g74r3:List (aA×List Nat):=[(⟨S 12,N,v (m (s 0))⟩,[]),(⟨S 13,N,v (m (s 5))⟩,[]),(⟨S 14,N,v (i (.agg 4) (s 12) (s 13))⟩,[0,1]),(⟨S 15,N,v (f 0 (s 14))⟩,[0,1,2]),(⟨S 16,N,v (l (.agg 3) (s 15))⟩,[0,1,2,3]),(⟨S 17,N,v (l (.agg 3) (s 3))⟩,[]),(⟨S 18,N,v (e false (.plain (.agg 3) [.int,.int,.int]) (s 16) (s 17))⟩,[0,1,2,3,4,5])]
abbrev g74r3t:List aA:=[]
abbrev g74r4:List aA:=[⟨S 19,N,v (m (s 0))⟩,⟨S 20,N,v (m (s 5))⟩,⟨S 21,N,v (i (.agg 4) (s 19) (s 20))⟩,⟨S 22,N,v (f 3 (s 21))⟩,⟨S 23,N,v (l F (s 22))⟩,⟨S 4,N,v (m (s 23))⟩]
abbrev g74r5:List aA:=[⟨S 10,N,v (m (s 5))⟩,⟨S 11,N,v (b .add (s 10) (c (I j 1)))⟩,⟨S 5,N,v (m (s 11))⟩]
abbrev g74l0:bB:=(Q (Q (O g74r2) (C (s 9) Z (X 0))) (Q (K 1 (Q (D 7 g74r3 g74r3t) (C (s 18) (Q (O g74r4) .ret) Z))) (O g74r5)))
abbrev g74r6:List aA:=[⟨S 4,N,v (m (c (I j 0)))⟩]
def corollaryref23_Get:LFn:=⟨(Q (O g74r0) (Q (Q (O g74r1) (K 0 (R g74l0))) (Q (O g74r6) .ret))),24,[.slot 4]⟩
theorem corollaryref23_Get_low:aG Tryz.prog 81=some corollaryref23_Get:=by kernel_rfl
abbrev g75r0:List aA:=[⟨S 1,N,x F (s 0)⟩,⟨S 2,N,v (m (c .nilFn))⟩]
abbrev g75r1:List aA:=[⟨S 3,N,v (.mkfn (.func 143) [] [s 1])⟩,⟨S 2,N,v (m (s 3))⟩]
def count_Counts_Active:LFn:=⟨(Q (O g75r0) (Q (O g75r1) .ret)),4,[.slot 2]⟩
theorem count_Counts_Active_low:aG Tryz.prog 82=some count_Counts_Active:=by kernel_rfl
abbrev g76r0:List aA:=[⟨S 2,N,v (m (c (.bool false)))⟩]
abbrev g76r1:List aA:=[⟨S 3,N,v (m (s 0))⟩,⟨S 4,N,v (e false .ptr (s 3) (c .nilPtr))⟩,⟨S 5,N,v (m (s 4))⟩,⟨S 6,S (5,false),v (m (s 0))⟩,⟨S 7,S (5,false),v (n (s 6))⟩,⟨S 8,S (5,false),v (f 3 (s 7))⟩,⟨S 9,S (5,false),v (l F (s 8))⟩,⟨S 10,S (5,false),v (.mlen (s 9))⟩,⟨S 11,S (5,false),v (b .eql (s 10) (c (I j 0)))⟩,⟨S 12,N,v (p (s 5) (c (.bool true)) (s 11))⟩,⟨S 2,N,v (m (s 12))⟩]
def count_Counts_Still:LFn:=⟨(Q (O g76r0) (Q (O g76r1) .ret)),13,[.slot 2]⟩
theorem count_Counts_Still_low:aG Tryz.prog 83=some count_Counts_Still:=by kernel_rfl
abbrev g78r0:List aA:=[⟨S 4,N,v (m (c (.bool false)))⟩]
abbrev g78r1:List aA:=[⟨S 9,N,v (m (s 0))⟩,⟨S 10,N,v (.mlen (s 9))⟩,⟨S 11,N,v (m (s 1))⟩,⟨S 12,N,v (.mlen (s 11))⟩,⟨S 13,N,v (b .neq (s 10) (s 12))⟩]
abbrev g78r2:List aA:=[⟨S 4,N,v (m (c (.bool false)))⟩]
abbrev g78r3:List aA:=[⟨S 14,N,v (m (s 0))⟩,⟨S 15,N,.mp (.rng (s 14))⟩]
abbrev g78r4:List aA:=[⟨S 16,N,.mp (.nxt (s 15))⟩,⟨S 17,N,v (q (s 16) 0)⟩]
abbrev g78r5:List aA:=[⟨S 18,N,.mp (.key (s 15))⟩,⟨S 19,N,v (q (s 18) 0)⟩,⟨S 20,N,v (q (s 18) 1)⟩,⟨S 5,N,x (.agg 3) (c (.agg [(I j 0),(I j 0),(I j 0)]))⟩,⟨N,N,t (.agg 3) (s 5) (s 19)⟩,⟨S 6,N,v (m (s 20))⟩]
abbrev g78r6:List aA:=[⟨S 22,N,v (m (s 1))⟩,⟨S 23,N,v (l (.agg 3) (s 5))⟩,⟨S 24,N,v (.mget (.agg 3) [.int,.int,.int] (I j 0) true (s 22) (s 23))⟩,⟨S 21,N,v (m (s 24))⟩,⟨S 25,N,v (q (s 21) 0)⟩,⟨S 26,N,v (q (s 21) 1)⟩,⟨S 7,N,v (m (s 25))⟩,⟨S 8,N,v (m (s 26))⟩]
abbrev g78r7:List aA:=[⟨S 27,N,v (m (s 8))⟩,⟨S 28,N,v (.not (s 27))⟩,⟨S 29,N,v (m (s 28))⟩,⟨S 30,S (29,false),v (m (s 6))⟩,⟨S 31,S (29,false),v (m (s 7))⟩,⟨S 32,S (29,false),v (b .neq (s 30) (s 31))⟩,⟨S 33,N,v (p (s 29) (c (.bool true)) (s 32))⟩]
abbrev g78r8:List aA:=[⟨S 4,N,v (m (c (.bool false)))⟩]
abbrev g78l0:bB:=(Q (O g78r4) (Q (C (s 17) Z (X 0)) (K 1 (Q (O g78r5) (Q (O g78r6) (Q (O g78r7) (C (s 33) (Q (O g78r8) .ret) Z)))))))
abbrev g78r9:List aA:=[⟨S 4,N,v (m (c (.bool true)))⟩]
def maps_Equal_map_count_Stamp_int_map_count_Stamp_int_count_Stamp_int:LFn:=⟨(Q (O g78r0) (Q (Q (O g78r1) (C (s 13) (Q (O g78r2) .ret) Z)) (Q (Q (O g78r3) (K 0 (R g78l0))) (Q (O g78r9) .ret)))),34,[.slot 4]⟩
theorem maps_Equal_map_count_Stamp_int_map_count_Stamp_int_count_Stamp_int_low:aG Tryz.prog 85=some maps_Equal_map_count_Stamp_int_map_count_Stamp_int_count_Stamp_int:=by kernel_rfl
abbrev g79r0:List aA:=[⟨S 2,N,v (m (c (.sl (.agg 3) .nil [])))⟩]
abbrev g79r1:List aA:=[⟨S 3,N,v (m (c (.sl (.agg 3) .nil [])))⟩]
abbrev g79r2:List aA:=[⟨S 6,N,v (m (s 0))⟩,⟨S 7,N,v (n (s 6))⟩,⟨S 8,N,v (f 3 (s 7))⟩,⟨S 9,N,v (l F (s 8))⟩,⟨S 10,N,.mp (.rng (s 9))⟩]
abbrev g79r3:List aA:=[⟨S 11,N,.mp (.nxt (s 10))⟩,⟨S 12,N,v (q (s 11) 0)⟩]
abbrev g79r4:List aA:=[⟨S 13,N,.mp (.key (s 10))⟩,⟨S 14,N,v (q (s 13) 0)⟩,⟨S 15,N,v (q (s 13) 1)⟩,⟨S 4,N,x (.agg 3) (c (.agg [(I j 0),(I j 0),(I j 0)]))⟩,⟨N,N,t (.agg 3) (s 4) (s 14)⟩,⟨S 5,N,v (m (s 15))⟩]
abbrev g79r5:List aA:=[⟨S 16,N,v (m (s 5))⟩,⟨S 17,N,v (b .gtr (s 16) (c (I j 0)))⟩]
abbrev g79r6:List aA:=[⟨S 18,N,v (m (s 3))⟩,⟨S 19,N,v (l (.agg 3) (s 4))⟩,⟨S 20,N,y (.agg 3) [s 19]⟩,⟨S 21,N,a (.agg 3) 24 (s 18) (s 20)⟩,⟨S 3,N,v (m (s 21))⟩]
abbrev g79l0:bB:=(Q (O g79r3) (Q (C (s 12) Z (X 0)) (K 1 (Q (O g79r4) (Q (O g79r5) (C (s 17) (O g79r6) Z))))))
abbrev g79r7:List aA:=[⟨S 22,N,v (m (s 3))⟩,⟨S 2,N,v (m (s 22))⟩]
def count_Counts_active:LFn:=⟨(Q (O g79r0) (Q (O g79r1) (Q (Q (O g79r2) (K 0 (R g79l0))) (Q (O g79r7) .ret)))),23,[.slot 2]⟩
theorem count_Counts_active_low:aG Tryz.prog 86=some count_Counts_active:=by kernel_rfl
abbrev g80r0:List aA:=[⟨S 6,N,v (m (c (.sl (.agg 2) .nil [])))⟩]
abbrev g80r1:List aA:=[⟨S 7,N,v (m (c (.sl (.agg 2) .nil [])))⟩]
abbrev g80r2:List aA:=[⟨S 14,N,v (m (s 1))⟩,⟨S 15,N,v (w (s 14))⟩,⟨S 16,N,v (m (c (I j 0)))⟩]
abbrev g80r3:List aA:=[⟨S 17,N,v (b .lss (s 16) (s 15))⟩]
abbrev g80r4:List aA:=[⟨S 18,N,v (i (.agg 3) (s 14) (s 16))⟩,⟨S 19,N,v (l (.agg 3) (s 18))⟩,⟨S 9,N,x (.agg 3) (c (.agg [(I j 0),(I j 0),(I j 0)]))⟩,⟨N,N,t (.agg 3) (s 9) (s 19)⟩]
abbrev g80r5:List (aA×List Nat):=[(⟨S 20,N,v (m (s 0))⟩,[]),(⟨S 21,N,v (n (s 20))⟩,[0]),(⟨S 22,N,v (f 2 (s 21))⟩,[0,1]),(⟨S 23,N,v (l F (s 22))⟩,[0,1,2]),(⟨S 24,N,v (f 0 (s 9))⟩,[]),(⟨S 25,N,v (l F (s 24))⟩,[4]),(⟨S 26,N,v (i F (s 23) (s 25))⟩,[0,1,2,3,4,5]),(⟨S 27,N,v (l F (s 26))⟩,[0,1,2,3,4,5,6]),(⟨S 28,N,v (m (s 2))⟩,[]),(⟨S 29,N,v (i F (s 27) (s 28))⟩,[0,1,2,3,4,5,6,7,8]),(⟨S 30,N,v (l F (s 29))⟩,[0,1,2,3,4,5,6,7,8,9]),(⟨S 31,N,v (w (s 30))⟩,[0,1,2,3,4,5,6,7,8,9,10]),(⟨S 32,N,v (m (c (I j 0)))⟩,[])]
abbrev g80r5t:List aA:=[]
abbrev g80r6:List aA:=[⟨S 33,N,v (b .lss (s 32) (s 31))⟩]
abbrev g80r7:List aA:=[⟨S 34,N,v (i (.agg 2) (s 30) (s 32))⟩,⟨S 35,N,v (l (.agg 2) (s 34))⟩,⟨S 11,N,x (.agg 2) (c (.agg [(.bool false),(I j 0)]))⟩,⟨N,N,t (.agg 2) (s 11) (s 35)⟩]
abbrev g80r8:List aA:=[⟨S 37,N,v (l (.agg 2) (s 11))⟩,⟨S 38,N,v (f 1 (s 9))⟩,⟨S 39,N,v (l (.agg 2) (s 38))⟩,⟨S 40,N,k 147 [s 37,s 39]⟩,⟨S 36,N,v (m (s 40))⟩,⟨S 41,N,v (q (s 36) 0)⟩,⟨S 42,N,v (q (s 36) 1)⟩,⟨S 12,N,x (.agg 2) (c (.agg [(I j 0),(I j 0)]))⟩,⟨N,N,t (.agg 2) (s 12) (s 41)⟩,⟨S 13,N,v (m (s 42))⟩]
abbrev g80r9:List aA:=[⟨S 43,N,v (m (s 13))⟩,⟨S 44,N,v (e false (.iface true) (s 43) (c .nilIface))⟩]
abbrev g80r10:List aA:=[⟨S 45,N,v (m (s 7))⟩,⟨S 46,N,v (l (.agg 2) (s 12))⟩,⟨S 47,N,y (.agg 2) [s 46]⟩,⟨S 48,N,a (.agg 2) 16 (s 45) (s 47)⟩,⟨S 7,N,v (m (s 48))⟩]
abbrev g80r11:List aA:=[⟨S 49,N,v (b .add (s 32) (c (I j 1)))⟩,⟨S 32,N,v (m (s 49))⟩]
abbrev g80l0:bB:=(Q (O g80r6) (Q (C (s 33) Z (X 2)) (Q (K 3 (Q (O g80r7) (Q (O g80r8) (Q (O g80r9) (C (s 44) (O g80r10) Z))))) (O g80r11))))
abbrev g80r12:List aA:=[⟨S 50,N,v (b .add (s 16) (c (I j 1)))⟩,⟨S 16,N,v (m (s 50))⟩]
abbrev g80l1:bB:=(Q (O g80r3) (Q (C (s 17) Z (X 0)) (Q (K 1 (Q (O g80r4) (Q (D 13 g80r5 g80r5t) (K 2 (R g80l0))))) (O g80r12))))
abbrev g80r13:List aA:=[⟨S 51,N,v (m (s 7))⟩,⟨S 52,N,k 148 [s 51]⟩,⟨S 6,N,v (m (s 52))⟩]
def count_Counts_front:LFn:=⟨(Q (O g80r0) (Q (O g80r1) (Q (Q (O g80r2) (K 0 (R g80l1))) (Q (O g80r13) .ret)))),53,[.slot 6]⟩
theorem count_Counts_front_low:aG Tryz.prog 87=some count_Counts_front:=by kernel_rfl
abbrev g81r0:List aA:=[⟨S 4,N,v (m (c (.bool false)))⟩]
abbrev g81r1:List aA:=[⟨S 6,N,v (m (s 0))⟩,⟨S 7,N,v (w (s 6))⟩,⟨S 8,N,v (m (s 1))⟩,⟨S 9,N,v (w (s 8))⟩,⟨S 10,N,v (b .neq (s 7) (s 9))⟩]
abbrev g81r2:List aA:=[⟨S 4,N,v (m (c (.bool false)))⟩]
abbrev g81r3:List aA:=[⟨S 5,N,v (m (c (I j 0)))⟩]
abbrev g81r4:List aA:=[⟨S 11,N,v (m (s 5))⟩,⟨S 12,N,v (m (s 0))⟩,⟨S 13,N,v (w (s 12))⟩,⟨S 14,N,v (b .lss (s 11) (s 13))⟩]
abbrev g81r5:List (aA×List Nat):=[(⟨S 17,N,v (m (s 0))⟩,[]),(⟨S 18,N,v (m (s 5))⟩,[]),(⟨S 19,N,v (i (.agg 2) (s 17) (s 18))⟩,[0,1]),(⟨S 20,N,v (l (.agg 2) (s 19))⟩,[0,1,2]),(⟨S 21,N,v (m (s 1))⟩,[]),(⟨S 22,N,v (m (s 5))⟩,[]),(⟨S 23,N,v (i (.agg 2) (s 21) (s 22))⟩,[4,5]),(⟨S 24,N,v (l (.agg 2) (s 23))⟩,[4,5,6]),(⟨S 25,N,v (e true (.plain (.agg 2) [.int,.int]) (s 20) (s 24))⟩,[0,1,2,3,4,5,6,7])]
abbrev g81r5t:List aA:=[]
abbrev g81r6:List aA:=[⟨S 4,N,v (m (c (.bool false)))⟩]
abbrev g81r7:List aA:=[⟨S 15,N,v (m (s 5))⟩,⟨S 16,N,v (b .add (s 15) (c (I j 1)))⟩,⟨S 5,N,v (m (s 16))⟩]
abbrev g81l0:bB:=(Q (Q (O g81r4) (C (s 14) Z (X 0))) (Q (K 1 (Q (D 9 g81r5 g81r5t) (C (s 25) (Q (O g81r6) .ret) Z))) (O g81r7)))
abbrev g81r8:List aA:=[⟨S 4,N,v (m (c (.bool true)))⟩]
def corollaryref21_Same:LFn:=⟨(Q (O g81r0) (Q (Q (O g81r1) (C (s 10) (Q (O g81r2) .ret) Z)) (Q (Q (O g81r3) (K 0 (R g81l0))) (Q (O g81r8) .ret)))),26,[.slot 4]⟩
theorem corollaryref21_Same_low:aG Tryz.prog 88=some corollaryref21_Same:=by kernel_rfl
abbrev corollarylaw21_Document_r0:List aA:=[⟨S 2,N,v (m (c (.sl (.agg 2) .nil [])))⟩]
abbrev corollarylaw21_Document_r1:List aA:=[⟨S 3,N,v (m (c (.sl (.agg 2) .nil [])))⟩]
abbrev corollarylaw21_Document_r2:List aA:=[⟨S 6,N,v (m (s 0))⟩,⟨S 7,N,v (w (s 6))⟩,⟨S 8,N,v (m (c (I j 0)))⟩]
abbrev corollarylaw21_Document_r3:List aA:=[⟨S 9,N,v (b .lss (s 8) (s 7))⟩]
abbrev corollarylaw21_Document_r4:List aA:=[⟨S 10,N,v (i (.agg 2) (s 6) (s 8))⟩,⟨S 11,N,v (l (.agg 2) (s 10))⟩,⟨S 5,N,x (.agg 2) (c (.agg [(I j 0),(I j 0)]))⟩,⟨N,N,t (.agg 2) (s 5) (s 11)⟩]
abbrev corollarylaw21_Document_r5:List aA:=[⟨S 12,N,v (m (s 3))⟩,⟨S 13,N,v (l (.agg 2) (s 5))⟩,⟨S 14,N,k 103 [s 13]⟩,⟨S 15,N,y (.agg 2) [s 14]⟩,⟨S 16,N,a (.agg 2) 16 (s 12) (s 15)⟩,⟨S 3,N,v (m (s 16))⟩]
abbrev corollarylaw21_Document_r6:List aA:=[⟨S 17,N,v (b .add (s 8) (c (I j 1)))⟩,⟨S 8,N,v (m (s 17))⟩]
abbrev g82l0:bB:=(Q (O corollarylaw21_Document_r3) (Q (C (s 9) Z (X 0)) (Q (K 1 (Q (O corollarylaw21_Document_r4) (O corollarylaw21_Document_r5))) (O corollarylaw21_Document_r6))))
abbrev corollarylaw21_Document_r7:List aA:=[⟨S 18,N,v (m (s 3))⟩,⟨S 2,N,v (m (s 18))⟩]
def corollarylaw21_Document:LFn:=⟨(Q (O corollarylaw21_Document_r0) (Q (O corollarylaw21_Document_r1) (Q (Q (O corollarylaw21_Document_r2) (K 0 (R g82l0))) (Q (O corollarylaw21_Document_r7) .ret)))),19,[.slot 2]⟩
theorem corollarylaw21_Document_low:aG Tryz.prog 89=some corollarylaw21_Document:=by kernel_rfl
abbrev g83r0:List aA:=[⟨S 4,N,x (.agg 2) (s 0)⟩,⟨S 6,N,x (.agg 2) (s 2)⟩,⟨S 8,N,v (m (c (.sl (.agg 2) .nil [])))⟩]
abbrev g83r1:List aA:=[⟨S 14,N,v (l (.agg 2) (s 4))⟩,⟨S 15,N,v (m (s 1))⟩,⟨S 16,N,v (m (s 3))⟩,⟨S 17,N,k 149 [s 14,s 15,s 16]⟩,⟨S 9,N,v (m (s 17))⟩]
abbrev g83r2:List aA:=[⟨S 10,N,v (m (c (.sl (.agg 2) .nil [])))⟩]
abbrev g83r3:List aA:=[⟨S 11,N,v (m (c (I j 0)))⟩]
abbrev g83r4:List aA:=[⟨S 18,N,v (m (s 11))⟩,⟨S 19,N,v (m (s 9))⟩,⟨S 20,N,v (w (s 19))⟩,⟨S 21,N,v (b .lss (s 18) (s 20))⟩]
abbrev g83r5:List (aA×List Nat):=[(⟨S 25,N,v (m (s 9))⟩,[]),(⟨S 26,N,v (m (s 11))⟩,[]),(⟨S 27,N,v (i (.agg 2) (s 25) (s 26))⟩,[0,1]),(⟨S 28,N,v (l (.agg 2) (s 27))⟩,[0,1,2]),(⟨S 29,N,v (l (.agg 2) (s 6))⟩,[]),(⟨S 30,N,.callw 150 [s 28,s 29] []⟩,[0,1,2,3,4]),(⟨S 24,N,v (m (s 30))⟩,[0,1,2,3,4,5]),(⟨S 31,N,v (q (s 24) 0)⟩,[0,1,2,3,4,5,6]),(⟨S 32,N,v (q (s 24) 1)⟩,[0,1,2,3,4,5,6]),(⟨S 12,N,x (.agg 2) (c (.agg [(I j 0),(I j 0)]))⟩,[]),(⟨N,N,t (.agg 2) (s 12) (s 31)⟩,[0,1,2,3,4,5,6,7,9]),(⟨S 13,N,v (m (s 32))⟩,[0,1,2,3,4,5,6,7,8,9,10])]
abbrev g83r5t:List aA:=[]
abbrev g83r6:List aA:=[⟨S 33,N,v (m (s 13))⟩,⟨S 34,N,v (b .eql (s 33) (c (I j 0)))⟩]
abbrev g83r7:List aA:=[⟨S 35,N,v (m (s 10))⟩,⟨S 36,N,v (l (.agg 2) (s 12))⟩,⟨S 37,N,y (.agg 2) [s 36]⟩,⟨S 38,N,a (.agg 2) 16 (s 35) (s 37)⟩,⟨S 10,N,v (m (s 38))⟩]
abbrev g83r8:List aA:=[⟨S 22,N,v (m (s 11))⟩,⟨S 23,N,v (b .add (s 22) (c (I j 1)))⟩,⟨S 11,N,v (m (s 23))⟩]
abbrev g83l0:bB:=(Q (Q (O g83r4) (C (s 21) Z (X 0))) (Q (K 1 (Q (D 12 g83r5 g83r5t) (Q (O g83r6) (C (s 34) (O g83r7) Z)))) (O g83r8)))
abbrev g83r9:List aA:=[⟨S 39,N,v (m (s 10))⟩,⟨S 40,N,k 91 [s 39]⟩,⟨S 8,N,v (m (s 40))⟩]
def corollaryref22_Could:LFn:=⟨(Q (O g83r0) (Q (O g83r1) (Q (O g83r2) (Q (Q (O g83r3) (K 0 (R g83l0))) (Q (O g83r9) .ret))))),41,[.slot 8]⟩
theorem corollaryref22_Could_low:aG Tryz.prog 90=some corollaryref22_Could:=by kernel_rfl
abbrev g84r0:List aA:=[⟨S 2,N,v (m (c (.sl (.agg 2) .nil [])))⟩]
abbrev g84r1:List aA:=[⟨S 3,N,v (m (c (.sl (.agg 2) .nil [])))⟩]
abbrev g84r2:List aA:=[⟨S 4,N,v (m (c (I j 0)))⟩]
abbrev g84r3:List aA:=[⟨S 8,N,v (m (s 4))⟩,⟨S 9,N,v (m (s 0))⟩,⟨S 10,N,v (w (s 9))⟩,⟨S 11,N,v (b .lss (s 8) (s 10))⟩]
abbrev g84r4:List aA:=[⟨S 14,N,v (m (s 0))⟩,⟨S 15,N,v (m (s 4))⟩,⟨S 16,N,v (i (.agg 2) (s 14) (s 15))⟩,⟨S 17,N,v (l (.agg 2) (s 16))⟩,⟨S 18,N,k 78 [s 17]⟩,⟨S 5,N,v (m (s 18))⟩]
abbrev g84r5:List aA:=[⟨S 6,N,v (m (c (I j 0)))⟩]
abbrev g84r6:List aA:=[⟨S 19,N,v (m (s 6))⟩,⟨S 20,N,v (m (s 0))⟩,⟨S 21,N,v (w (s 20))⟩,⟨S 22,N,v (b .lss (s 19) (s 21))⟩]
abbrev g84r7:List (aA×List Nat):=[(⟨S 25,N,v (m (s 0))⟩,[]),(⟨S 26,N,v (m (s 6))⟩,[]),(⟨S 27,N,v (i (.agg 2) (s 25) (s 26))⟩,[0,1]),(⟨S 28,N,v (l (.agg 2) (s 27))⟩,[0,1,2]),(⟨S 29,N,k 78 [s 28]⟩,[0,1,2,3]),(⟨S 30,N,v (m (s 29))⟩,[0,1,2,3,4]),(⟨S 31,S (30,true),v (m (s 0))⟩,[0,1,2,3,4,5]),(⟨S 32,S (30,true),v (m (s 6))⟩,[0,1,2,3,4,5]),(⟨S 33,S (30,true),v (i (.agg 2) (s 31) (s 32))⟩,[0,1,2,3,4,5,6,7]),(⟨S 34,S (30,true),v (l (.agg 2) (s 33))⟩,[0,1,2,3,4,5,6,7,8]),(⟨S 35,S (30,true),v (m (s 0))⟩,[0,1,2,3,4,5]),(⟨S 36,S (30,true),v (m (s 4))⟩,[0,1,2,3,4,5]),(⟨S 37,S (30,true),v (i (.agg 2) (s 35) (s 36))⟩,[0,1,2,3,4,5,10,11]),(⟨S 38,S (30,true),v (l (.agg 2) (s 37))⟩,[0,1,2,3,4,5,10,11,12]),(⟨S 39,S (30,true),k 151 [s 34,s 38]⟩,[0,1,2,3,4,5,6,7,8,9,10,11,12,13]),(⟨S 40,N,v (p (s 30) (s 39) (c (.bool false)))⟩,[0,1,2,3,4,5,6,7,8,9,10,11,12,13,14]),(⟨S 41,N,v (m (s 40))⟩,[0,1,2,3,4,5,6,7,8,9,10,11,12,13,14,15]),(⟨S 42,S (41,true),v (m (s 0))⟩,[0,1,2,3,4,5,6,7,8,9,10,11,12,13,14,15,16]),(⟨S 43,S (41,true),v (m (s 6))⟩,[0,1,2,3,4,5,6,7,8,9,10,11,12,13,14,15,16]),(⟨S 44,S (41,true),v (i (.agg 2) (s 42) (s 43))⟩,[0,1,2,3,4,5,6,7,8,9,10,11,12,13,14,15,16,17,18]),(⟨S 45,S (41,true),v (l (.agg 2) (s 44))⟩,[0,1,2,3,4,5,6,7,8,9,10,11,12,13,14,15,16,17,18,19]),(⟨S 46,S (41,true),v (m (s 0))⟩,[0,1,2,3,4,5,6,7,8,9,10,11,12,13,14,15,16]),(⟨S 47,S (41,true),v (m (s 4))⟩,[0,1,2,3,4,5,6,7,8,9,10,11,12,13,14,15,16]),(⟨S 48,S (41,true),v (i (.agg 2) (s 46) (s 47))⟩,[0,1,2,3,4,5,6,7,8,9,10,11,12,13,14,15,16,21,22]),(⟨S 49,S (41,true),v (l (.agg 2) (s 48))⟩,[0,1,2,3,4,5,6,7,8,9,10,11,12,13,14,15,16,21,22,23]),(⟨S 50,S (41,true),v (e true (.plain (.agg 2) [.int,.int]) (s 45) (s 49))⟩,[0,1,2,3,4,5,6,7,8,9,10,11,12,13,14,15,16,17,18,19,20,21,22,23,24]),(⟨S 51,S (41,true),v (m (s 50))⟩,[0,1,2,3,4,5,6,7,8,9,10,11,12,13,14,15,16,17,18,19,20,21,22,23,24,25]),(⟨S 52,S (51,false),v (m (s 6))⟩,[0,1,2,3,4,5,6,7,8,9,10,11,12,13,14,15,16,17,18,19,20,21,22,23,24,25,26]),(⟨S 53,S (51,false),v (m (s 4))⟩,[0,1,2,3,4,5,6,7,8,9,10,11,12,13,14,15,16,17,18,19,20,21,22,23,24,25,26]),(⟨S 54,S (51,false),v (b .lss (s 52) (s 53))⟩,[0,1,2,3,4,5,6,7,8,9,10,11,12,13,14,15,16,17,18,19,20,21,22,23,24,25,26,27,28]),(⟨S 55,S (41,true),v (p (s 51) (c (.bool true)) (s 54))⟩,[0,1,2,3,4,5,6,7,8,9,10,11,12,13,14,15,16,17,18,19,20,21,22,23,24,25,26,27,28,29]),(⟨S 56,N,v (p (s 41) (s 55) (c (.bool false)))⟩,[0,1,2,3,4,5,6,7,8,9,10,11,12,13,14,15,16,17,18,19,20,21,22,23,24,25,26,27,28,29,30])]
abbrev g84r7t:List aA:=[]
abbrev g84r8:List aA:=[⟨S 5,N,v (m (c (.bool false)))⟩]
abbrev g84r9:List aA:=[⟨S 23,N,v (m (s 6))⟩,⟨S 24,N,v (b .add (s 23) (c (I j 1)))⟩,⟨S 6,N,v (m (s 24))⟩]
abbrev g84l0:bB:=(Q (Q (O g84r6) (C (s 22) Z (X 2))) (Q (K 3 (Q (D 32 g84r7 g84r7t) (C (s 56) (O g84r8) Z))) (O g84r9)))
abbrev g84r10:List aA:=[⟨S 57,N,v (m (s 5))⟩,⟨S 58,N,v (.not (s 57))⟩]
abbrev g84r11:List aA:=[⟨S 7,N,v (m (c (I j 0)))⟩]
abbrev g84r12:List (aA×List Nat):=[(⟨S 59,N,v (m (s 7))⟩,[]),(⟨S 60,N,v (m (s 3))⟩,[]),(⟨S 61,N,v (w (s 60))⟩,[1]),(⟨S 62,N,v (b .lss (s 59) (s 61))⟩,[0,1,2]),(⟨S 63,N,v (m (s 62))⟩,[0,1,2,3]),(⟨S 64,S (63,true),v (m (s 3))⟩,[0,1,2,3,4]),(⟨S 65,S (63,true),v (m (s 7))⟩,[0,1,2,3,4]),(⟨S 66,S (63,true),v (i (.agg 2) (s 64) (s 65))⟩,[0,1,2,3,4,5,6]),(⟨S 67,S (63,true),v (l (.agg 2) (s 66))⟩,[0,1,2,3,4,5,6,7]),(⟨S 68,S (63,true),v (m (s 0))⟩,[0,1,2,3,4]),(⟨S 69,S (63,true),v (m (s 4))⟩,[0,1,2,3,4]),(⟨S 70,S (63,true),v (i (.agg 2) (s 68) (s 69))⟩,[0,1,2,3,4,9,10]),(⟨S 71,S (63,true),v (l (.agg 2) (s 70))⟩,[0,1,2,3,4,9,10,11]),(⟨S 72,S (63,true),k 152 [s 67,s 71]⟩,[0,1,2,3,4,5,6,7,8,9,10,11,12]),(⟨S 73,N,v (p (s 63) (s 72) (c (.bool false)))⟩,[0,1,2,3,4,5,6,7,8,9,10,11,12,13])]
abbrev g84r12t:List aA:=[]
abbrev g84r13:List aA:=[⟨S 74,N,v (m (s 7))⟩,⟨S 75,N,v (b .add (s 74) (c (I j 1)))⟩,⟨S 7,N,v (m (s 75))⟩]
abbrev g84l1:bB:=(Q (Q (D 15 g84r12 g84r12t) (C (s 73) Z (X 4))) (K 5 (O g84r13)))
abbrev corollaryref21_Of_r14:List (aA×List Nat):=[(⟨S 76,N,y (.agg 2) []⟩,[]),(⟨S 77,N,v (m (s 3))⟩,[]),(⟨S 78,N,v (m (s 7))⟩,[]),(⟨S 79,N,v (.slc (.agg 2) (s 77) .none (.some (s 78)) .none)⟩,[1,2]),(⟨S 80,N,a (.agg 2) 16 (s 76) (s 79)⟩,[0,1,2,3]),(⟨S 81,N,v (m (s 0))⟩,[]),(⟨S 82,N,v (m (s 4))⟩,[]),(⟨S 83,N,v (i (.agg 2) (s 81) (s 82))⟩,[5,6]),(⟨S 84,N,v (l (.agg 2) (s 83))⟩,[5,6,7]),(⟨S 85,N,y (.agg 2) [s 84]⟩,[5,6,7,8]),(⟨S 86,N,a (.agg 2) 16 (s 80) (s 85)⟩,[0,1,2,3,4,5,6,7,8,9]),(⟨S 87,N,v (m (s 3))⟩,[]),(⟨S 88,N,v (m (s 7))⟩,[]),(⟨S 89,N,v (.slc (.agg 2) (s 87) (.some (s 88)) .none .none)⟩,[11,12]),(⟨S 90,N,a (.agg 2) 16 (s 86) (s 89)⟩,[0,1,2,3,4,5,6,7,8,9,10,11,12,13])]
abbrev corollaryref21_Of_r14t:List aA:=[⟨S 3,N,v (m (s 90))⟩]
abbrev g84r15:List aA:=[⟨S 12,N,v (m (s 4))⟩,⟨S 13,N,v (b .add (s 12) (c (I j 1)))⟩,⟨S 4,N,v (m (s 13))⟩]
abbrev g84l2:bB:=(Q (Q (O g84r3) (C (s 11) Z (X 0))) (Q (K 1 (Q (O g84r4) (Q (Q (O g84r5) (K 2 (R g84l0))) (Q (Q (O g84r10) (C (s 58) (X 1) Z)) (Q (O g84r11) (Q (K 4 (R g84l1)) (D 15 corollaryref21_Of_r14 corollaryref21_Of_r14t))))))) (O g84r15)))
abbrev g84r16:List aA:=[⟨S 91,N,v (m (s 3))⟩,⟨S 2,N,v (m (s 91))⟩]
def corollaryref21_Of:LFn:=⟨(Q (O g84r0) (Q (O g84r1) (Q (Q (O g84r2) (K 0 (R g84l2))) (Q (O g84r16) .ret)))),92,[.slot 2]⟩
theorem corollaryref21_Of_low:aG Tryz.prog 91=some corollaryref21_Of:=by kernel_rfl
abbrev corollarylaw20_Time_r0:List aA:=[⟨S 1,N,x (.agg 2) (s 0)⟩,⟨S 2,N,x (.agg 2) (c (.agg [(I j 0),(I j 0)]))⟩]
abbrev corollarylaw20_Time_r1:List aA:=[⟨S 3,N,v (l (.agg 2) (s 1))⟩,⟨N,N,t (.agg 2) (s 2) (s 3)⟩]
def corollarylaw20_Time:LFn:=⟨(Q (O corollarylaw20_Time_r0) (Q (O corollarylaw20_Time_r1) .ret)),4,[.cell 2 (.agg 2)]⟩
theorem corollarylaw20_Time_low:aG Tryz.prog 103=some corollarylaw20_Time:=by kernel_rfl
abbrev g114r0:List aA:=[⟨S 2,N,x (.agg 4) (s 0)⟩,⟨S 3,N,v (m (c (.bool false)))⟩]
abbrev g114r1:List aA:=[⟨S 4,N,v (l (.agg 4) (s 2))⟩,⟨S 5,N,v (l F (s 1))⟩,⟨S 6,N,k 125 [s 4,s 5]⟩,⟨S 7,N,v (.not (s 6))⟩,⟨S 3,N,v (m (s 7))⟩]
def path_New_1:LFn:=⟨(Q (O g114r0) (Q (O g114r1) .ret)),8,[.slot 3]⟩
theorem path_New_1_low:aG Tryz.prog 124=some path_New_1:=by kernel_rfl
abbrev g115r0:List aA:=[⟨S 2,N,x (.agg 4) (s 0)⟩,⟨S 4,N,v (m (c (.bool false)))⟩]
abbrev g115r1:List aA:=[⟨S 5,N,v (f 0 (s 2))⟩,⟨S 6,N,v (l F (s 5))⟩,⟨S 7,N,v (b .geq (s 6) (c (I j 0)))⟩,⟨S 8,N,v (m (s 7))⟩,⟨S 9,S (8,true),v (f 0 (s 2))⟩,⟨S 10,S (8,true),v (l F (s 9))⟩,⟨S 11,S (8,true),v (m (s 1))⟩,⟨S 12,S (8,true),v (b .lss (s 10) (s 11))⟩,⟨S 13,N,v (p (s 8) (s 12) (c (.bool false)))⟩,⟨S 14,N,v (m (s 13))⟩,⟨S 15,S (14,true),v (f 1 (s 2))⟩,⟨S 16,S (14,true),v (l F (s 15))⟩,⟨S 17,S (14,true),v (b .geq (s 16) (c (I j 0)))⟩,⟨S 18,N,v (p (s 14) (s 17) (c (.bool false)))⟩,⟨S 19,N,v (m (s 18))⟩,⟨S 20,S (19,true),v (f 1 (s 2))⟩,⟨S 21,S (19,true),v (l F (s 20))⟩,⟨S 22,S (19,true),v (m (s 1))⟩,⟨S 23,S (19,true),v (b .lss (s 21) (s 22))⟩,⟨S 24,N,v (p (s 19) (s 23) (c (.bool false)))⟩,⟨S 25,N,v (m (s 24))⟩,⟨S 26,S (25,true),v (f 2 (s 2))⟩,⟨S 27,S (25,true),v (l (.agg 2) (s 26))⟩,⟨S 28,S (25,true),k 177 [s 27]⟩,⟨S 29,N,v (p (s 25) (s 28) (c (.bool false)))⟩,⟨S 4,N,v (m (s 29))⟩]
def path_within:LFn:=⟨(Q (O g115r0) (Q (O g115r1) .ret)),30,[.slot 4]⟩
theorem path_within_low:aG Tryz.prog 125=some path_within:=by kernel_rfl
abbrev g117r0:List aA:=[⟨S 2,N,v (m (c (.sl (.agg 4) .nil [])))⟩]
abbrev g117r1:List aA:=[⟨S 6,N,v (m (s 0))⟩,⟨S 7,N,v (w (s 6))⟩,⟨S 8,N,v (b .lss (s 7) (c (I j 2)))⟩]
abbrev g117r2:List aA:=[⟨S 9,N,v (m (s 0))⟩,⟨S 2,N,v (m (s 9))⟩]
abbrev g117r3:List aA:=[⟨S 3,N,v (m (c (I j 1)))⟩]
abbrev g117r4:List aA:=[⟨S 10,N,v (m (s 3))⟩,⟨S 11,N,v (m (s 0))⟩,⟨S 12,N,v (w (s 11))⟩,⟨S 13,N,v (b .lss (s 10) (s 12))⟩]
abbrev g117r5:List (aA×List Nat):=[(⟨S 16,N,v (m (s 0))⟩,[]),(⟨S 17,N,v (m (s 3))⟩,[]),(⟨S 18,N,v (i (.agg 4) (s 16) (s 17))⟩,[0,1]),(⟨S 19,N,v (l (.agg 4) (s 18))⟩,[0,1,2]),(⟨S 20,N,v (m (s 0))⟩,[]),(⟨S 21,N,v (m (s 3))⟩,[]),(⟨S 22,N,v (b .sub (s 21) (c (I j 1)))⟩,[5]),(⟨S 23,N,v (i (.agg 4) (s 20) (s 22))⟩,[4,5,6]),(⟨S 24,N,v (l (.agg 4) (s 23))⟩,[4,5,6,7]),(⟨S 25,N,v (e false (.plain (.agg 4) [.int,.int,.bool,.int]) (s 19) (s 24))⟩,[0,1,2,3,4,5,6,7,8])]
abbrev g117r5t:List aA:=[]
abbrev g117r6:List aA:=[⟨S 26,N,v (m (s 0))⟩,⟨S 27,N,v (m (s 3))⟩,⟨S 28,N,v (.slc (.agg 4) (s 26) (.some (s 27)) .none .none)⟩,⟨S 4,N,v (m (s 28))⟩]
abbrev g117r7:List aA:=[⟨S 5,N,v (m (c (I j 1)))⟩]
abbrev g117r8:List aA:=[⟨S 29,N,v (m (s 5))⟩,⟨S 30,N,v (m (s 4))⟩,⟨S 31,N,v (w (s 30))⟩,⟨S 32,N,v (b .lss (s 29) (s 31))⟩]
abbrev g117r9:List (aA×List Nat):=[(⟨S 35,N,v (m (s 4))⟩,[]),(⟨S 36,N,v (m (s 5))⟩,[]),(⟨S 37,N,v (i (.agg 4) (s 35) (s 36))⟩,[0,1]),(⟨S 38,N,v (l (.agg 4) (s 37))⟩,[0,1,2]),(⟨S 39,N,v (m (s 4))⟩,[]),(⟨S 40,N,v (m (s 5))⟩,[]),(⟨S 41,N,v (b .sub (s 40) (c (I j 1)))⟩,[5]),(⟨S 42,N,v (i (.agg 4) (s 39) (s 41))⟩,[4,5,6]),(⟨S 43,N,v (l (.agg 4) (s 42))⟩,[4,5,6,7]),(⟨S 44,N,v (e true (.plain (.agg 4) [.int,.int,.bool,.int]) (s 38) (s 43))⟩,[0,1,2,3,4,5,6,7,8])]
abbrev g117r9t:List aA:=[]
abbrev g117r10:List aA:=[⟨S 45,N,v (m (s 0))⟩,⟨S 46,N,v (m (s 3))⟩,⟨S 47,N,v (m (s 4))⟩,⟨S 48,N,v (m (s 5))⟩,⟨S 49,N,v (i (.agg 4) (s 47) (s 48))⟩,⟨S 50,N,v (l (.agg 4) (s 49))⟩,⟨S 51,N,v (i (.agg 4) (s 45) (s 46))⟩,⟨N,N,t (.agg 4) (s 51) (s 50)⟩]
abbrev g117r11:List aA:=[⟨S 52,N,v (m (s 3))⟩,⟨S 53,N,v (b .add (s 52) (c (I j 1)))⟩,⟨S 3,N,v (m (s 53))⟩]
abbrev g117r12:List aA:=[⟨S 33,N,v (m (s 5))⟩,⟨S 34,N,v (b .add (s 33) (c (I j 1)))⟩,⟨S 5,N,v (m (s 34))⟩]
abbrev g117l0:bB:=(Q (Q (O g117r8) (C (s 32) Z (X 2))) (Q (K 3 (Q (D 10 g117r9 g117r9t) (C (s 44) (Q (O g117r10) (O g117r11)) Z))) (O g117r12)))
abbrev g117r13:List aA:=[⟨S 54,N,v (m (s 0))⟩,⟨S 55,N,v (m (s 3))⟩,⟨S 56,N,v (.slc (.agg 4) (s 54) (.some (s 55)) .none .none)⟩,⟨N,N,.clear (.agg 4) (s 56) (.agg [(I j 0),(I j 0),(.bool false),(I j 0)])⟩]
abbrev g117r14:List aA:=[⟨S 57,N,v (m (s 0))⟩,⟨S 58,N,v (m (s 3))⟩,⟨S 59,N,v (.slc (.agg 4) (s 57) .none (.some (s 58)) .none)⟩,⟨S 2,N,v (m (s 59))⟩]
abbrev g117r15:List aA:=[⟨S 14,N,v (m (s 3))⟩,⟨S 15,N,v (b .add (s 14) (c (I j 1)))⟩,⟨S 3,N,v (m (s 15))⟩]
abbrev g117l1:bB:=(Q (Q (O g117r4) (C (s 13) Z (X 0))) (Q (K 1 (Q (D 10 g117r5 g117r5t) (C (s 25) (Q (O g117r6) (Q (Q (O g117r7) (K 2 (R g117l0))) (Q (O g117r13) (Q (O g117r14) .ret)))) Z))) (O g117r15)))
abbrev g117r16:List aA:=[⟨S 60,N,v (m (s 0))⟩,⟨S 2,N,v (m (s 60))⟩]
def slices_Compact_path_Way_path_Way:LFn:=⟨(Q (O g117r0) (Q (Q (O g117r1) (C (s 8) (Q (O g117r2) .ret) Z)) (Q (Q (O g117r3) (K 0 (R g117l1))) (Q (O g117r16) .ret)))),61,[.slot 2]⟩
theorem slices_Compact_path_Way_path_Way_low:aG Tryz.prog 127=some slices_Compact_path_Way_path_Way:=by kernel_rfl
abbrev g120r0:List aA:=[⟨S 2,N,x (.agg 4) (s 0)⟩,⟨S 3,N,x (.agg 4) (s 1)⟩,⟨S 4,N,v (m (c (I j 0)))⟩]
abbrev g120r1:List (aA×List Nat):=[(⟨S 5,N,v (f 0 (s 2))⟩,[]),(⟨S 6,N,v (l F (s 5))⟩,[0]),(⟨S 7,N,v (f 0 (s 3))⟩,[]),(⟨S 8,N,v (l F (s 7))⟩,[2]),(⟨S 9,N,k 165 [s 6,s 8]⟩,[0,1,2,3]),(⟨S 10,N,v (f 1 (s 2))⟩,[]),(⟨S 11,N,v (l F (s 10))⟩,[5]),(⟨S 12,N,v (f 1 (s 3))⟩,[]),(⟨S 13,N,v (l F (s 12))⟩,[7]),(⟨S 14,N,k 165 [s 11,s 13]⟩,[0,1,2,3,4,5,6,7,8]),(⟨S 15,N,v (f 2 (s 2))⟩,[]),(⟨S 16,N,v (f 0 (s 15))⟩,[10]),(⟨S 17,N,v (l F (s 16))⟩,[10,11]),(⟨S 18,N,k 182 [s 17]⟩,[0,1,2,3,4,5,6,7,8,9,10,11,12]),(⟨S 19,N,v (f 2 (s 3))⟩,[]),(⟨S 20,N,v (f 0 (s 19))⟩,[14]),(⟨S 21,N,v (l F (s 20))⟩,[14,15]),(⟨S 22,N,k 182 [s 21]⟩,[0,1,2,3,4,5,6,7,8,9,10,11,12,13,14,15,16]),(⟨S 23,N,k 165 [s 18,s 22]⟩,[0,1,2,3,4,5,6,7,8,9,10,11,12,13,14,15,16,17]),(⟨S 24,N,v (f 2 (s 2))⟩,[]),(⟨S 25,N,v (f 1 (s 24))⟩,[19]),(⟨S 26,N,v (l F (s 25))⟩,[19,20]),(⟨S 27,N,v (f 2 (s 3))⟩,[]),(⟨S 28,N,v (f 1 (s 27))⟩,[22]),(⟨S 29,N,v (l F (s 28))⟩,[22,23]),(⟨S 30,N,k 165 [s 26,s 29]⟩,[0,1,2,3,4,5,6,7,8,9,10,11,12,13,14,15,16,17,18,19,20,21,22,23,24]),(⟨S 31,N,y F [s 9,s 14,s 23,s 30]⟩,[0,1,2,3,4,5,6,7,8,9,10,11,12,13,14,15,16,17,18,19,20,21,22,23,24,25]),(⟨S 32,N,k 163 [s 31]⟩,[0,1,2,3,4,5,6,7,8,9,10,11,12,13,14,15,16,17,18,19,20,21,22,23,24,25,26]),(⟨S 4,N,v (m (s 32))⟩,[0,1,2,3,4,5,6,7,8,9,10,11,12,13,14,15,16,17,18,19,20,21,22,23,24,25,26,27])]
abbrev g120r1t:List aA:=[]
def path_order:LFn:=⟨(Q (O g120r0) (Q (D 29 g120r1 g120r1t) .ret)),33,[.slot 4]⟩
theorem path_order_low:aG Tryz.prog 130=some path_order:=by kernel_rfl
abbrev g121r0:List aA:=[⟨S 2,N,v (m (c (I j 0)))⟩]
abbrev g121r1:List aA:=[⟨S 3,N,v (m (c (I j 0)))⟩]
abbrev g121r2:List aA:=[⟨S 6,N,v (m (s 0))⟩,⟨S 7,N,v (w (s 6))⟩,⟨S 8,N,v (m (c (I j 0)))⟩]
abbrev g121r3:List aA:=[⟨S 9,N,v (b .lss (s 8) (s 7))⟩]
abbrev g121r4:List aA:=[⟨S 10,N,v (i (.agg 4) (s 6) (s 8))⟩,⟨S 11,N,v (l (.agg 4) (s 10))⟩,⟨S 5,N,x (.agg 4) (c (.agg [(I j 0),(I j 0),(.bool false),(I j 0)]))⟩,⟨N,N,t (.agg 4) (s 5) (s 11)⟩]
abbrev g121r5:List aA:=[⟨S 12,N,v (m (s 3))⟩,⟨S 13,N,v (f 2 (s 5))⟩,⟨S 14,N,v (f 1 (s 13))⟩,⟨S 15,N,v (l F (s 14))⟩,⟨S 16,N,v (b .add (s 12) (s 15))⟩,⟨S 3,N,v (m (s 16))⟩]
abbrev g121r6:List aA:=[⟨S 17,N,v (b .add (s 8) (c (I j 1)))⟩,⟨S 8,N,v (m (s 17))⟩]
abbrev g121l0:bB:=(Q (O g121r3) (Q (C (s 9) Z (X 0)) (Q (K 1 (Q (O g121r4) (O g121r5))) (O g121r6))))
abbrev g121r7:List aA:=[⟨S 18,N,v (m (s 3))⟩,⟨S 2,N,v (m (s 18))⟩]
def path_added:LFn:=⟨(Q (O g121r0) (Q (O g121r1) (Q (Q (O g121r2) (K 0 (R g121l0))) (Q (O g121r7) .ret)))),19,[.slot 2]⟩
theorem path_added_low:aG Tryz.prog 131=some path_added:=by kernel_rfl
abbrev g122r0:List aA:=[⟨S 4,N,v (m (c (.bool false)))⟩]
abbrev g122r1:List aA:=[⟨S 14,N,v (m (s 0))⟩,⟨S 15,N,.mkz F 8 (s 14) (I j 0)⟩,⟨S 5,N,v (m (s 15))⟩]
abbrev g122r2:List aA:=[⟨S 16,N,v (m (s 1))⟩,⟨S 17,N,v (w (s 16))⟩,⟨S 18,N,v (m (c (I j 0)))⟩]
abbrev g122r3:List aA:=[⟨S 19,N,v (b .lss (s 18) (s 17))⟩]
abbrev g122r4:List aA:=[⟨S 20,N,v (i (.agg 4) (s 16) (s 18))⟩,⟨S 21,N,v (l (.agg 4) (s 20))⟩,⟨S 7,N,x (.agg 4) (c (.agg [(I j 0),(I j 0),(.bool false),(I j 0)]))⟩,⟨N,N,t (.agg 4) (s 7) (s 21)⟩]
abbrev g122r5:List aA:=[⟨S 22,N,v (f 2 (s 7))⟩,⟨S 23,N,v (f 1 (s 22))⟩,⟨S 24,N,v (l F (s 23))⟩,⟨S 25,N,v (b .eql (s 24) (c (I j 0)))⟩]
abbrev g122r6:List aA:=[⟨S 26,N,v (m (s 5))⟩,⟨S 27,N,v (f 1 (s 7))⟩,⟨S 28,N,v (l F (s 27))⟩,⟨S 29,N,v (i F (s 26) (s 28))⟩,⟨S 30,N,v (l F (s 29))⟩,⟨S 31,N,v (b .add (s 30) (c (I j 1)))⟩,⟨S 32,N,v (i F (s 26) (s 28))⟩,⟨N,N,t F (s 32) (s 31)⟩]
abbrev g122r7:List aA:=[⟨S 33,N,v (b .add (s 18) (c (I j 1)))⟩,⟨S 18,N,v (m (s 33))⟩]
abbrev g122l0:bB:=(Q (O g122r3) (Q (C (s 19) Z (X 0)) (Q (K 1 (Q (O g122r4) (Q (O g122r5) (C (s 25) (O g122r6) Z)))) (O g122r7))))
abbrev g122r8:List aA:=[⟨S 8,N,v (m (c (.sl F .nil [])))⟩]
abbrev g122r9:List aA:=[⟨S 34,N,v (m (s 5))⟩,⟨S 35,N,v (w (s 34))⟩,⟨S 36,N,v (m (c (I j 0)))⟩]
abbrev g122r10:List aA:=[⟨S 37,N,v (b .lss (s 36) (s 35))⟩]
abbrev g122r11:List aA:=[⟨S 38,N,v (m (s 36))⟩,⟨S 39,N,v (i F (s 34) (s 36))⟩,⟨S 40,N,v (l F (s 39))⟩,⟨S 9,N,v (m (s 38))⟩,⟨S 10,N,v (m (s 40))⟩]
abbrev g122r12:List aA:=[⟨S 41,N,v (m (s 10))⟩,⟨S 42,N,v (b .eql (s 41) (c (I j 0)))⟩]
abbrev g122r13:List aA:=[⟨S 43,N,v (m (s 8))⟩,⟨S 44,N,v (m (s 9))⟩,⟨S 45,N,y F [s 44]⟩,⟨S 46,N,a F 8 (s 43) (s 45)⟩,⟨S 8,N,v (m (s 46))⟩]
abbrev g122r14:List aA:=[⟨S 47,N,v (b .add (s 36) (c (I j 1)))⟩,⟨S 36,N,v (m (s 47))⟩]
abbrev g122l1:bB:=(Q (O g122r10) (Q (C (s 37) Z (X 2)) (Q (K 3 (Q (O g122r11) (Q (O g122r12) (C (s 42) (O g122r13) Z)))) (O g122r14))))
abbrev g122r15:List aA:=[⟨S 11,N,v (m (c (I j 0)))⟩]
abbrev g122r16:List aA:=[⟨S 48,N,v (m (s 11))⟩,⟨S 49,N,v (m (s 8))⟩,⟨S 50,N,v (w (s 49))⟩,⟨S 51,N,v (b .lss (s 48) (s 50))⟩]
abbrev g122r17:List aA:=[⟨S 54,N,v (m (s 1))⟩,⟨S 55,N,v (w (s 54))⟩,⟨S 56,N,v (m (c (I j 0)))⟩]
abbrev g122r18:List aA:=[⟨S 57,N,v (b .lss (s 56) (s 55))⟩]
abbrev g122r19:List aA:=[⟨S 58,N,v (i (.agg 4) (s 54) (s 56))⟩,⟨S 59,N,v (l (.agg 4) (s 58))⟩,⟨S 13,N,x (.agg 4) (c (.agg [(I j 0),(I j 0),(.bool false),(I j 0)]))⟩,⟨N,N,t (.agg 4) (s 13) (s 59)⟩]
abbrev g122r20:List (aA×List Nat):=[(⟨S 60,N,v (f 0 (s 13))⟩,[]),(⟨S 61,N,v (l F (s 60))⟩,[0]),(⟨S 62,N,v (m (s 8))⟩,[]),(⟨S 63,N,v (m (s 11))⟩,[]),(⟨S 64,N,v (i F (s 62) (s 63))⟩,[2,3]),(⟨S 65,N,v (l F (s 64))⟩,[2,3,4]),(⟨S 66,N,v (b .neq (s 61) (s 65))⟩,[0,1,2,3,4,5]),(⟨S 67,N,v (m (s 66))⟩,[0,1,2,3,4,5,6]),(⟨S 68,S (67,false),v (f 2 (s 13))⟩,[0,1,2,3,4,5,6,7]),(⟨S 69,S (67,false),v (f 1 (s 68))⟩,[0,1,2,3,4,5,6,7,8]),(⟨S 70,S (67,false),v (l F (s 69))⟩,[0,1,2,3,4,5,6,7,8,9]),(⟨S 71,S (67,false),v (b .gtr (s 70) (c (I j 0)))⟩,[0,1,2,3,4,5,6,7,8,9,10]),(⟨S 72,N,v (p (s 67) (c (.bool true)) (s 71))⟩,[0,1,2,3,4,5,6,7,8,9,10,11])]
abbrev g122r20t:List aA:=[]
abbrev g122r21:List aA:=[⟨S 73,N,v (m (s 5))⟩,⟨S 74,N,v (f 1 (s 13))⟩,⟨S 75,N,v (l F (s 74))⟩,⟨S 76,N,v (i F (s 73) (s 75))⟩,⟨S 77,N,v (l F (s 76))⟩,⟨S 78,N,v (b .sub (s 77) (c (I j 1)))⟩,⟨S 79,N,v (i F (s 73) (s 75))⟩,⟨N,N,t F (s 79) (s 78)⟩]
abbrev g122r22:List aA:=[⟨S 80,N,v (m (s 5))⟩,⟨S 81,N,v (f 1 (s 13))⟩,⟨S 82,N,v (l F (s 81))⟩,⟨S 83,N,v (i F (s 80) (s 82))⟩,⟨S 84,N,v (l F (s 83))⟩,⟨S 85,N,v (b .eql (s 84) (c (I j 0)))⟩]
abbrev g122r23:List aA:=[⟨S 86,N,v (m (s 8))⟩,⟨S 87,N,v (f 1 (s 13))⟩,⟨S 88,N,v (l F (s 87))⟩,⟨S 89,N,y F [s 88]⟩,⟨S 90,N,a F 8 (s 86) (s 89)⟩,⟨S 8,N,v (m (s 90))⟩]
abbrev g122r24:List aA:=[⟨S 91,N,v (b .add (s 56) (c (I j 1)))⟩,⟨S 56,N,v (m (s 91))⟩]
abbrev g122l2:bB:=(Q (O g122r18) (Q (C (s 57) Z (X 6)) (Q (K 7 (Q (O g122r19) (Q (Q (D 13 g122r20 g122r20t) (C (s 72) (X 7) Z)) (Q (O g122r21) (Q (O g122r22) (C (s 85) (O g122r23) Z)))))) (O g122r24))))
abbrev g122r25:List aA:=[⟨S 52,N,v (m (s 11))⟩,⟨S 53,N,v (b .add (s 52) (c (I j 1)))⟩,⟨S 11,N,v (m (s 53))⟩]
abbrev g122l3:bB:=(Q (Q (O g122r16) (C (s 51) Z (X 4))) (Q (K 5 (Q (O g122r17) (K 6 (R g122l2)))) (O g122r25)))
abbrev g122r26:List aA:=[⟨S 92,N,v (m (s 8))⟩,⟨S 93,N,v (w (s 92))⟩,⟨S 94,N,v (m (s 0))⟩,⟨S 95,N,v (b .lss (s 93) (s 94))⟩,⟨S 4,N,v (m (s 95))⟩]
def path_idle:LFn:=⟨(Q (O g122r0) (Q (O g122r1) (Q (Q (O g122r2) (K 0 (R g122l0))) (Q (O g122r8) (Q (Q (O g122r9) (K 2 (R g122l1))) (Q (Q (O g122r15) (K 4 (R g122l3))) (Q (O g122r26) .ret))))))),96,[.slot 4]⟩
theorem path_idle_low:aG Tryz.prog 132=some path_idle:=by kernel_rfl
abbrev g123r0:List aA:=[⟨S 2,N,x F (s 0)⟩,⟨S 3,N,x F (s 1)⟩,⟨S 4,N,v (m (c (.bool false)))⟩]
abbrev g123r1:List aA:=[⟨S 5,N,v (l F (s 3))⟩,⟨S 6,N,v (.mkfn (.func 183) [] [s 2,s 3])⟩,⟨S 7,N,k 126 [s 5,s 6]⟩,⟨S 4,N,v (m (s 7))⟩]
def path_turns:LFn:=⟨(Q (O g123r0) (Q (O g123r1) .ret)),8,[.slot 4]⟩
theorem path_turns_low:aG Tryz.prog 133=some path_turns:=by kernel_rfl
abbrev g124r0:List aA:=[⟨S 1,N,x (.agg 2) (s 0)⟩,⟨S 2,N,x (.agg 2) (c (.agg [(.bool false),(I j 0)]))⟩]
abbrev g124r1:List aA:=[⟨S 3,N,v (l (.agg 2) (s 1))⟩,⟨N,N,t (.agg 2) (s 2) (s 3)⟩]
def corollarylaw20_Path:LFn:=⟨(Q (O g124r0) (Q (O g124r1) .ret)),4,[.cell 2 (.agg 2)]⟩
theorem corollarylaw20_Path_low:aG Tryz.prog 134=some corollarylaw20_Path:=by kernel_rfl
abbrev g125r0:List aA:=[⟨S 2,N,x (.agg 2) (s 0)⟩,⟨S 4,N,v (m (c (.sl F .nil [])))⟩]
abbrev g125r1:List aA:=[⟨S 16,N,v (f 0 (s 2))⟩,⟨S 17,N,v (l F (s 16))⟩,⟨S 18,N,.mkz F 24 (s 17) (.sl (.agg 2) .nil [])⟩,⟨S 5,N,v (m (s 18))⟩]
abbrev g125r2:List aA:=[⟨S 19,N,v (m (s 5))⟩,⟨S 20,N,v (m (s 1))⟩,⟨S 21,N,v (.build [(.bool false),(I j 0)] [])⟩,⟨S 22,N,y (.agg 2) [s 21]⟩,⟨S 23,N,v (i F (s 19) (s 20))⟩,⟨N,N,t F (s 23) (s 22)⟩]
abbrev g125r3:List aA:=[⟨S 24,N,v (m (s 1))⟩,⟨S 25,N,y F [s 24]⟩,⟨S 6,N,v (m (s 25))⟩]
abbrev g125r4:List aA:=[⟨S 26,N,v (m (s 6))⟩,⟨S 27,N,v (w (s 26))⟩,⟨S 28,N,v (b .gtr (s 27) (c (I j 0)))⟩]
abbrev g125r5:List aA:=[⟨S 29,N,v (m (s 6))⟩,⟨S 30,N,v (i F (s 29) (c (I j 0)))⟩,⟨S 31,N,v (l F (s 30))⟩,⟨S 7,N,v (m (s 31))⟩]
abbrev g125r6:List aA:=[⟨S 32,N,v (m (s 6))⟩,⟨S 33,N,v (.slc F (s 32) (.some (c (I j 1))) .none .none)⟩,⟨S 6,N,v (m (s 33))⟩]
abbrev g125r7:List aA:=[⟨S 34,N,v (m (s 5))⟩,⟨S 35,N,v (m (s 7))⟩,⟨S 36,N,v (i F (s 34) (s 35))⟩,⟨S 37,N,v (l F (s 36))⟩,⟨S 38,N,k 185 [s 37]⟩,⟨S 8,N,v (m (s 38))⟩]
abbrev g125r8:List aA:=[⟨S 39,N,v (f 1 (s 2))⟩,⟨S 40,N,v (l F (s 39))⟩,⟨S 41,N,v (w (s 40))⟩,⟨S 42,N,v (m (c (I j 0)))⟩]
abbrev g125r9:List aA:=[⟨S 43,N,v (b .lss (s 42) (s 41))⟩]
abbrev g125r10:List aA:=[⟨S 44,N,v (i (.agg 4) (s 40) (s 42))⟩,⟨S 45,N,v (l (.agg 4) (s 44))⟩,⟨S 10,N,x (.agg 4) (c (.agg [(I j 0),(I j 0),(.bool false),(I j 0)]))⟩,⟨N,N,t (.agg 4) (s 10) (s 45)⟩]
abbrev g125r11:List aA:=[⟨S 46,N,v (f 0 (s 10))⟩,⟨S 47,N,v (l F (s 46))⟩,⟨S 48,N,v (m (s 7))⟩,⟨S 49,N,v (b .neq (s 47) (s 48))⟩]
abbrev g125r12:List aA:=[⟨S 50,N,v (m (s 8))⟩,⟨S 51,N,v (w (s 50))⟩,⟨S 52,N,v (m (c (I j 0)))⟩]
abbrev g125r13:List aA:=[⟨S 53,N,v (b .lss (s 52) (s 51))⟩]
abbrev g125r14:List aA:=[⟨S 54,N,v (i (.agg 2) (s 50) (s 52))⟩,⟨S 55,N,v (l (.agg 2) (s 54))⟩,⟨S 12,N,x (.agg 2) (c (.agg [(.bool false),(I j 0)]))⟩,⟨N,N,t (.agg 2) (s 12) (s 55)⟩]
abbrev g125r15:List aA:=[⟨S 57,N,v (l (.agg 2) (s 12))⟩,⟨S 58,N,v (f 2 (s 10))⟩,⟨S 59,N,v (l (.agg 2) (s 58))⟩,⟨S 60,N,k 186 [s 57,s 59]⟩,⟨S 56,N,v (m (s 60))⟩,⟨S 61,N,v (q (s 56) 0)⟩,⟨S 62,N,v (q (s 56) 1)⟩,⟨S 13,N,x (.agg 2) (c (.agg [(.bool false),(I j 0)]))⟩,⟨N,N,t (.agg 2) (s 13) (s 61)⟩,⟨S 14,N,v (m (s 62))⟩]
abbrev g125r16:List aA:=[⟨S 63,N,v (m (s 14))⟩,⟨S 64,N,v (e true (.iface true) (s 63) (c .nilIface))⟩]
abbrev g125r17:List aA:=[⟨S 15,N,v (m (c (.bool false)))⟩]
abbrev g125r18:List (aA×List Nat):=[(⟨S 66,N,v (m (s 5))⟩,[]),(⟨S 67,N,v (f 1 (s 10))⟩,[]),(⟨S 68,N,v (l F (s 67))⟩,[1]),(⟨S 69,N,v (m (s 5))⟩,[]),(⟨S 70,N,v (f 1 (s 10))⟩,[]),(⟨S 71,N,v (l F (s 70))⟩,[4]),(⟨S 72,N,v (i F (s 69) (s 71))⟩,[3,4,5]),(⟨S 73,N,v (l F (s 72))⟩,[3,4,5,6]),(⟨S 74,N,v (l (.agg 2) (s 13))⟩,[]),(⟨S 75,N,.callw 187 [s 73,s 74] [s 67]⟩,[3,4,5,6,7,8]),(⟨S 65,N,v (m (s 75))⟩,[3,4,5,6,7,8,9]),(⟨S 76,N,v (q (s 65) 0)⟩,[3,4,5,6,7,8,9,10]),(⟨S 77,N,v (q (s 65) 1)⟩,[3,4,5,6,7,8,9,10]),(⟨S 78,N,v (i F (s 66) (s 68))⟩,[0,1,2,3,4,5,6,7,8,9,10,11]),(⟨N,N,t F (s 78) (s 76)⟩,[0,1,2,3,4,5,6,7,8,9,10,11,13]),(⟨S 15,N,v (m (s 77))⟩,[0,1,2,3,4,5,6,7,8,9,10,11,12,13,14])]
abbrev g125r18t:List aA:=[]
abbrev g125r19:List aA:=[⟨S 79,N,v (m (s 15))⟩]
abbrev g125r20:List aA:=[⟨S 80,N,v (m (s 6))⟩,⟨S 81,N,v (f 1 (s 10))⟩,⟨S 82,N,v (l F (s 81))⟩,⟨S 83,N,y F [s 82]⟩,⟨S 84,N,a F 8 (s 80) (s 83)⟩,⟨S 6,N,v (m (s 84))⟩]
abbrev g125r21:List aA:=[⟨S 85,N,v (b .add (s 52) (c (I j 1)))⟩,⟨S 52,N,v (m (s 85))⟩]
abbrev g125l0:bB:=(Q (O g125r13) (Q (C (s 53) Z (X 4)) (Q (K 5 (Q (O g125r14) (Q (O g125r15) (Q (Q (O g125r16) (C (s 64) (X 5) Z)) (Q (O g125r17) (Q (D 16 g125r18 g125r18t) (Q (O g125r19) (C (s 79) (O g125r20) Z)))))))) (O g125r21))))
abbrev g125r22:List aA:=[⟨S 86,N,v (b .add (s 42) (c (I j 1)))⟩,⟨S 42,N,v (m (s 86))⟩]
abbrev g125l1:bB:=(Q (O g125r9) (Q (C (s 43) Z (X 2)) (Q (K 3 (Q (O g125r10) (Q (Q (O g125r11) (C (s 49) (X 3) Z)) (Q (O g125r12) (K 4 (R g125l0)))))) (O g125r22))))
abbrev g125l2:bB:=(Q (Q (O g125r4) (C (s 28) Z (X 0))) (K 1 (Q (O g125r5) (Q (O g125r6) (Q (O g125r7) (Q (O g125r8) (K 2 (R g125l1))))))))
abbrev g125r23:List aA:=[⟨S 87,N,v (m (s 5))⟩,⟨S 4,N,v (m (s 87))⟩]
def path_from:LFn:=⟨(Q (O g125r0) (Q (O g125r1) (Q (O g125r2) (Q (O g125r3) (Q (K 0 (R g125l2)) (Q (O g125r23) .ret)))))),88,[.slot 4]⟩
theorem path_from_low:aG Tryz.prog 135=some path_from:=by kernel_rfl
abbrev g126r0:List aA:=[⟨S 1,N,x (.agg 2) (s 0)⟩,⟨S 2,N,v (m (c (.bool false)))⟩]
abbrev g126r1:List aA:=[⟨S 3,N,v (f 1 (s 1))⟩,⟨S 4,N,v (l F (s 3))⟩,⟨S 5,N,v (b .geq (s 4) (c (I j 0)))⟩,⟨S 6,N,v (m (s 5))⟩,⟨S 7,S (6,true),v (f 1 (s 1))⟩,⟨S 8,S (6,true),v (l F (s 7))⟩,⟨S 9,S (6,true),v (b .leq (s 8) (c (I j 1048576)))⟩,⟨S 10,N,v (p (s 6) (s 9) (c (.bool false)))⟩,⟨S 2,N,v (m (s 10))⟩]
def corollaryref20_RightPath:LFn:=⟨(Q (O g126r0) (Q (O g126r1) .ret)),11,[.slot 2]⟩
theorem corollaryref20_RightPath_low:aG Tryz.prog 136=some corollaryref20_RightPath:=by kernel_rfl
abbrev g127r0:List aA:=[⟨S 3,N,x (.agg 4) (s 1)⟩,⟨S 4,N,v (m (c (.sl (.agg 4) .nil [])))⟩]
abbrev g127r1:List aA:=[⟨S 5,N,v (m (c (I j 0)))⟩]
abbrev g127r2:List (aA×List Nat):=[(⟨S 6,N,v (m (s 5))⟩,[]),(⟨S 7,N,v (m (s 0))⟩,[]),(⟨S 8,N,v (w (s 7))⟩,[1]),(⟨S 9,N,v (b .lss (s 6) (s 8))⟩,[0,1,2]),(⟨S 10,N,v (m (s 9))⟩,[0,1,2,3]),(⟨S 11,S (10,true),v (m (s 0))⟩,[0,1,2,3,4]),(⟨S 12,S (10,true),v (m (s 5))⟩,[0,1,2,3,4]),(⟨S 13,S (10,true),v (i (.agg 4) (s 11) (s 12))⟩,[0,1,2,3,4,5,6]),(⟨S 14,S (10,true),v (l (.agg 4) (s 13))⟩,[0,1,2,3,4,5,6,7]),(⟨S 15,S (10,true),v (l (.agg 4) (s 3))⟩,[0,1,2,3,4]),(⟨S 16,S (10,true),k 188 [s 14,s 15]⟩,[0,1,2,3,4,5,6,7,8,9]),(⟨S 17,N,v (p (s 10) (s 16) (c (.bool false)))⟩,[0,1,2,3,4,5,6,7,8,9,10])]
abbrev g127r2t:List aA:=[]
abbrev g127r3:List aA:=[⟨S 18,N,v (m (s 5))⟩,⟨S 19,N,v (b .add (s 18) (c (I j 1)))⟩,⟨S 5,N,v (m (s 19))⟩]
abbrev g127l0:bB:=(Q (Q (D 12 g127r2 g127r2t) (C (s 17) Z (X 0))) (K 1 (O g127r3)))
abbrev g127r4:List (aA×List Nat):=[(⟨S 20,N,v (m (s 5))⟩,[]),(⟨S 21,N,v (m (s 0))⟩,[]),(⟨S 22,N,v (w (s 21))⟩,[1]),(⟨S 23,N,v (b .lss (s 20) (s 22))⟩,[0,1,2]),(⟨S 24,N,v (m (s 23))⟩,[0,1,2,3]),(⟨S 25,S (24,true),v (m (s 0))⟩,[0,1,2,3,4]),(⟨S 26,S (24,true),v (m (s 5))⟩,[0,1,2,3,4]),(⟨S 27,S (24,true),v (i (.agg 4) (s 25) (s 26))⟩,[0,1,2,3,4,5,6]),(⟨S 28,S (24,true),v (l (.agg 4) (s 27))⟩,[0,1,2,3,4,5,6,7]),(⟨S 29,S (24,true),v (l (.agg 4) (s 3))⟩,[0,1,2,3,4]),(⟨S 30,S (24,true),v (e false (.plain (.agg 4) [.int,.int,.bool,.int]) (s 28) (s 29))⟩,[0,1,2,3,4,5,6,7,8,9]),(⟨S 31,N,v (p (s 24) (s 30) (c (.bool false)))⟩,[0,1,2,3,4,5,6,7,8,9,10])]
abbrev g127r4t:List aA:=[]
abbrev g127r5:List aA:=[⟨S 32,N,v (m (s 0))⟩,⟨S 4,N,v (m (s 32))⟩]
abbrev g127r6:List (aA×List Nat):=[(⟨S 33,N,y (.agg 4) []⟩,[]),(⟨S 34,N,v (m (s 0))⟩,[]),(⟨S 35,N,v (m (s 5))⟩,[]),(⟨S 36,N,v (.slc (.agg 4) (s 34) .none (.some (s 35)) .none)⟩,[1,2]),(⟨S 37,N,a (.agg 4) 32 (s 33) (s 36)⟩,[0,1,2,3]),(⟨S 38,N,v (l (.agg 4) (s 3))⟩,[]),(⟨S 39,N,y (.agg 4) [s 38]⟩,[5]),(⟨S 40,N,a (.agg 4) 32 (s 37) (s 39)⟩,[0,1,2,3,4,5,6]),(⟨S 41,N,v (m (s 0))⟩,[]),(⟨S 42,N,v (m (s 5))⟩,[]),(⟨S 43,N,v (.slc (.agg 4) (s 41) (.some (s 42)) .none .none)⟩,[8,9]),(⟨S 44,N,a (.agg 4) 32 (s 40) (s 43)⟩,[0,1,2,3,4,5,6,7,8,9,10]),(⟨S 4,N,v (m (s 44))⟩,[0,1,2,3,4,5,6,7,8,9,10,11])]
abbrev g127r6t:List aA:=[]
def corollaryref22_Put:LFn:=⟨(Q (O g127r0) (Q (O g127r1) (Q (K 0 (R g127l0)) (Q (Q (D 12 g127r4 g127r4t) (C (s 31) (Q (O g127r5) .ret) Z)) (Q (D 13 g127r6 g127r6t) .ret))))),45,[.slot 4]⟩
theorem corollaryref22_Put_low:aG Tryz.prog 137=some corollaryref22_Put:=by kernel_rfl
abbrev g128r0:List aA:=[⟨S 2,N,x (.agg 2) (s 0)⟩,⟨S 4,N,v (m (c (.sl F .nil [])))⟩]
abbrev g128r1:List aA:=[⟨S 11,N,v (f 0 (s 2))⟩,⟨S 12,N,v (l F (s 11))⟩,⟨S 13,N,.mkz F 24 (s 12) (.sl F .nil [])⟩,⟨S 5,N,v (m (s 13))⟩]
abbrev g128r2:List aA:=[⟨S 6,N,v (m (c (I j 0)))⟩]
abbrev g128r3:List aA:=[⟨S 14,N,v (m (s 6))⟩,⟨S 15,N,v (f 0 (s 2))⟩,⟨S 16,N,v (l F (s 15))⟩,⟨S 17,N,v (b .lss (s 14) (s 16))⟩]
abbrev g128r4:List aA:=[⟨S 20,N,v (m (s 5))⟩,⟨S 21,N,v (m (s 6))⟩,⟨S 22,N,v (f 0 (s 2))⟩,⟨S 23,N,v (l F (s 22))⟩,⟨S 24,N,.mkz F 1 (s 23) (.bool false)⟩,⟨S 25,N,v (i F (s 20) (s 21))⟩,⟨N,N,t F (s 25) (s 24)⟩]
abbrev g128r5:List aA:=[⟨S 18,N,v (m (s 6))⟩,⟨S 19,N,v (b .add (s 18) (c (I j 1)))⟩,⟨S 6,N,v (m (s 19))⟩]
abbrev g128l0:bB:=(Q (Q (O g128r3) (C (s 17) Z (X 0))) (Q (K 1 (O g128r4)) (O g128r5)))
abbrev g128r6:List aA:=[⟨S 7,N,v (m (c (I j 0)))⟩]
abbrev g128r7:List aA:=[⟨S 26,N,v (m (s 7))⟩,⟨S 27,N,v (f 1 (s 2))⟩,⟨S 28,N,v (l F (s 27))⟩,⟨S 29,N,v (w (s 28))⟩,⟨S 30,N,v (b .lss (s 26) (s 29))⟩]
abbrev g128r8:List aA:=[⟨S 33,N,v (m (s 1))⟩,⟨S 34,N,v (.not (s 33))⟩,⟨S 35,N,v (m (s 34))⟩,⟨S 36,S (35,false),v (f 1 (s 2))⟩,⟨S 37,S (35,false),v (l F (s 36))⟩,⟨S 38,S (35,false),v (m (s 7))⟩,⟨S 39,S (35,false),v (i (.agg 4) (s 37) (s 38))⟩,⟨S 40,S (35,false),v (f 2 (s 39))⟩,⟨S 41,S (35,false),v (f 1 (s 40))⟩,⟨S 42,S (35,false),v (l F (s 41))⟩,⟨S 43,S (35,false),v (b .eql (s 42) (c (I j 0)))⟩,⟨S 44,N,v (p (s 35) (c (.bool true)) (s 43))⟩]
abbrev g128r9:List (aA×List Nat):=[(⟨S 45,N,v (m (s 5))⟩,[]),(⟨S 46,N,v (f 1 (s 2))⟩,[]),(⟨S 47,N,v (l F (s 46))⟩,[1]),(⟨S 48,N,v (m (s 7))⟩,[]),(⟨S 49,N,v (i (.agg 4) (s 47) (s 48))⟩,[1,2,3]),(⟨S 50,N,v (f 0 (s 49))⟩,[1,2,3,4]),(⟨S 51,N,v (l F (s 50))⟩,[1,2,3,4,5]),(⟨S 52,N,v (i F (s 45) (s 51))⟩,[0,1,2,3,4,5,6]),(⟨S 53,N,v (l F (s 52))⟩,[0,1,2,3,4,5,6,7]),(⟨S 54,N,v (f 1 (s 2))⟩,[]),(⟨S 55,N,v (l F (s 54))⟩,[9]),(⟨S 56,N,v (m (s 7))⟩,[]),(⟨S 57,N,v (i (.agg 4) (s 55) (s 56))⟩,[9,10,11]),(⟨S 58,N,v (f 1 (s 57))⟩,[9,10,11,12]),(⟨S 59,N,v (l F (s 58))⟩,[9,10,11,12,13]),(⟨S 60,N,v (i F (s 53) (s 59))⟩,[0,1,2,3,4,5,6,7,8,9,10,11,12,13,14])]
abbrev g128r9t:List aA:=[⟨N,N,t F (s 60) (c (.bool true))⟩]
abbrev g128r10:List aA:=[⟨S 31,N,v (m (s 7))⟩,⟨S 32,N,v (b .add (s 31) (c (I j 1)))⟩,⟨S 7,N,v (m (s 32))⟩]
abbrev g128l1:bB:=(Q (Q (O g128r7) (C (s 30) Z (X 2))) (Q (K 3 (Q (O g128r8) (C (s 44) (D 16 g128r9 g128r9t) Z))) (O g128r10)))
abbrev g128r11:List aA:=[⟨S 8,N,v (m (c (I j 0)))⟩]
abbrev g128r12:List aA:=[⟨S 61,N,v (m (s 8))⟩,⟨S 62,N,v (f 0 (s 2))⟩,⟨S 63,N,v (l F (s 62))⟩,⟨S 64,N,v (b .lss (s 61) (s 63))⟩]
abbrev g128r13:List aA:=[⟨S 9,N,v (m (c (I j 0)))⟩]
abbrev g128r14:List aA:=[⟨S 67,N,v (m (s 9))⟩,⟨S 68,N,v (f 0 (s 2))⟩,⟨S 69,N,v (l F (s 68))⟩,⟨S 70,N,v (b .lss (s 67) (s 69))⟩]
abbrev g128r15:List aA:=[⟨S 10,N,v (m (c (I j 0)))⟩]
abbrev g128r16:List aA:=[⟨S 73,N,v (m (s 10))⟩,⟨S 74,N,v (f 0 (s 2))⟩,⟨S 75,N,v (l F (s 74))⟩,⟨S 76,N,v (b .lss (s 73) (s 75))⟩,⟨S 77,N,v (m (s 76))⟩,⟨S 78,S (77,true),v (m (s 5))⟩,⟨S 79,S (77,true),v (m (s 9))⟩,⟨S 80,S (77,true),v (i F (s 78) (s 79))⟩,⟨S 81,S (77,true),v (l F (s 80))⟩,⟨S 82,S (77,true),v (m (s 8))⟩,⟨S 83,S (77,true),v (i F (s 81) (s 82))⟩,⟨S 84,S (77,true),v (l F (s 83))⟩,⟨S 85,N,v (p (s 77) (s 84) (c (.bool false)))⟩]
abbrev g128r17:List (aA×List Nat):=[(⟨S 88,N,v (m (s 5))⟩,[]),(⟨S 89,N,v (m (s 9))⟩,[]),(⟨S 90,N,v (i F (s 88) (s 89))⟩,[0,1]),(⟨S 91,N,v (l F (s 90))⟩,[0,1,2]),(⟨S 92,N,v (m (s 10))⟩,[]),(⟨S 93,N,v (m (s 5))⟩,[]),(⟨S 94,N,v (m (s 9))⟩,[]),(⟨S 95,N,v (i F (s 93) (s 94))⟩,[5,6]),(⟨S 96,N,v (l F (s 95))⟩,[5,6,7]),(⟨S 97,N,v (m (s 10))⟩,[]),(⟨S 98,N,v (i F (s 96) (s 97))⟩,[5,6,7,8,9]),(⟨S 99,N,v (l F (s 98))⟩,[5,6,7,8,9,10]),(⟨S 100,N,v (m (s 99))⟩,[5,6,7,8,9,10,11]),(⟨S 101,S (100,false),v (m (s 5))⟩,[5,6,7,8,9,10,11,12]),(⟨S 102,S (100,false),v (m (s 8))⟩,[5,6,7,8,9,10,11,12]),(⟨S 103,S (100,false),v (i F (s 101) (s 102))⟩,[5,6,7,8,9,10,11,12,13,14]),(⟨S 104,S (100,false),v (l F (s 103))⟩,[5,6,7,8,9,10,11,12,13,14,15]),(⟨S 105,S (100,false),v (m (s 10))⟩,[5,6,7,8,9,10,11,12]),(⟨S 106,S (100,false),v (i F (s 104) (s 105))⟩,[5,6,7,8,9,10,11,12,13,14,15,16,17]),(⟨S 107,S (100,false),v (l F (s 106))⟩,[5,6,7,8,9,10,11,12,13,14,15,16,17,18]),(⟨S 108,N,v (p (s 100) (c (.bool true)) (s 107))⟩,[5,6,7,8,9,10,11,12,13,14,15,16,17,18,19]),(⟨S 109,N,v (i F (s 91) (s 92))⟩,[0,1,2,3,4,5,6,7,8,9,10,11,12,13,14,15,16,17,18,19,20])]
abbrev g128r17t:List aA:=[⟨N,N,t F (s 109) (s 108)⟩]
abbrev g128r18:List aA:=[⟨S 86,N,v (m (s 10))⟩,⟨S 87,N,v (b .add (s 86) (c (I j 1)))⟩,⟨S 10,N,v (m (s 87))⟩]
abbrev g128l2:bB:=(Q (Q (O g128r16) (C (s 85) Z (X 8))) (Q (K 9 (D 22 g128r17 g128r17t)) (O g128r18)))
abbrev g128r19:List aA:=[⟨S 71,N,v (m (s 9))⟩,⟨S 72,N,v (b .add (s 71) (c (I j 1)))⟩,⟨S 9,N,v (m (s 72))⟩]
abbrev g128l3:bB:=(Q (Q (O g128r14) (C (s 70) Z (X 6))) (Q (K 7 (Q (O g128r15) (K 8 (R g128l2)))) (O g128r19)))
abbrev g128r20:List aA:=[⟨S 65,N,v (m (s 8))⟩,⟨S 66,N,v (b .add (s 65) (c (I j 1)))⟩,⟨S 8,N,v (m (s 66))⟩]
abbrev g128l4:bB:=(Q (Q (O g128r12) (C (s 64) Z (X 4))) (Q (K 5 (Q (O g128r13) (K 6 (R g128l3)))) (O g128r20)))
abbrev g128r21:List aA:=[⟨S 110,N,v (m (s 5))⟩,⟨S 4,N,v (m (s 110))⟩]
def corollaryref22_joined:LFn:=⟨(Q (O g128r0) (Q (O g128r1) (Q (Q (O g128r2) (K 0 (R g128l0))) (Q (Q (O g128r6) (K 2 (R g128l1))) (Q (Q (O g128r11) (K 4 (R g128l4))) (Q (O g128r21) .ret)))))),111,[.slot 4]⟩
theorem corollaryref22_joined_low:aG Tryz.prog 138=some corollaryref22_joined:=by kernel_rfl
abbrev stamp_within_r0:List aA:=[⟨S 4,N,v (m (c (.bool false)))⟩]
abbrev stamp_within_r1:List aA:=[⟨S 5,N,v (m (s 0))⟩,⟨S 6,N,v (b .geq (s 5) (c (I j 0)))⟩,⟨S 7,N,v (m (s 6))⟩,⟨S 8,S (7,true),v (m (s 0))⟩,⟨S 9,S (7,true),v (m (s 1))⟩,⟨S 10,S (7,true),v (b .leq (s 8) (s 9))⟩,⟨S 11,N,v (p (s 7) (s 10) (c (.bool false)))⟩,⟨S 4,N,v (m (s 11))⟩]
def stamp_within:LFn:=⟨(Q (O stamp_within_r0) (Q (O stamp_within_r1) .ret)),12,[.slot 4]⟩
theorem stamp_within_low:aG Tryz.prog 140=some stamp_within:=by kernel_rfl
abbrev g130r0:List aA:=[⟨S 2,N,x (.agg 3) (s 0)⟩,⟨S 3,N,x (.agg 3) (s 1)⟩,⟨S 4,N,v (m (c (.bool false)))⟩]
abbrev g130r1:List aA:=[⟨S 5,N,v (f 0 (s 2))⟩,⟨S 6,N,v (l F (s 5))⟩,⟨S 7,N,v (f 0 (s 3))⟩,⟨S 8,N,v (l F (s 7))⟩,⟨S 9,N,v (b .neq (s 6) (s 8))⟩]
abbrev g130r2:List aA:=[⟨S 10,N,v (f 0 (s 2))⟩,⟨S 11,N,v (l F (s 10))⟩,⟨S 12,N,v (f 0 (s 3))⟩,⟨S 13,N,v (l F (s 12))⟩,⟨S 14,N,v (b .lss (s 11) (s 13))⟩,⟨S 4,N,v (m (s 14))⟩]
abbrev g130r3:List aA:=[⟨S 15,N,v (f 1 (s 2))⟩,⟨S 16,N,v (l (.agg 2) (s 15))⟩,⟨S 17,N,v (f 1 (s 3))⟩,⟨S 18,N,v (l (.agg 2) (s 17))⟩,⟨S 19,N,k 152 [s 16,s 18]⟩,⟨S 4,N,v (m (s 19))⟩]
def corollaryref23_less:LFn:=⟨(Q (O g130r0) (Q (Q (O g130r1) (C (s 9) (Q (O g130r2) .ret) Z)) (Q (O g130r3) .ret))),20,[.slot 4]⟩
theorem corollaryref23_less_low:aG Tryz.prog 142=some corollaryref23_less:=by kernel_rfl
abbrev g131r0:List aA:=[⟨S 6,N,v (l F (s 1))⟩,⟨S 7,N,v (e false .ptr (s 6) (c .nilPtr))⟩]
abbrev g131r1:List aA:=[⟨S 8,N,v (l F (s 1))⟩,⟨S 9,N,v (n (s 8))⟩,⟨S 10,N,v (f 3 (s 9))⟩,⟨S 11,N,v (l F (s 10))⟩,⟨S 12,N,k 145 [s 11]⟩,⟨S 13,N,k 144 [s 12,(c (.fn (.func 146) [] []))]⟩,⟨S 14,N,v (w (s 13))⟩,⟨S 15,N,v (m (c (I j 0)))⟩]
abbrev g131r2:List aA:=[⟨S 16,N,v (b .lss (s 15) (s 14))⟩]
abbrev g131r3:List aA:=[⟨S 17,N,v (i (.agg 3) (s 13) (s 15))⟩,⟨S 18,N,v (l (.agg 3) (s 17))⟩,⟨S 4,N,x (.agg 3) (c (.agg [(I j 0),(I j 0),(I j 0)]))⟩,⟨N,N,t (.agg 3) (s 4) (s 18)⟩]
abbrev g131r4:List (aA×List Nat):=[(⟨S 19,N,v (l F (s 1))⟩,[]),(⟨S 20,N,v (n (s 19))⟩,[0]),(⟨S 21,N,v (f 3 (s 20))⟩,[0,1]),(⟨S 22,N,v (l F (s 21))⟩,[0,1,2]),(⟨S 23,N,v (l (.agg 3) (s 4))⟩,[]),(⟨S 24,N,v (.mget (.agg 3) [.int,.int,.int] (I j 0) false (s 22) (s 23))⟩,[0,1,2,3,4]),(⟨S 5,N,v (m (s 24))⟩,[0,1,2,3,4,5])]
abbrev g131r4t:List aA:=[]
abbrev g131r5:List aA:=[⟨S 25,N,v (m (s 5))⟩,⟨S 26,N,v (b .gtr (s 25) (c (I j 0)))⟩,⟨S 27,N,v (m (s 26))⟩,⟨S 28,S (27,true),v (m (s 0))⟩,⟨S 29,S (27,true),v (l (.agg 3) (s 4))⟩,⟨S 30,S (27,true),v (m (s 5))⟩,⟨S 31,S (27,true),.callv (s 28) [s 29,s 30]⟩,⟨S 32,S (27,true),v (.not (s 31))⟩,⟨S 33,N,v (p (s 27) (s 32) (c (.bool false)))⟩]
abbrev g131r6:List aA:=[⟨S 34,N,v (b .add (s 15) (c (I j 1)))⟩,⟨S 15,N,v (m (s 34))⟩]
abbrev g131l0:bB:=(Q (O g131r2) (Q (C (s 16) Z (X 0)) (Q (K 1 (Q (O g131r3) (Q (D 7 g131r4 g131r4t) (Q (O g131r5) (C (s 33) .ret Z))))) (O g131r6))))
def count_Counts_Active_1:LFn:=⟨(Q (Q (O g131r0) (C (s 7) .ret Z)) (Q (O g131r1) (K 0 (R g131l0)))),35,[]⟩
theorem count_Counts_Active_1_low:aG Tryz.prog 143=some count_Counts_Active_1:=by kernel_rfl
abbrev g134r0:List aA:=[⟨S 2,N,x (.agg 3) (s 0)⟩,⟨S 3,N,x (.agg 3) (s 1)⟩,⟨S 4,N,v (m (c (I j 0)))⟩]
abbrev g134r1:List (aA×List Nat):=[(⟨S 5,N,v (f 0 (s 2))⟩,[]),(⟨S 6,N,v (l F (s 5))⟩,[0]),(⟨S 7,N,v (f 0 (s 3))⟩,[]),(⟨S 8,N,v (l F (s 7))⟩,[2]),(⟨S 9,N,k 165 [s 6,s 8]⟩,[0,1,2,3]),(⟨S 10,N,v (f 1 (s 2))⟩,[]),(⟨S 11,N,v (l (.agg 2) (s 10))⟩,[5]),(⟨S 12,N,v (f 1 (s 3))⟩,[]),(⟨S 13,N,v (l (.agg 2) (s 12))⟩,[7]),(⟨S 14,N,k 192 [s 11,s 13]⟩,[0,1,2,3,4,5,6,7,8]),(⟨S 15,N,y F [s 9,s 14]⟩,[0,1,2,3,4,5,6,7,8,9]),(⟨S 16,N,k 163 [s 15]⟩,[0,1,2,3,4,5,6,7,8,9,10]),(⟨S 4,N,v (m (s 16))⟩,[0,1,2,3,4,5,6,7,8,9,10,11])]
abbrev g134r1t:List aA:=[]
def count_Compare:LFn:=⟨(Q (O g134r0) (Q (D 13 g134r1 g134r1t) .ret)),17,[.slot 4]⟩
theorem count_Compare_low:aG Tryz.prog 146=some count_Compare:=by kernel_rfl
abbrev g135r0:List aA:=[⟨S 2,N,x (.agg 2) (s 0)⟩,⟨S 3,N,x (.agg 2) (s 1)⟩,⟨S 4,N,x (.agg 2) (c (.agg [(I j 0),(I j 0)]))⟩,⟨S 5,N,v (m (c .nilIface))⟩]
abbrev g135r1:List aA:=[⟨S 7,N,v (l (.agg 2) (s 2))⟩,⟨S 8,N,k 177 [s 7]⟩,⟨S 9,N,v (.not (s 8))⟩,⟨S 10,N,v (m (s 9))⟩,⟨S 11,S (10,false),v (l (.agg 2) (s 3))⟩,⟨S 12,S (10,false),k 73 [s 11]⟩,⟨S 13,S (10,false),v (.not (s 12))⟩,⟨S 14,N,v (p (s 10) (c (.bool true)) (s 13))⟩]
abbrev g135r2:List aA:=[⟨S 15,N,v (.build [(I j 0),(I j 0)] [])⟩,⟨S 16,N,v (.mkif 48 (c (I j 2)))⟩,⟨N,N,t (.agg 2) (s 4) (s 15)⟩,⟨S 5,N,v (m (s 16))⟩]
abbrev g135r3:List aA:=[⟨S 17,N,v (f 0 (s 3))⟩,⟨S 18,N,v (l F (s 17))⟩,⟨S 19,N,v (f 1 (s 2))⟩,⟨S 20,N,v (l F (s 19))⟩,⟨S 21,N,v (.build [(I j 0),(I j 0)] [(0,F,(s 18)),(1,F,(s 20))])⟩,⟨S 6,N,x (.agg 2) (c (.agg [(I j 0),(I j 0)]))⟩,⟨N,N,t (.agg 2) (s 6) (s 21)⟩]
abbrev g135r4:List aA:=[⟨S 22,N,v (f 0 (s 2))⟩,⟨S 23,N,v (l F (s 22))⟩,⟨S 24,N,v (.not (s 23))⟩]
abbrev g135r5:List aA:=[⟨S 25,N,v (f 1 (s 6))⟩,⟨S 26,N,v (l F (s 25))⟩,⟨S 27,N,v (f 1 (s 3))⟩,⟨S 28,N,v (l F (s 27))⟩,⟨S 29,N,v (b .add (s 26) (s 28))⟩,⟨S 30,N,v (f 1 (s 6))⟩,⟨N,N,t F (s 30) (s 29)⟩]
abbrev g135r6:List aA:=[⟨S 31,N,v (l (.agg 2) (s 6))⟩,⟨S 32,N,k 73 [s 31]⟩,⟨S 33,N,v (.not (s 32))⟩]
abbrev g135r7:List aA:=[⟨S 34,N,v (.build [(I j 0),(I j 0)] [])⟩,⟨S 35,N,v (.mkif 48 (c (I j 1)))⟩,⟨N,N,t (.agg 2) (s 4) (s 34)⟩,⟨S 5,N,v (m (s 35))⟩]
abbrev g135r8:List aA:=[⟨S 36,N,v (l (.agg 2) (s 6))⟩,⟨N,N,t (.agg 2) (s 4) (s 36)⟩,⟨S 5,N,v (m (c .nilIface))⟩]
def stamp_Path_Of:LFn:=⟨(Q (O g135r0) (Q (Q (O g135r1) (C (s 14) (Q (O g135r2) .ret) Z)) (Q (O g135r3) (Q (Q (O g135r4) (C (s 24) (O g135r5) Z)) (Q (Q (O g135r6) (C (s 33) (Q (O g135r7) .ret) Z)) (Q (O g135r8) .ret)))))),37,[.cell 4 (.agg 2),.slot 5]⟩
theorem stamp_Path_Of_low:aG Tryz.prog 147=some stamp_Path_Of:=by kernel_rfl
abbrev g136r0:List aA:=[⟨S 2,N,v (m (c (.sl (.agg 2) .nil [])))⟩]
abbrev g136r1:List aA:=[⟨S 3,N,v (m (c (.sl (.agg 2) .nil [])))⟩]
abbrev g136r2:List aA:=[⟨S 6,N,v (m (s 0))⟩,⟨S 7,N,k 194 [s 6]⟩,⟨S 8,N,k 193 [s 7,(c (.fn (.func 192) [] []))]⟩,⟨S 9,N,v (w (s 8))⟩,⟨S 10,N,v (m (c (I j 0)))⟩]
abbrev g136r3:List aA:=[⟨S 11,N,v (b .lss (s 10) (s 9))⟩]
abbrev g136r4:List aA:=[⟨S 12,N,v (i (.agg 2) (s 8) (s 10))⟩,⟨S 13,N,v (l (.agg 2) (s 12))⟩,⟨S 5,N,x (.agg 2) (c (.agg [(I j 0),(I j 0)]))⟩,⟨N,N,t (.agg 2) (s 5) (s 13)⟩]
abbrev g136r5:List aA:=[⟨S 14,N,v (l (.agg 2) (s 5))⟩,⟨S 15,N,k 73 [s 14]⟩,⟨S 16,N,v (m (s 15))⟩,⟨S 17,S (16,true),v (m (s 3))⟩,⟨S 18,S (16,true),v (l (.agg 2) (s 5))⟩,⟨S 19,S (16,true),k 156 [s 17,s 18]⟩,⟨S 20,S (16,true),v (.not (s 19))⟩,⟨S 21,N,v (p (s 16) (s 20) (c (.bool false)))⟩]
abbrev g136r6:List aA:=[⟨S 22,N,v (m (s 3))⟩,⟨S 23,N,v (l (.agg 2) (s 5))⟩,⟨S 24,N,y (.agg 2) [s 23]⟩,⟨S 25,N,a (.agg 2) 16 (s 22) (s 24)⟩,⟨S 3,N,v (m (s 25))⟩]
abbrev g136r7:List aA:=[⟨S 26,N,v (b .add (s 10) (c (I j 1)))⟩,⟨S 10,N,v (m (s 26))⟩]
abbrev g136l0:bB:=(Q (O g136r3) (Q (C (s 11) Z (X 0)) (Q (K 1 (Q (O g136r4) (Q (O g136r5) (C (s 21) (O g136r6) Z)))) (O g136r7))))
abbrev g136r8:List aA:=[⟨S 27,N,v (m (s 3))⟩,⟨S 2,N,v (m (s 27))⟩]
def chain_Of:LFn:=⟨(Q (O g136r0) (Q (O g136r1) (Q (Q (O g136r2) (K 0 (R g136l0))) (Q (O g136r8) .ret)))),28,[.slot 2]⟩
theorem chain_Of_low:aG Tryz.prog 148=some chain_Of:=by kernel_rfl
abbrev g137r0:List aA:=[⟨S 3,N,x (.agg 2) (s 0)⟩,⟨S 6,N,v (m (c (.sl (.agg 2) .nil [])))⟩]
abbrev g137r1:List aA:=[⟨S 7,N,v (l (.agg 2) (s 3))⟩,⟨S 8,N,k 19 [s 7]⟩,⟨S 9,N,v (.not (s 8))⟩,⟨S 10,N,v (m (s 9))⟩,⟨S 11,S (10,false),v (m (s 1))⟩,⟨S 12,S (10,false),v (b .lss (s 11) (c (I j 0)))⟩,⟨S 13,N,v (p (s 10) (c (.bool true)) (s 12))⟩,⟨S 14,N,v (m (s 13))⟩,⟨S 15,S (14,false),v (m (s 2))⟩,⟨S 16,S (14,false),v (b .lss (s 15) (c (I j 0)))⟩,⟨S 17,N,v (p (s 14) (c (.bool true)) (s 16))⟩,⟨S 18,N,v (m (s 17))⟩,⟨S 19,S (18,false),v (m (s 1))⟩,⟨S 20,S (18,false),v (f 0 (s 3))⟩,⟨S 21,S (18,false),v (l F (s 20))⟩,⟨S 22,S (18,false),v (b .geq (s 19) (s 21))⟩,⟨S 23,N,v (p (s 18) (c (.bool true)) (s 22))⟩,⟨S 24,N,v (m (s 23))⟩,⟨S 25,S (24,false),v (m (s 2))⟩,⟨S 26,S (24,false),v (f 0 (s 3))⟩,⟨S 27,S (24,false),v (l F (s 26))⟩,⟨S 28,S (24,false),v (b .geq (s 25) (s 27))⟩,⟨S 29,N,v (p (s 24) (c (.bool true)) (s 28))⟩]
abbrev g137r2:List aA:=[⟨S 6,N,v (m (c (.sl (.agg 2) .nil [])))⟩]
abbrev g137r3:List aA:=[⟨S 30,N,v (l (.agg 2) (s 3))⟩,⟨S 31,N,v (m (s 1))⟩,⟨S 32,N,k 195 [s 30,s 31]⟩,⟨S 33,N,v (m (s 2))⟩,⟨S 34,N,v (i F (s 32) (s 33))⟩,⟨S 35,N,v (l F (s 34))⟩,⟨S 6,N,v (m (s 35))⟩]
def corollaryref22_Least:LFn:=⟨(Q (O g137r0) (Q (Q (O g137r1) (C (s 29) (Q (O g137r2) .ret) Z)) (Q (O g137r3) .ret))),36,[.slot 6]⟩
theorem corollaryref22_Least_low:aG Tryz.prog 149=some corollaryref22_Least:=by kernel_rfl
abbrev g138r0:List aA:=[⟨S 2,N,x (.agg 2) (s 0)⟩,⟨S 3,N,x (.agg 2) (s 1)⟩,⟨S 4,N,x (.agg 2) (c (.agg [(I j 0),(I j 0)]))⟩,⟨S 5,N,v (m (c (I j 0)))⟩]
abbrev g138r1:List aA:=[⟨S 7,N,v (l (.agg 2) (s 2))⟩,⟨S 8,N,k 136 [s 7]⟩,⟨S 9,N,v (.not (s 8))⟩,⟨S 10,N,v (m (s 9))⟩,⟨S 11,S (10,false),v (l (.agg 2) (s 3))⟩,⟨S 12,S (10,false),k 78 [s 11]⟩,⟨S 13,S (10,false),v (.not (s 12))⟩,⟨S 14,N,v (p (s 10) (c (.bool true)) (s 13))⟩]
abbrev g138r2:List aA:=[⟨S 15,N,v (.build [(I j 0),(I j 0)] [])⟩,⟨N,N,t (.agg 2) (s 4) (s 15)⟩,⟨S 5,N,v (m (c (I j 2)))⟩]
abbrev g138r3:List aA:=[⟨S 16,N,v (f 1 (s 3))⟩,⟨S 17,N,v (l F (s 16))⟩,⟨S 6,N,v (m (s 17))⟩]
abbrev g138r4:List aA:=[⟨S 18,N,v (f 0 (s 2))⟩,⟨S 19,N,v (l F (s 18))⟩]
abbrev g138r5:List aA:=[⟨S 6,N,v (m (c (I j 0)))⟩]
abbrev g138r6:List aA:=[⟨S 20,N,v (m (s 6))⟩,⟨S 21,N,v (f 1 (s 2))⟩,⟨S 22,N,v (l F (s 21))⟩,⟨S 23,N,v (b .add (s 20) (s 22))⟩,⟨S 24,N,v (b .gtr (s 23) (c (I j 1048576)))⟩]
abbrev g138r7:List aA:=[⟨S 25,N,v (.build [(I j 0),(I j 0)] [])⟩,⟨N,N,t (.agg 2) (s 4) (s 25)⟩,⟨S 5,N,v (m (c (I j 1)))⟩]
abbrev g138r8:List aA:=[⟨S 26,N,v (f 0 (s 3))⟩,⟨S 27,N,v (l F (s 26))⟩,⟨S 28,N,v (m (s 6))⟩,⟨S 29,N,v (f 1 (s 2))⟩,⟨S 30,N,v (l F (s 29))⟩,⟨S 31,N,v (b .add (s 28) (s 30))⟩,⟨S 32,N,v (.build [(I j 0),(I j 0)] [(0,F,(s 27)),(1,F,(s 31))])⟩,⟨N,N,t (.agg 2) (s 4) (s 32)⟩,⟨S 5,N,v (m (c (I j 0)))⟩]
def corollaryref20_Of:LFn:=⟨(Q (O g138r0) (Q (Q (O g138r1) (C (s 14) (Q (O g138r2) .ret) Z)) (Q (O g138r3) (Q (Q (O g138r4) (C (s 19) (O g138r5) Z)) (Q (Q (O g138r6) (C (s 24) (Q (O g138r7) .ret) Z)) (Q (O g138r8) .ret)))))),33,[.cell 4 (.agg 2),.slot 5]⟩
theorem corollaryref20_Of_low:aG Tryz.prog 150=some corollaryref20_Of:=by kernel_rfl
abbrev corollaryref20_AtMost_r0:List aA:=[⟨S 2,N,x (.agg 2) (s 0)⟩,⟨S 3,N,x (.agg 2) (s 1)⟩,⟨S 4,N,v (m (c (.bool false)))⟩]
abbrev corollaryref20_AtMost_r1:List aA:=[⟨S 5,N,v (f 0 (s 2))⟩,⟨S 6,N,v (l F (s 5))⟩,⟨S 7,N,v (f 0 (s 3))⟩,⟨S 8,N,v (l F (s 7))⟩,⟨S 9,N,v (b .gtr (s 6) (s 8))⟩,⟨S 10,N,v (.not (s 9))⟩,⟨S 11,N,v (m (s 10))⟩,⟨S 12,S (11,true),v (f 1 (s 2))⟩,⟨S 13,S (11,true),v (l F (s 12))⟩,⟨S 14,S (11,true),v (f 1 (s 3))⟩,⟨S 15,S (11,true),v (l F (s 14))⟩,⟨S 16,S (11,true),v (b .gtr (s 13) (s 15))⟩,⟨S 17,S (11,true),v (.not (s 16))⟩,⟨S 18,N,v (p (s 11) (s 17) (c (.bool false)))⟩,⟨S 4,N,v (m (s 18))⟩]
def corollaryref20_AtMost:LFn:=⟨(Q (O corollaryref20_AtMost_r0) (Q (O corollaryref20_AtMost_r1) .ret)),19,[.slot 4]⟩
theorem corollaryref20_AtMost_low:aG Tryz.prog 151=some corollaryref20_AtMost:=by kernel_rfl
abbrev corollaryref20_Less_r0:List aA:=[⟨S 2,N,x (.agg 2) (s 0)⟩,⟨S 3,N,x (.agg 2) (s 1)⟩,⟨S 4,N,v (m (c (.bool false)))⟩]
abbrev corollaryref20_Less_r1:List aA:=[⟨S 5,N,v (f 0 (s 2))⟩,⟨S 6,N,v (l F (s 5))⟩,⟨S 7,N,v (f 0 (s 3))⟩,⟨S 8,N,v (l F (s 7))⟩,⟨S 9,N,v (b .lss (s 6) (s 8))⟩,⟨S 10,N,v (m (s 9))⟩,⟨S 11,S (10,false),v (f 0 (s 2))⟩,⟨S 12,S (10,false),v (l F (s 11))⟩,⟨S 13,S (10,false),v (f 0 (s 3))⟩,⟨S 14,S (10,false),v (l F (s 13))⟩,⟨S 15,S (10,false),v (b .eql (s 12) (s 14))⟩,⟨S 16,S (10,false),v (m (s 15))⟩,⟨S 17,S (16,true),v (f 1 (s 2))⟩,⟨S 18,S (16,true),v (l F (s 17))⟩,⟨S 19,S (16,true),v (f 1 (s 3))⟩,⟨S 20,S (16,true),v (l F (s 19))⟩,⟨S 21,S (16,true),v (b .lss (s 18) (s 20))⟩,⟨S 22,S (10,false),v (p (s 16) (s 21) (c (.bool false)))⟩,⟨S 23,N,v (p (s 10) (c (.bool true)) (s 22))⟩,⟨S 4,N,v (m (s 23))⟩]
def corollaryref20_Less:LFn:=⟨(Q (O corollaryref20_Less_r0) (Q (O corollaryref20_Less_r1) .ret)),24,[.slot 4]⟩
theorem corollaryref20_Less_low:aG Tryz.prog 152=some corollaryref20_Less:=by kernel_rfl
abbrev slices_ContainsFunc_stamp_Time_stamp_Time_r0:List aA:=[⟨S 4,N,v (m (c (.bool false)))⟩]
abbrev slices_ContainsFunc_stamp_Time_stamp_Time_r1:List aA:=[⟨S 5,N,v (m (s 0))⟩,⟨S 6,N,v (m (s 1))⟩,⟨S 7,N,k 196 [s 5,s 6]⟩,⟨S 8,N,v (b .geq (s 7) (c (I j 0)))⟩,⟨S 4,N,v (m (s 8))⟩]
def slices_ContainsFunc_stamp_Time_stamp_Time:LFn:=⟨(Q (O slices_ContainsFunc_stamp_Time_stamp_Time_r0) (Q (O slices_ContainsFunc_stamp_Time_stamp_Time_r1) .ret)),9,[.slot 4]⟩
theorem slices_ContainsFunc_stamp_Time_stamp_Time_low:aG Tryz.prog 154=some slices_ContainsFunc_stamp_Time_stamp_Time:=by kernel_rfl
abbrev chain_Reaches_r0:List aA:=[⟨S 3,N,x (.agg 2) (s 1)⟩,⟨S 4,N,v (m (c (.bool false)))⟩]
abbrev chain_Reaches_r1:List aA:=[⟨S 5,N,v (m (s 0))⟩,⟨S 6,N,v (.mkfn (.func 197) [] [s 3])⟩,⟨S 7,N,k 154 [s 5,s 6]⟩,⟨S 4,N,v (m (s 7))⟩]
def chain_Reaches:LFn:=⟨(Q (O chain_Reaches_r0) (Q (O chain_Reaches_r1) .ret)),8,[.slot 4]⟩
theorem chain_Reaches_low:aG Tryz.prog 156=some chain_Reaches:=by kernel_rfl
abbrev stamp_AtMost_r0:List aA:=[⟨S 2,N,x (.agg 2) (s 0)⟩,⟨S 3,N,x (.agg 2) (s 1)⟩,⟨S 4,N,v (m (c (.bool false)))⟩]
abbrev stamp_AtMost_r1:List aA:=[⟨S 5,N,v (f 0 (s 2))⟩,⟨S 6,N,v (l F (s 5))⟩,⟨S 7,N,v (f 0 (s 3))⟩,⟨S 8,N,v (l F (s 7))⟩,⟨S 9,N,v (b .leq (s 6) (s 8))⟩,⟨S 10,N,v (m (s 9))⟩,⟨S 11,S (10,true),v (f 1 (s 2))⟩,⟨S 12,S (10,true),v (l F (s 11))⟩,⟨S 13,S (10,true),v (f 1 (s 3))⟩,⟨S 14,S (10,true),v (l F (s 13))⟩,⟨S 15,S (10,true),v (b .leq (s 12) (s 14))⟩,⟨S 16,N,v (p (s 10) (s 15) (c (.bool false)))⟩,⟨S 4,N,v (m (s 16))⟩]
def stamp_AtMost:LFn:=⟨(Q (O stamp_AtMost_r0) (Q (O stamp_AtMost_r1) .ret)),17,[.slot 4]⟩
theorem stamp_AtMost_low:aG Tryz.prog 158=some stamp_AtMost:=by kernel_rfl
abbrev g159r0:List aA:=[⟨S 1,N,x (.agg 2) (s 0)⟩,⟨S 2,N,v (m (c (.bool false)))⟩]
abbrev g159r1:List aA:=[⟨S 3,N,v (f 1 (s 1))⟩,⟨S 4,N,v (l F (s 3))⟩,⟨S 5,N,k 140 [s 4,(c (I j 1048576))]⟩,⟨S 2,N,v (m (s 5))⟩]
def stamp_RightPath:LFn:=⟨(Q (O g159r0) (Q (O g159r1) .ret)),6,[.slot 2]⟩
theorem stamp_RightPath_low:aG Tryz.prog 177=some stamp_RightPath:=by kernel_rfl
abbrev g164r0:List aA:=[⟨S 2,N,v (m (c (I j 0)))⟩]
abbrev g164r1:List aA:=[⟨S 3,N,v (m (s 0))⟩]
abbrev g164r2:List aA:=[⟨S 2,N,v (m (c (I j 1)))⟩]
abbrev g164r3:List aA:=[⟨S 2,N,v (m (c (I j 0)))⟩]
def path_number:LFn:=⟨(Q (O g164r0) (Q (Q (O g164r1) (C (s 3) (Q (O g164r2) .ret) Z)) (Q (O g164r3) .ret))),4,[.slot 2]⟩
theorem path_number_low:aG Tryz.prog 182=some path_number:=by kernel_rfl
abbrev g165r0:List aA:=[⟨S 3,N,x (.agg 4) (s 0)⟩,⟨S 4,N,v (m (c (.bool false)))⟩]
abbrev g165r1:List aA:=[⟨S 5,N,v (f 2 (s 3))⟩,⟨S 6,N,v (f 0 (s 5))⟩,⟨S 7,N,v (l F (s 6))⟩,⟨S 8,N,v (m (s 7))⟩,⟨S 9,S (8,true),v (l F (s 1))⟩,⟨S 10,S (8,true),v (l F (s 2))⟩,⟨S 11,S (8,true),v (f 1 (s 3))⟩,⟨S 12,S (8,true),v (l F (s 11))⟩,⟨S 13,S (8,true),v (f 0 (s 3))⟩,⟨S 14,S (8,true),v (l F (s 13))⟩,⟨S 15,S (8,true),k 184 [s 9,s 10,s 12,s 14]⟩,⟨S 16,N,v (p (s 8) (s 15) (c (.bool false)))⟩,⟨S 4,N,v (m (s 16))⟩]
def path_turns_1:LFn:=⟨(Q (O g165r0) (Q (O g165r1) .ret)),17,[.slot 4]⟩
theorem path_turns_1_low:aG Tryz.prog 183=some path_turns_1:=by kernel_rfl
abbrev g166r0:List aA:=[⟨S 8,N,v (m (c (.bool false)))⟩]
abbrev g166r1:List aA:=[⟨S 13,N,v (m (s 0))⟩,⟨S 14,N,.mkz F 1 (s 13) (.bool false)⟩,⟨S 9,N,v (m (s 14))⟩]
abbrev g166r2:List aA:=[⟨S 15,N,v (m (s 2))⟩,⟨S 16,N,y F [s 15]⟩,⟨S 10,N,v (m (s 16))⟩]
abbrev g166r3:List aA:=[⟨S 17,N,v (m (s 10))⟩,⟨S 18,N,v (w (s 17))⟩,⟨S 19,N,v (b .gtr (s 18) (c (I j 0)))⟩]
abbrev g166r4:List aA:=[⟨S 22,N,v (m (s 10))⟩,⟨S 23,N,v (i F (s 22) (c (I j 0)))⟩,⟨S 24,N,v (l F (s 23))⟩,⟨S 25,N,v (m (s 3))⟩,⟨S 26,N,v (b .eql (s 24) (s 25))⟩]
abbrev g166r5:List aA:=[⟨S 8,N,v (m (c (.bool true)))⟩]
abbrev g166r6:List aA:=[⟨S 27,N,v (m (s 1))⟩,⟨S 28,N,v (w (s 27))⟩,⟨S 29,N,v (m (c (I j 0)))⟩]
abbrev g166r7:List aA:=[⟨S 30,N,v (b .lss (s 29) (s 28))⟩]
abbrev g166r8:List aA:=[⟨S 31,N,v (i (.agg 4) (s 27) (s 29))⟩,⟨S 32,N,v (l (.agg 4) (s 31))⟩,⟨S 12,N,x (.agg 4) (c (.agg [(I j 0),(I j 0),(.bool false),(I j 0)]))⟩,⟨N,N,t (.agg 4) (s 12) (s 32)⟩]
abbrev g166r9:List (aA×List Nat):=[(⟨S 33,N,v (f 0 (s 12))⟩,[]),(⟨S 34,N,v (l F (s 33))⟩,[0]),(⟨S 35,N,v (m (s 10))⟩,[]),(⟨S 36,N,v (i F (s 35) (c (I j 0)))⟩,[2]),(⟨S 37,N,v (l F (s 36))⟩,[2,3]),(⟨S 38,N,v (b .eql (s 34) (s 37))⟩,[0,1,2,3,4]),(⟨S 39,N,v (m (s 38))⟩,[0,1,2,3,4,5]),(⟨S 40,S (39,true),v (m (s 9))⟩,[0,1,2,3,4,5,6]),(⟨S 41,S (39,true),v (f 1 (s 12))⟩,[0,1,2,3,4,5,6]),(⟨S 42,S (39,true),v (l F (s 41))⟩,[0,1,2,3,4,5,6,8]),(⟨S 43,S (39,true),v (i F (s 40) (s 42))⟩,[0,1,2,3,4,5,6,7,8,9]),(⟨S 44,S (39,true),v (l F (s 43))⟩,[0,1,2,3,4,5,6,7,8,9,10]),(⟨S 45,S (39,true),v (.not (s 44))⟩,[0,1,2,3,4,5,6,7,8,9,10,11]),(⟨S 46,N,v (p (s 39) (s 45) (c (.bool false)))⟩,[0,1,2,3,4,5,6,7,8,9,10,11,12])]
abbrev g166r9t:List aA:=[]
abbrev g166r10:List aA:=[⟨S 47,N,v (m (s 9))⟩,⟨S 48,N,v (f 1 (s 12))⟩,⟨S 49,N,v (l F (s 48))⟩,⟨S 50,N,v (i F (s 47) (s 49))⟩,⟨N,N,t F (s 50) (c (.bool true))⟩]
abbrev g166r11:List aA:=[⟨S 51,N,v (m (s 10))⟩,⟨S 52,N,v (f 1 (s 12))⟩,⟨S 53,N,v (l F (s 52))⟩,⟨S 54,N,y F [s 53]⟩,⟨S 55,N,a F 8 (s 51) (s 54)⟩,⟨S 10,N,v (m (s 55))⟩]
abbrev g166r12:List aA:=[⟨S 56,N,v (b .add (s 29) (c (I j 1)))⟩,⟨S 29,N,v (m (s 56))⟩]
abbrev g166l0:bB:=(Q (O g166r7) (Q (C (s 30) Z (X 2)) (Q (K 3 (Q (O g166r8) (Q (D 14 g166r9 g166r9t) (C (s 46) (Q (O g166r10) (O g166r11)) Z)))) (O g166r12))))
abbrev g166r13:List aA:=[⟨S 20,N,v (m (s 10))⟩,⟨S 21,N,v (.slc F (s 20) (.some (c (I j 1))) .none .none)⟩,⟨S 10,N,v (m (s 21))⟩]
abbrev g166l1:bB:=(Q (Q (O g166r3) (C (s 19) Z (X 0))) (Q (K 1 (Q (Q (O g166r4) (C (s 26) (Q (O g166r5) .ret) Z)) (Q (O g166r6) (K 2 (R g166l0))))) (O g166r13)))
abbrev g166r14:List aA:=[⟨S 8,N,v (m (c (.bool false)))⟩]
def path_reaches:LFn:=⟨(Q (O g166r0) (Q (O g166r1) (Q (Q (O g166r2) (K 0 (R g166l1))) (Q (O g166r14) .ret)))),57,[.slot 8]⟩
theorem path_reaches_low:aG Tryz.prog 184=some path_reaches:=by kernel_rfl
abbrev g168r0:List aA:=[⟨S 2,N,x (.agg 2) (s 0)⟩,⟨S 3,N,x (.agg 2) (s 1)⟩,⟨S 4,N,x (.agg 2) (c (.agg [(.bool false),(I j 0)]))⟩,⟨S 5,N,v (m (c .nilIface))⟩]
abbrev g168r1:List aA:=[⟨S 7,N,v (l (.agg 2) (s 2))⟩,⟨S 8,N,k 177 [s 7]⟩,⟨S 9,N,v (.not (s 8))⟩,⟨S 10,N,v (m (s 9))⟩,⟨S 11,S (10,false),v (l (.agg 2) (s 3))⟩,⟨S 12,S (10,false),k 177 [s 11]⟩,⟨S 13,S (10,false),v (.not (s 12))⟩,⟨S 14,N,v (p (s 10) (c (.bool true)) (s 13))⟩]
abbrev g168r2:List aA:=[⟨S 15,N,v (.build [(.bool false),(I j 0)] [])⟩,⟨S 16,N,v (.mkif 48 (c (I j 2)))⟩,⟨N,N,t (.agg 2) (s 4) (s 15)⟩,⟨S 5,N,v (m (s 16))⟩]
abbrev g168r3:List aA:=[⟨S 17,N,v (f 0 (s 3))⟩,⟨S 18,N,v (l F (s 17))⟩]
abbrev g168r4:List aA:=[⟨S 19,N,v (l (.agg 2) (s 3))⟩,⟨N,N,t (.agg 2) (s 4) (s 19)⟩,⟨S 5,N,v (m (c .nilIface))⟩]
abbrev g168r5:List aA:=[⟨S 20,N,v (f 0 (s 2))⟩,⟨S 21,N,v (l F (s 20))⟩,⟨S 22,N,v (f 1 (s 2))⟩,⟨S 23,N,v (l F (s 22))⟩,⟨S 24,N,v (f 1 (s 3))⟩,⟨S 25,N,v (l F (s 24))⟩,⟨S 26,N,v (b .add (s 23) (s 25))⟩,⟨S 27,N,v (.build [(.bool false),(I j 0)] [(0,F,(s 21)),(1,F,(s 26))])⟩,⟨S 6,N,x (.agg 2) (c (.agg [(.bool false),(I j 0)]))⟩,⟨N,N,t (.agg 2) (s 6) (s 27)⟩]
abbrev g168r6:List aA:=[⟨S 28,N,v (l (.agg 2) (s 6))⟩,⟨S 29,N,k 177 [s 28]⟩,⟨S 30,N,v (.not (s 29))⟩]
abbrev g168r7:List aA:=[⟨S 31,N,v (.build [(.bool false),(I j 0)] [])⟩,⟨S 32,N,v (.mkif 48 (c (I j 1)))⟩,⟨N,N,t (.agg 2) (s 4) (s 31)⟩,⟨S 5,N,v (m (s 32))⟩]
abbrev g168r8:List aA:=[⟨S 33,N,v (l (.agg 2) (s 6))⟩,⟨N,N,t (.agg 2) (s 4) (s 33)⟩,⟨S 5,N,v (m (c .nilIface))⟩]
def stamp_Path_Then:LFn:=⟨(Q (O g168r0) (Q (Q (O g168r1) (C (s 14) (Q (O g168r2) .ret) Z)) (Q (Q (O g168r3) (C (s 18) (Q (O g168r4) .ret) Z)) (Q (O g168r5) (Q (Q (O g168r6) (C (s 30) (Q (O g168r7) .ret) Z)) (Q (O g168r8) .ret)))))),34,[.cell 4 (.agg 2),.slot 5]⟩
theorem stamp_Path_Then_low:aG Tryz.prog 186=some stamp_Path_Then:=by kernel_rfl
abbrev g169r0:List aA:=[⟨S 3,N,x (.agg 2) (s 1)⟩,⟨S 4,N,v (m (c (.sl (.agg 2) .nil [])))⟩,⟨S 5,N,v (m (c (.bool false)))⟩]
abbrev g169r1:List aA:=[⟨S 6,N,v (m (s 0))⟩,⟨S 7,N,v (.mkfn (.func 214) [] [s 3])⟩,⟨S 8,N,k 159 [s 6,s 7]⟩]
abbrev g169r2:List aA:=[⟨S 9,N,v (m (s 0))⟩,⟨S 4,N,v (m (s 9))⟩,⟨S 5,N,v (m (c (.bool false)))⟩]
abbrev g169r3:List aA:=[⟨S 10,N,v (m (s 0))⟩,⟨S 11,N,v (.mkfn (.func 217) [] [s 3])⟩,⟨S 12,N,k 216 [s 10,s 11]⟩,⟨S 0,N,v (m (s 12))⟩]
abbrev g169r4:List aA:=[⟨S 13,N,v (m (s 0))⟩,⟨S 14,N,v (l (.agg 2) (s 3))⟩,⟨S 15,N,y (.agg 2) [s 14]⟩,⟨S 16,N,a (.agg 2) 16 (s 13) (s 15)⟩,⟨S 0,N,v (m (s 16))⟩]
abbrev g169r5:List aA:=[⟨S 17,N,v (m (s 0))⟩,⟨S 18,N,k 218 [s 17,(c (.fn (.func 219) [] []))]⟩]
abbrev g169r6:List aA:=[⟨S 19,N,v (m (s 0))⟩,⟨S 4,N,v (m (s 19))⟩,⟨S 5,N,v (m (c (.bool true)))⟩]
def path_put:LFn:=⟨(Q (O g169r0) (Q (Q (O g169r1) (C (s 8) (Q (O g169r2) .ret) Z)) (Q (O g169r3) (Q (O g169r4) (Q (O g169r5) (Q (O g169r6) .ret)))))),20,[.slot 4,.slot 5]⟩
theorem path_put_low:aG Tryz.prog 187=some path_put:=by kernel_rfl
abbrev g170r0:List aA:=[⟨S 2,N,x (.agg 4) (s 0)⟩,⟨S 3,N,x (.agg 4) (s 1)⟩,⟨S 4,N,v (m (c (.bool false)))⟩]
abbrev g170r1:List aA:=[⟨S 5,N,v (f 0 (s 2))⟩,⟨S 6,N,v (l F (s 5))⟩,⟨S 7,N,v (f 0 (s 3))⟩,⟨S 8,N,v (l F (s 7))⟩,⟨S 9,N,v (b .neq (s 6) (s 8))⟩]
abbrev g170r2:List aA:=[⟨S 10,N,v (f 0 (s 2))⟩,⟨S 11,N,v (l F (s 10))⟩,⟨S 12,N,v (f 0 (s 3))⟩,⟨S 13,N,v (l F (s 12))⟩,⟨S 14,N,v (b .lss (s 11) (s 13))⟩,⟨S 4,N,v (m (s 14))⟩]
abbrev g170r3:List aA:=[⟨S 15,N,v (f 1 (s 2))⟩,⟨S 16,N,v (l F (s 15))⟩,⟨S 17,N,v (f 1 (s 3))⟩,⟨S 18,N,v (l F (s 17))⟩,⟨S 19,N,v (b .neq (s 16) (s 18))⟩]
abbrev g170r4:List aA:=[⟨S 20,N,v (f 1 (s 2))⟩,⟨S 21,N,v (l F (s 20))⟩,⟨S 22,N,v (f 1 (s 3))⟩,⟨S 23,N,v (l F (s 22))⟩,⟨S 24,N,v (b .lss (s 21) (s 23))⟩,⟨S 4,N,v (m (s 24))⟩]
abbrev g170r5:List aA:=[⟨S 25,N,v (f 2 (s 2))⟩,⟨S 26,N,v (f 0 (s 25))⟩,⟨S 27,N,v (l F (s 26))⟩,⟨S 28,N,v (f 2 (s 3))⟩,⟨S 29,N,v (f 0 (s 28))⟩,⟨S 30,N,v (l F (s 29))⟩,⟨S 31,N,v (e true (.plain F [.bool]) (s 27) (s 30))⟩]
abbrev g170r6:List aA:=[⟨S 32,N,v (f 2 (s 3))⟩,⟨S 33,N,v (f 0 (s 32))⟩,⟨S 34,N,v (l F (s 33))⟩,⟨S 4,N,v (m (s 34))⟩]
abbrev g170r7:List aA:=[⟨S 35,N,v (f 2 (s 2))⟩,⟨S 36,N,v (f 1 (s 35))⟩,⟨S 37,N,v (l F (s 36))⟩,⟨S 38,N,v (f 2 (s 3))⟩,⟨S 39,N,v (f 1 (s 38))⟩,⟨S 40,N,v (l F (s 39))⟩,⟨S 41,N,v (b .lss (s 37) (s 40))⟩,⟨S 4,N,v (m (s 41))⟩]
def corollaryref22_Less:LFn:=⟨(Q (O g170r0) (Q (Q (O g170r1) (C (s 9) (Q (O g170r2) .ret) Z)) (Q (Q (O g170r3) (C (s 19) (Q (O g170r4) .ret) Z)) (Q (Q (O g170r5) (C (s 31) (Q (O g170r6) .ret) Z)) (Q (O g170r7) .ret))))),42,[.slot 4]⟩
theorem corollaryref22_Less_low:aG Tryz.prog 188=some corollaryref22_Less:=by kernel_rfl
abbrev g174r0:List aA:=[⟨S 2,N,x (.agg 2) (s 0)⟩,⟨S 3,N,x (.agg 2) (s 1)⟩,⟨S 4,N,v (m (c (I j 0)))⟩]
abbrev g174r1:List (aA×List Nat):=[(⟨S 5,N,v (f 0 (s 2))⟩,[]),(⟨S 6,N,v (l F (s 5))⟩,[0]),(⟨S 7,N,v (f 0 (s 3))⟩,[]),(⟨S 8,N,v (l F (s 7))⟩,[2]),(⟨S 9,N,k 165 [s 6,s 8]⟩,[0,1,2,3]),(⟨S 10,N,v (f 1 (s 2))⟩,[]),(⟨S 11,N,v (l F (s 10))⟩,[5]),(⟨S 12,N,v (f 1 (s 3))⟩,[]),(⟨S 13,N,v (l F (s 12))⟩,[7]),(⟨S 14,N,k 165 [s 11,s 13]⟩,[0,1,2,3,4,5,6,7,8]),(⟨S 15,N,y F [s 9,s 14]⟩,[0,1,2,3,4,5,6,7,8,9]),(⟨S 16,N,k 163 [s 15]⟩,[0,1,2,3,4,5,6,7,8,9,10]),(⟨S 4,N,v (m (s 16))⟩,[0,1,2,3,4,5,6,7,8,9,10,11])]
abbrev g174r1t:List aA:=[]
def stamp_Compare:LFn:=⟨(Q (O g174r0) (Q (D 13 g174r1 g174r1t) .ret)),17,[.slot 4]⟩
theorem stamp_Compare_low:aG Tryz.prog 192=some stamp_Compare:=by kernel_rfl
abbrev g177r0:List aA:=[⟨S 2,N,x (.agg 2) (s 0)⟩,⟨S 4,N,v (m (c (.sl F .nil [])))⟩]
abbrev g177r1:List aA:=[⟨S 15,N,v (f 0 (s 2))⟩,⟨S 16,N,v (l F (s 15))⟩,⟨S 17,N,.mkz F 24 (s 16) (.sl (.agg 2) .nil [])⟩,⟨S 5,N,v (m (s 17))⟩]
abbrev g177r2:List aA:=[⟨S 18,N,v (m (s 5))⟩,⟨S 19,N,v (m (s 1))⟩,⟨S 20,N,v (.build [(.bool false),(I j 0)] [])⟩,⟨S 21,N,y (.agg 2) [s 20]⟩,⟨S 22,N,v (i F (s 18) (s 19))⟩,⟨N,N,t F (s 22) (s 21)⟩]
abbrev g177r3:List aA:=[⟨S 6,N,v (m (c (I j 0)))⟩]
abbrev g177r4:List aA:=[⟨S 23,N,v (m (s 6))⟩,⟨S 24,N,v (f 0 (s 2))⟩,⟨S 25,N,v (l F (s 24))⟩,⟨S 26,N,v (b .mul (c (I j 2)) (s 25))⟩,⟨S 27,N,v (b .leq (s 23) (s 26))⟩]
abbrev g177r5:List aA:=[⟨S 30,N,v (f 0 (s 2))⟩,⟨S 31,N,v (l F (s 30))⟩,⟨S 32,N,.mkz F 24 (s 31) (.sl (.agg 2) .nil [])⟩,⟨S 7,N,v (m (s 32))⟩]
abbrev g177r6:List aA:=[⟨S 8,N,v (m (c (I j 0)))⟩]
abbrev g177r7:List aA:=[⟨S 33,N,v (m (s 8))⟩,⟨S 34,N,v (f 0 (s 2))⟩,⟨S 35,N,v (l F (s 34))⟩,⟨S 36,N,v (b .lss (s 33) (s 35))⟩]
abbrev g177r8:List (aA×List Nat):=[(⟨S 39,N,v (m (s 7))⟩,[]),(⟨S 40,N,v (m (s 8))⟩,[]),(⟨S 41,N,v (m (s 7))⟩,[]),(⟨S 42,N,v (m (s 8))⟩,[]),(⟨S 43,N,v (i F (s 41) (s 42))⟩,[2,3]),(⟨S 44,N,v (l F (s 43))⟩,[2,3,4]),(⟨S 45,N,v (m (s 5))⟩,[]),(⟨S 46,N,v (m (s 8))⟩,[]),(⟨S 47,N,v (i F (s 45) (s 46))⟩,[6,7]),(⟨S 48,N,v (l F (s 47))⟩,[6,7,8]),(⟨S 49,N,a (.agg 2) 16 (s 44) (s 48)⟩,[2,3,4,5,6,7,8,9]),(⟨S 50,N,v (i F (s 39) (s 40))⟩,[0,1,2,3,4,5,6,7,8,9,10])]
abbrev g177r8t:List aA:=[⟨N,N,t F (s 50) (s 49)⟩]
abbrev g177r9:List aA:=[⟨S 37,N,v (m (s 8))⟩,⟨S 38,N,v (b .add (s 37) (c (I j 1)))⟩,⟨S 8,N,v (m (s 38))⟩]
abbrev g177l0:bB:=(Q (Q (O g177r7) (C (s 36) Z (X 2))) (Q (K 3 (D 12 g177r8 g177r8t)) (O g177r9)))
abbrev g177r10:List aA:=[⟨S 9,N,v (m (c (I j 0)))⟩]
abbrev g177r11:List aA:=[⟨S 51,N,v (m (s 9))⟩,⟨S 52,N,v (f 1 (s 2))⟩,⟨S 53,N,v (l F (s 52))⟩,⟨S 54,N,v (w (s 53))⟩,⟨S 55,N,v (b .lss (s 51) (s 54))⟩]
abbrev g177r12:List aA:=[⟨S 58,N,v (f 1 (s 2))⟩,⟨S 59,N,v (l F (s 58))⟩,⟨S 60,N,v (m (s 9))⟩,⟨S 61,N,v (i (.agg 4) (s 59) (s 60))⟩,⟨S 62,N,v (l (.agg 4) (s 61))⟩,⟨S 10,N,x (.agg 4) (c (.agg [(I j 0),(I j 0),(.bool false),(I j 0)]))⟩,⟨N,N,t (.agg 4) (s 10) (s 62)⟩]
abbrev g177r13:List aA:=[⟨S 11,N,v (m (c (I j 0)))⟩]
abbrev g177r14:List aA:=[⟨S 63,N,v (m (s 11))⟩,⟨S 64,N,v (m (s 5))⟩,⟨S 65,N,v (f 0 (s 10))⟩,⟨S 66,N,v (l F (s 65))⟩,⟨S 67,N,v (i F (s 64) (s 66))⟩,⟨S 68,N,v (l F (s 67))⟩,⟨S 69,N,v (w (s 68))⟩,⟨S 70,N,v (b .lss (s 63) (s 69))⟩]
abbrev g177r15:List (aA×List Nat):=[(⟨S 74,N,v (m (s 5))⟩,[]),(⟨S 75,N,v (f 0 (s 10))⟩,[]),(⟨S 76,N,v (l F (s 75))⟩,[1]),(⟨S 77,N,v (i F (s 74) (s 76))⟩,[0,1,2]),(⟨S 78,N,v (l F (s 77))⟩,[0,1,2,3]),(⟨S 79,N,v (m (s 11))⟩,[]),(⟨S 80,N,v (i (.agg 2) (s 78) (s 79))⟩,[0,1,2,3,4,5]),(⟨S 81,N,v (l (.agg 2) (s 80))⟩,[0,1,2,3,4,5,6]),(⟨S 82,N,v (f 2 (s 10))⟩,[]),(⟨S 83,N,v (l (.agg 2) (s 82))⟩,[8]),(⟨S 84,N,.callw 225 [s 81,s 83] []⟩,[0,1,2,3,4,5,6,7,8,9]),(⟨S 73,N,v (m (s 84))⟩,[0,1,2,3,4,5,6,7,8,9,10]),(⟨S 85,N,v (q (s 73) 0)⟩,[0,1,2,3,4,5,6,7,8,9,10,11]),(⟨S 86,N,v (q (s 73) 1)⟩,[0,1,2,3,4,5,6,7,8,9,10,11]),(⟨S 12,N,x (.agg 2) (c (.agg [(.bool false),(I j 0)]))⟩,[]),(⟨N,N,t (.agg 2) (s 12) (s 85)⟩,[0,1,2,3,4,5,6,7,8,9,10,11,12,14]),(⟨S 13,N,v (m (s 86))⟩,[0,1,2,3,4,5,6,7,8,9,10,11,12,13,14,15])]
abbrev g177r15t:List aA:=[]
abbrev g177r16:List aA:=[⟨S 87,N,v (m (s 13))⟩,⟨S 88,N,v (b .eql (s 87) (c (I j 0)))⟩]
abbrev g177r17:List (aA×List Nat):=[(⟨S 89,N,v (m (s 7))⟩,[]),(⟨S 90,N,v (f 1 (s 10))⟩,[]),(⟨S 91,N,v (l F (s 90))⟩,[1]),(⟨S 92,N,v (m (s 7))⟩,[]),(⟨S 93,N,v (f 1 (s 10))⟩,[]),(⟨S 94,N,v (l F (s 93))⟩,[4]),(⟨S 95,N,v (i F (s 92) (s 94))⟩,[3,4,5]),(⟨S 96,N,v (l F (s 95))⟩,[3,4,5,6]),(⟨S 97,N,v (l (.agg 2) (s 12))⟩,[]),(⟨S 98,N,y (.agg 2) [s 97]⟩,[8]),(⟨S 99,N,a (.agg 2) 16 (s 96) (s 98)⟩,[3,4,5,6,7,8,9]),(⟨S 100,N,v (i F (s 89) (s 91))⟩,[0,1,2,3,4,5,6,7,8,9,10])]
abbrev g177r17t:List aA:=[⟨N,N,t F (s 100) (s 99)⟩]
abbrev g177r18:List aA:=[⟨S 71,N,v (m (s 11))⟩,⟨S 72,N,v (b .add (s 71) (c (I j 1)))⟩,⟨S 11,N,v (m (s 72))⟩]
abbrev g177l1:bB:=(Q (Q (O g177r14) (C (s 70) Z (X 6))) (Q (K 7 (Q (D 17 g177r15 g177r15t) (Q (O g177r16) (C (s 88) (D 12 g177r17 g177r17t) Z)))) (O g177r18)))
abbrev g177r19:List aA:=[⟨S 56,N,v (m (s 9))⟩,⟨S 57,N,v (b .add (s 56) (c (I j 1)))⟩,⟨S 9,N,v (m (s 57))⟩]
abbrev g177l2:bB:=(Q (Q (O g177r11) (C (s 55) Z (X 4))) (Q (K 5 (Q (O g177r12) (Q (O g177r13) (K 6 (R g177l1))))) (O g177r19)))
abbrev g177r20:List aA:=[⟨S 14,N,v (m (c (I j 0)))⟩]
abbrev g177r21:List aA:=[⟨S 101,N,v (m (s 14))⟩,⟨S 102,N,v (f 0 (s 2))⟩,⟨S 103,N,v (l F (s 102))⟩,⟨S 104,N,v (b .lss (s 101) (s 103))⟩]
abbrev g177r22:List aA:=[⟨S 107,N,v (m (s 5))⟩,⟨S 108,N,v (m (s 14))⟩,⟨S 109,N,v (m (s 7))⟩,⟨S 110,N,v (m (s 14))⟩,⟨S 111,N,v (i F (s 109) (s 110))⟩,⟨S 112,N,v (l F (s 111))⟩,⟨S 113,N,k 226 [s 112]⟩,⟨S 114,N,v (i F (s 107) (s 108))⟩,⟨N,N,t F (s 114) (s 113)⟩]
abbrev g177r23:List aA:=[⟨S 105,N,v (m (s 14))⟩,⟨S 106,N,v (b .add (s 105) (c (I j 1)))⟩,⟨S 14,N,v (m (s 106))⟩]
abbrev g177l3:bB:=(Q (Q (O g177r21) (C (s 104) Z (X 8))) (Q (K 9 (O g177r22)) (O g177r23)))
abbrev g177r24:List aA:=[⟨S 28,N,v (m (s 6))⟩,⟨S 29,N,v (b .add (s 28) (c (I j 1)))⟩,⟨S 6,N,v (m (s 29))⟩]
abbrev g177l4:bB:=(Q (Q (O g177r4) (C (s 27) Z (X 0))) (Q (K 1 (Q (O g177r5) (Q (Q (O g177r6) (K 2 (R g177l0))) (Q (Q (O g177r10) (K 4 (R g177l2))) (Q (O g177r20) (K 8 (R g177l3))))))) (O g177r24)))
abbrev g177r25:List aA:=[⟨S 115,N,v (m (s 5))⟩,⟨S 4,N,v (m (s 115))⟩]
def corollaryref22_From:LFn:=⟨(Q (O g177r0) (Q (O g177r1) (Q (O g177r2) (Q (Q (O g177r3) (K 0 (R g177l4))) (Q (O g177r25) .ret))))),116,[.slot 4]⟩
theorem corollaryref22_From_low:aG Tryz.prog 195=some corollaryref22_From:=by kernel_rfl
abbrev slices_IndexFunc_stamp_Time_stamp_Time_r0:List aA:=[⟨S 4,N,v (m (c (I j 0)))⟩]
abbrev slices_IndexFunc_stamp_Time_stamp_Time_r1:List aA:=[⟨S 6,N,v (m (s 0))⟩,⟨S 7,N,v (w (s 6))⟩,⟨S 8,N,v (m (c (I j 0)))⟩]
abbrev slices_IndexFunc_stamp_Time_stamp_Time_r2:List aA:=[⟨S 9,N,v (b .lss (s 8) (s 7))⟩]
abbrev slices_IndexFunc_stamp_Time_stamp_Time_r3:List aA:=[⟨S 10,N,v (m (s 8))⟩,⟨S 5,N,v (m (s 10))⟩]
abbrev slices_IndexFunc_stamp_Time_stamp_Time_r4:List aA:=[⟨S 11,N,v (m (s 1))⟩,⟨S 12,N,v (m (s 0))⟩,⟨S 13,N,v (m (s 5))⟩,⟨S 14,N,v (i (.agg 2) (s 12) (s 13))⟩,⟨S 15,N,v (l (.agg 2) (s 14))⟩,⟨S 16,N,.callv (s 11) [s 15]⟩]
abbrev slices_IndexFunc_stamp_Time_stamp_Time_r5:List aA:=[⟨S 17,N,v (m (s 5))⟩,⟨S 4,N,v (m (s 17))⟩]
abbrev slices_IndexFunc_stamp_Time_stamp_Time_r6:List aA:=[⟨S 18,N,v (b .add (s 8) (c (I j 1)))⟩,⟨S 8,N,v (m (s 18))⟩]
abbrev g178l0:bB:=(Q (O slices_IndexFunc_stamp_Time_stamp_Time_r2) (Q (C (s 9) Z (X 0)) (Q (K 1 (Q (O slices_IndexFunc_stamp_Time_stamp_Time_r3) (Q (O slices_IndexFunc_stamp_Time_stamp_Time_r4) (C (s 16) (Q (O slices_IndexFunc_stamp_Time_stamp_Time_r5) .ret) Z)))) (O slices_IndexFunc_stamp_Time_stamp_Time_r6))))
abbrev slices_IndexFunc_stamp_Time_stamp_Time_r7:List aA:=[⟨S 4,N,v (m (c (I j (-1))))⟩]
def slices_IndexFunc_stamp_Time_stamp_Time:LFn:=⟨(Q (O slices_IndexFunc_stamp_Time_stamp_Time_r0) (Q (Q (O slices_IndexFunc_stamp_Time_stamp_Time_r1) (K 0 (R g178l0))) (Q (O slices_IndexFunc_stamp_Time_stamp_Time_r7) .ret))),19,[.slot 4]⟩
theorem slices_IndexFunc_stamp_Time_stamp_Time_low:aG Tryz.prog 196=some slices_IndexFunc_stamp_Time_stamp_Time:=by kernel_rfl
abbrev chain_Reaches_1_r0:List aA:=[⟨S 2,N,x (.agg 2) (s 0)⟩,⟨S 3,N,v (m (c (.bool false)))⟩]
abbrev chain_Reaches_1_r1:List aA:=[⟨S 4,N,v (l (.agg 2) (s 2))⟩,⟨S 5,N,v (l (.agg 2) (s 1))⟩,⟨S 6,N,k 158 [s 4,s 5]⟩,⟨S 3,N,v (m (s 6))⟩]
def chain_Reaches_1:LFn:=⟨(Q (O chain_Reaches_1_r0) (Q (O chain_Reaches_1_r1) .ret)),7,[.slot 3]⟩
theorem chain_Reaches_1_low:aG Tryz.prog 197=some chain_Reaches_1:=by kernel_rfl
abbrev g195r0:List aA:=[⟨S 2,N,x (.agg 2) (s 0)⟩,⟨S 3,N,v (m (c (.bool false)))⟩]
abbrev g195r1:List aA:=[⟨S 4,N,v (l (.agg 2) (s 2))⟩,⟨S 5,N,v (l (.agg 2) (s 1))⟩,⟨S 6,N,k 215 [s 4,s 5]⟩,⟨S 3,N,v (m (s 6))⟩]
def path_put_1:LFn:=⟨(Q (O g195r0) (Q (O g195r1) .ret)),7,[.slot 3]⟩
theorem path_put_1_low:aG Tryz.prog 214=some path_put_1:=by kernel_rfl
abbrev g196r0:List aA:=[⟨S 2,N,x (.agg 2) (s 0)⟩,⟨S 3,N,x (.agg 2) (s 1)⟩,⟨S 4,N,v (m (c (.bool false)))⟩]
abbrev g196r1:List aA:=[⟨S 5,N,v (f 0 (s 2))⟩,⟨S 6,N,v (l F (s 5))⟩,⟨S 7,N,v (m (s 6))⟩,⟨S 8,S (7,false),v (f 0 (s 3))⟩,⟨S 9,S (7,false),v (l F (s 8))⟩,⟨S 10,S (7,false),v (.not (s 9))⟩,⟨S 11,N,v (p (s 7) (c (.bool true)) (s 10))⟩,⟨S 12,N,v (m (s 11))⟩,⟨S 13,S (12,true),v (f 1 (s 2))⟩,⟨S 14,S (12,true),v (l F (s 13))⟩,⟨S 15,S (12,true),v (f 1 (s 3))⟩,⟨S 16,S (12,true),v (l F (s 15))⟩,⟨S 17,S (12,true),v (b .leq (s 14) (s 16))⟩,⟨S 18,N,v (p (s 12) (s 17) (c (.bool false)))⟩,⟨S 4,N,v (m (s 18))⟩]
def stamp_Path_AtMost:LFn:=⟨(Q (O g196r0) (Q (O g196r1) .ret)),19,[.slot 4]⟩
theorem stamp_Path_AtMost_low:aG Tryz.prog 215=some stamp_Path_AtMost:=by kernel_rfl
abbrev g198r0:List aA:=[⟨S 2,N,x (.agg 2) (s 0)⟩,⟨S 3,N,v (m (c (.bool false)))⟩]
abbrev g198r1:List aA:=[⟨S 4,N,v (l (.agg 2) (s 1))⟩,⟨S 5,N,v (l (.agg 2) (s 2))⟩,⟨S 6,N,k 215 [s 4,s 5]⟩,⟨S 3,N,v (m (s 6))⟩]
def path_put_2:LFn:=⟨(Q (O g198r0) (Q (O g198r1) .ret)),7,[.slot 3]⟩
theorem path_put_2_low:aG Tryz.prog 217=some path_put_2:=by kernel_rfl
abbrev g200r0:List aA:=[⟨S 2,N,x (.agg 2) (s 0)⟩,⟨S 3,N,x (.agg 2) (s 1)⟩,⟨S 4,N,v (m (c (I j 0)))⟩]
abbrev g200r1:List (aA×List Nat):=[(⟨S 5,N,v (f 0 (s 2))⟩,[]),(⟨S 6,N,v (l F (s 5))⟩,[0]),(⟨S 7,N,k 182 [s 6]⟩,[0,1]),(⟨S 8,N,v (f 0 (s 3))⟩,[]),(⟨S 9,N,v (l F (s 8))⟩,[3]),(⟨S 10,N,k 182 [s 9]⟩,[0,1,2,3,4]),(⟨S 11,N,v (b .sub (s 7) (s 10))⟩,[0,1,2,3,4,5]),(⟨S 4,N,v (m (s 11))⟩,[0,1,2,3,4,5,6])]
abbrev g200r1t:List aA:=[]
def path_put_3:LFn:=⟨(Q (O g200r0) (Q (D 8 g200r1 g200r1t) .ret)),12,[.slot 4]⟩
theorem path_put_3_low:aG Tryz.prog 219=some path_put_3:=by kernel_rfl
abbrev g206r0:List aA:=[⟨S 2,N,x (.agg 2) (s 0)⟩,⟨S 3,N,x (.agg 2) (s 1)⟩,⟨S 4,N,x (.agg 2) (c (.agg [(.bool false),(I j 0)]))⟩,⟨S 5,N,v (m (c (I j 0)))⟩]
abbrev g206r1:List aA:=[⟨S 6,N,v (l (.agg 2) (s 2))⟩,⟨S 7,N,k 136 [s 6]⟩,⟨S 8,N,v (.not (s 7))⟩,⟨S 9,N,v (m (s 8))⟩,⟨S 10,S (9,false),v (l (.agg 2) (s 3))⟩,⟨S 11,S (9,false),k 136 [s 10]⟩,⟨S 12,S (9,false),v (.not (s 11))⟩,⟨S 13,N,v (p (s 9) (c (.bool true)) (s 12))⟩]
abbrev g206r2:List aA:=[⟨S 14,N,v (.build [(.bool false),(I j 0)] [])⟩,⟨N,N,t (.agg 2) (s 4) (s 14)⟩,⟨S 5,N,v (m (c (I j 2)))⟩]
abbrev g206r3:List aA:=[⟨S 15,N,v (f 0 (s 3))⟩,⟨S 16,N,v (l F (s 15))⟩]
abbrev g206r4:List aA:=[⟨S 17,N,v (l (.agg 2) (s 3))⟩,⟨N,N,t (.agg 2) (s 4) (s 17)⟩,⟨S 5,N,v (m (c (I j 0)))⟩]
abbrev g206r5:List aA:=[⟨S 18,N,v (f 1 (s 2))⟩,⟨S 19,N,v (l F (s 18))⟩,⟨S 20,N,v (f 1 (s 3))⟩,⟨S 21,N,v (l F (s 20))⟩,⟨S 22,N,v (b .add (s 19) (s 21))⟩,⟨S 23,N,v (b .gtr (s 22) (c (I j 1048576)))⟩]
abbrev g206r6:List aA:=[⟨S 24,N,v (.build [(.bool false),(I j 0)] [])⟩,⟨N,N,t (.agg 2) (s 4) (s 24)⟩,⟨S 5,N,v (m (c (I j 1)))⟩]
abbrev g206r7:List aA:=[⟨S 25,N,v (f 0 (s 2))⟩,⟨S 26,N,v (l F (s 25))⟩,⟨S 27,N,v (f 1 (s 2))⟩,⟨S 28,N,v (l F (s 27))⟩,⟨S 29,N,v (f 1 (s 3))⟩,⟨S 30,N,v (l F (s 29))⟩,⟨S 31,N,v (b .add (s 28) (s 30))⟩,⟨S 32,N,v (.build [(.bool false),(I j 0)] [(0,F,(s 26)),(1,F,(s 31))])⟩,⟨N,N,t (.agg 2) (s 4) (s 32)⟩,⟨S 5,N,v (m (c (I j 0)))⟩]
def corollaryref20_Then:LFn:=⟨(Q (O g206r0) (Q (Q (O g206r1) (C (s 13) (Q (O g206r2) .ret) Z)) (Q (Q (O g206r3) (C (s 16) (Q (O g206r4) .ret) Z)) (Q (Q (O g206r5) (C (s 23) (Q (O g206r6) .ret) Z)) (Q (O g206r7) .ret))))),33,[.cell 4 (.agg 2),.slot 5]⟩
theorem corollaryref20_Then_low:aG Tryz.prog 225=some corollaryref20_Then:=by kernel_rfl
abbrev g207r0:List aA:=[⟨S 2,N,v (m (c (.sl (.agg 2) .nil [])))⟩]
abbrev g207r1:List aA:=[⟨S 3,N,v (m (c (.sl (.agg 2) .nil [])))⟩,⟨S 4,N,v (m (c (.sl (.agg 2) .nil [])))⟩]
abbrev g207r2:List aA:=[⟨S 5,N,v (m (c (I j 0)))⟩]
abbrev g207r3:List aA:=[⟨S 8,N,v (m (s 5))⟩,⟨S 9,N,v (m (s 0))⟩,⟨S 10,N,v (w (s 9))⟩,⟨S 11,N,v (b .lss (s 8) (s 10))⟩]
abbrev g207r4:List aA:=[⟨S 6,N,v (m (c (.bool true)))⟩]
abbrev g207r5:List aA:=[⟨S 7,N,v (m (c (I j 0)))⟩]
abbrev g207r6:List aA:=[⟨S 14,N,v (m (s 7))⟩,⟨S 15,N,v (m (s 0))⟩,⟨S 16,N,v (w (s 15))⟩,⟨S 17,N,v (b .lss (s 14) (s 16))⟩]
abbrev g207r7:List (aA×List Nat):=[(⟨S 20,N,v (m (s 0))⟩,[]),(⟨S 21,N,v (m (s 7))⟩,[]),(⟨S 22,N,v (i (.agg 2) (s 20) (s 21))⟩,[0,1]),(⟨S 23,N,v (l (.agg 2) (s 22))⟩,[0,1,2]),(⟨S 24,N,v (m (s 0))⟩,[]),(⟨S 25,N,v (m (s 5))⟩,[]),(⟨S 26,N,v (i (.agg 2) (s 24) (s 25))⟩,[4,5]),(⟨S 27,N,v (l (.agg 2) (s 26))⟩,[4,5,6]),(⟨S 28,N,k 259 [s 23,s 27]⟩,[0,1,2,3,4,5,6,7]),(⟨S 29,N,v (m (s 28))⟩,[0,1,2,3,4,5,6,7,8]),(⟨S 30,S (29,true),v (m (s 0))⟩,[0,1,2,3,4,5,6,7,8,9]),(⟨S 31,S (29,true),v (m (s 7))⟩,[0,1,2,3,4,5,6,7,8,9]),(⟨S 32,S (29,true),v (i (.agg 2) (s 30) (s 31))⟩,[0,1,2,3,4,5,6,7,8,9,10,11]),(⟨S 33,S (29,true),v (l (.agg 2) (s 32))⟩,[0,1,2,3,4,5,6,7,8,9,10,11,12]),(⟨S 34,S (29,true),v (m (s 0))⟩,[0,1,2,3,4,5,6,7,8,9]),(⟨S 35,S (29,true),v (m (s 5))⟩,[0,1,2,3,4,5,6,7,8,9]),(⟨S 36,S (29,true),v (i (.agg 2) (s 34) (s 35))⟩,[0,1,2,3,4,5,6,7,8,9,14,15]),(⟨S 37,S (29,true),v (l (.agg 2) (s 36))⟩,[0,1,2,3,4,5,6,7,8,9,14,15,16]),(⟨S 38,S (29,true),v (e true (.plain (.agg 2) [.bool,.int]) (s 33) (s 37))⟩,[0,1,2,3,4,5,6,7,8,9,10,11,12,13,14,15,16,17]),(⟨S 39,S (29,true),v (m (s 38))⟩,[0,1,2,3,4,5,6,7,8,9,10,11,12,13,14,15,16,17,18]),(⟨S 40,S (39,false),v (m (s 7))⟩,[0,1,2,3,4,5,6,7,8,9,10,11,12,13,14,15,16,17,18,19]),(⟨S 41,S (39,false),v (m (s 5))⟩,[0,1,2,3,4,5,6,7,8,9,10,11,12,13,14,15,16,17,18,19]),(⟨S 42,S (39,false),v (b .lss (s 40) (s 41))⟩,[0,1,2,3,4,5,6,7,8,9,10,11,12,13,14,15,16,17,18,19,20,21]),(⟨S 43,S (29,true),v (p (s 39) (c (.bool true)) (s 42))⟩,[0,1,2,3,4,5,6,7,8,9,10,11,12,13,14,15,16,17,18,19,20,21,22]),(⟨S 44,N,v (p (s 29) (s 43) (c (.bool false)))⟩,[0,1,2,3,4,5,6,7,8,9,10,11,12,13,14,15,16,17,18,19,20,21,22,23])]
abbrev g207r7t:List aA:=[]
abbrev g207r8:List aA:=[⟨S 6,N,v (m (c (.bool false)))⟩]
abbrev g207r9:List aA:=[⟨S 18,N,v (m (s 7))⟩,⟨S 19,N,v (b .add (s 18) (c (I j 1)))⟩,⟨S 7,N,v (m (s 19))⟩]
abbrev g207l0:bB:=(Q (Q (O g207r6) (C (s 17) Z (X 2))) (Q (K 3 (Q (D 25 g207r7 g207r7t) (C (s 44) (O g207r8) Z))) (O g207r9)))
abbrev g207r10:List aA:=[⟨S 45,N,v (m (s 6))⟩,⟨S 46,N,v (m (s 45))⟩,⟨S 47,S (46,true),v (m (s 0))⟩,⟨S 48,S (46,true),v (m (s 5))⟩,⟨S 49,S (46,true),v (i (.agg 2) (s 47) (s 48))⟩,⟨S 50,S (46,true),v (f 0 (s 49))⟩,⟨S 51,S (46,true),v (l F (s 50))⟩,⟨S 52,N,v (p (s 46) (s 51) (c (.bool false)))⟩]
abbrev g207r11:List aA:=[⟨S 53,N,v (m (s 4))⟩,⟨S 54,N,v (m (s 0))⟩,⟨S 55,N,v (m (s 5))⟩,⟨S 56,N,v (i (.agg 2) (s 54) (s 55))⟩,⟨S 57,N,v (l (.agg 2) (s 56))⟩,⟨S 58,N,y (.agg 2) [s 57]⟩,⟨S 59,N,a (.agg 2) 16 (s 53) (s 58)⟩,⟨S 4,N,v (m (s 59))⟩]
abbrev g207r12:List aA:=[⟨S 60,N,v (m (s 6))⟩,⟨S 61,N,v (m (s 60))⟩,⟨S 62,S (61,true),v (m (s 0))⟩,⟨S 63,S (61,true),v (m (s 5))⟩,⟨S 64,S (61,true),v (i (.agg 2) (s 62) (s 63))⟩,⟨S 65,S (61,true),v (f 0 (s 64))⟩,⟨S 66,S (61,true),v (l F (s 65))⟩,⟨S 67,S (61,true),v (.not (s 66))⟩,⟨S 68,N,v (p (s 61) (s 67) (c (.bool false)))⟩]
abbrev g207r13:List aA:=[⟨S 69,N,v (m (s 3))⟩,⟨S 70,N,v (m (s 0))⟩,⟨S 71,N,v (m (s 5))⟩,⟨S 72,N,v (i (.agg 2) (s 70) (s 71))⟩,⟨S 73,N,v (l (.agg 2) (s 72))⟩,⟨S 74,N,y (.agg 2) [s 73]⟩,⟨S 75,N,a (.agg 2) 16 (s 69) (s 74)⟩,⟨S 3,N,v (m (s 75))⟩]
abbrev g207r14:List aA:=[⟨S 12,N,v (m (s 5))⟩,⟨S 13,N,v (b .add (s 12) (c (I j 1)))⟩,⟨S 5,N,v (m (s 13))⟩]
abbrev g207l1:bB:=(Q (Q (O g207r3) (C (s 11) Z (X 0))) (Q (K 1 (Q (O g207r4) (Q (Q (O g207r5) (K 2 (R g207l0))) (Q (Q (O g207r10) (C (s 52) (O g207r11) Z)) (Q (O g207r12) (C (s 68) (O g207r13) Z)))))) (O g207r14)))
abbrev g207r15:List aA:=[⟨S 76,N,v (m (s 3))⟩,⟨S 77,N,v (m (s 4))⟩,⟨S 78,N,a (.agg 2) 16 (s 76) (s 77)⟩,⟨S 2,N,v (m (s 78))⟩]
def corollaryref22_Sieve:LFn:=⟨(Q (O g207r0) (Q (O g207r1) (Q (Q (O g207r2) (K 0 (R g207l1))) (Q (O g207r15) .ret)))),79,[.slot 2]⟩
theorem corollaryref22_Sieve_low:aG Tryz.prog 226=some corollaryref22_Sieve:=by kernel_rfl
abbrev g238r0:List aA:=[⟨S 2,N,x (.agg 2) (s 0)⟩,⟨S 3,N,x (.agg 2) (s 1)⟩,⟨S 4,N,v (m (c (.bool false)))⟩]
abbrev g238r1:List aA:=[⟨S 5,N,v (f 0 (s 2))⟩,⟨S 6,N,v (l F (s 5))⟩,⟨S 7,N,v (.not (s 6))⟩,⟨S 8,N,v (m (s 7))⟩,⟨S 9,S (8,true),v (f 0 (s 3))⟩,⟨S 10,S (8,true),v (l F (s 9))⟩,⟨S 11,N,v (p (s 8) (s 10) (c (.bool false)))⟩]
abbrev g238r2:List aA:=[⟨S 4,N,v (m (c (.bool false)))⟩]
abbrev g238r3:List aA:=[⟨S 12,N,v (f 1 (s 2))⟩,⟨S 13,N,v (l F (s 12))⟩,⟨S 14,N,v (f 1 (s 3))⟩,⟨S 15,N,v (l F (s 14))⟩,⟨S 16,N,v (b .leq (s 13) (s 15))⟩,⟨S 4,N,v (m (s 16))⟩]
def corollaryref20_PathAtMost:LFn:=⟨(Q (O g238r0) (Q (Q (O g238r1) (C (s 11) (Q (O g238r2) .ret) Z)) (Q (O g238r3) .ret))),17,[.slot 4]⟩
theorem corollaryref20_PathAtMost_low:aG Tryz.prog 259=some corollaryref20_PathAtMost:=by kernel_rfl
end L
end Go.Proofs.YtemjhgboialjpaaGreat
