/-
The functions of the code,lowered:printed by a program,checked by the kernel. No conditions.
-/
import Derived.Test.YtemjhgboialjpaaKcb
import Derived.Test.YtemjhgboialjpaaProg
namespace Go.Proofs.Ytemjhgboialjpaa
open Go.RowKit
open aF renaming slot→s,const→c
open aO renaming move→m,load→l,fldA→f,bin→b,eq→e,idxA→i,pick→p,ext→q,nilCheck→n,len→w
open LOp renaming val→v,call→k,box→x,bslice→y,append→a,store→t
open aY renaming seq→Q,ops→O,cond→C,block→K,loop→R,skip→Z,exit→X,draw→D
open Sh renaming leaf→F
open V renaming int→I
open Go.IntKind renaming i64→j
open Option renaming some→S,none→N
namespace L
abbrev g1r0:List aA:=[⟨S 6,N,v (m (c (.bool false)))⟩]
abbrev g1r1:List aA:=[⟨S 18,N,k 5 []⟩,⟨S 19,N,v (.not (s 18))⟩]
abbrev g1r2:List aA:=[⟨S 6,N,v (m (c (.bool false)))⟩]
abbrev g1r3:List aA:=[⟨S 20,N,v (m (s 2))⟩,⟨S 21,N,k 10 [s 20]⟩]
abbrev g1r4:List aA:=[⟨S 6,N,v (m (c (.bool true)))⟩]
abbrev g1r5:List aA:=[⟨S 22,N,y F []⟩,⟨S 7,N,v (m (s 22))⟩]
abbrev g1r6:List aA:=[⟨S 23,N,v (m (s 2))⟩,⟨S 24,N,v (w (s 23))⟩,⟨S 25,N,v (b .sub (s 24) (c (I j 1)))⟩,⟨S 8,N,v (m (s 25))⟩]
abbrev g1r7:List aA:=[⟨S 26,N,v (m (s 8))⟩,⟨S 27,N,v (b .geq (s 26) (c (I j 0)))⟩]
abbrev g1r8:List (aA×List Nat):=[(⟨S 30,N,v (m (s 7))⟩,[]),(⟨S 31,N,v (m (s 2))⟩,[]),(⟨S 32,N,v (m (s 8))⟩,[]),(⟨S 33,N,v (i F (s 31) (s 32))⟩,[1,2]),(⟨S 34,N,v (l F (s 33))⟩,[1,2,3]),(⟨S 35,N,v (m (s 2))⟩,[]),(⟨S 36,N,v (m (s 8))⟩,[]),(⟨S 37,N,v (i F (s 35) (s 36))⟩,[5,6]),(⟨S 38,N,v (l F (s 37))⟩,[5,6,7]),(⟨S 39,N,y F [s 34,s 38]⟩,[1,2,3,4,5,6,7,8]),(⟨S 40,N,a F 24 (s 30) (s 39)⟩,[0,1,2,3,4,5,6,7,8,9])]
abbrev g1r8t:List aA:=[⟨S 7,N,v (m (s 40))⟩]
abbrev g1r9:List aA:=[⟨S 28,N,v (m (s 8))⟩,⟨S 29,N,v (b .sub (s 28) (c (I j 1)))⟩,⟨S 8,N,v (m (s 29))⟩]
abbrev g1l0:aY:=(Q (Q (O g1r7) (C (s 27) Z (X 0))) (Q (K 1 (D 11 g1r8 g1r8t)) (O g1r9)))
abbrev g1r10:List aA:=[⟨S 42,N,v (m (s 0))⟩,⟨S 43,N,v (m (s 1))⟩,⟨S 44,N,v (m (s 2))⟩,⟨S 45,N,k 11 [s 42,s 43,s 44]⟩,⟨S 41,N,v (m (s 45))⟩,⟨S 46,N,v (q (s 41) 0)⟩,⟨S 47,N,v (q (s 41) 1)⟩,⟨S 9,N,v (m (s 46))⟩,⟨S 10,N,v (m (s 47))⟩]
abbrev g1r11:List aA:=[⟨S 49,N,v (m (s 0))⟩,⟨S 50,N,v (m (s 1))⟩,⟨S 51,N,v (m (s 7))⟩,⟨S 52,N,k 11 [s 49,s 50,s 51]⟩,⟨S 48,N,v (m (s 52))⟩,⟨S 53,N,v (q (s 48) 0)⟩,⟨S 54,N,v (q (s 48) 1)⟩,⟨S 11,N,v (m (s 53))⟩,⟨S 12,N,v (m (s 54))⟩]
abbrev g1r12:List aA:=[⟨S 55,N,v (m (s 10))⟩,⟨S 56,N,k 9 [s 55]⟩,⟨S 57,N,v (m (s 12))⟩,⟨S 58,N,k 9 [s 57]⟩,⟨S 59,N,v (b .neq (s 56) (s 58))⟩,⟨S 60,N,v (m (s 59))⟩,⟨S 61,S (60,false),v (m (s 9))⟩,⟨S 62,S (60,false),v (m (s 11))⟩,⟨S 63,S (60,false),k 12 [s 61,s 62]⟩,⟨S 64,S (60,false),v (.not (s 63))⟩,⟨S 65,N,v (p (s 60) (c (.bool true)) (s 64))⟩,⟨S 66,N,v (m (s 65))⟩,⟨S 67,S (66,false),v (m (s 9))⟩,⟨S 68,S (66,false),k 13 [s 67]⟩,⟨S 69,S (66,false),v (.not (s 68))⟩,⟨S 70,N,v (p (s 66) (c (.bool true)) (s 69))⟩]
abbrev g1r13:List aA:=[⟨S 6,N,v (m (c (.bool false)))⟩]
abbrev g1r14:List aA:=[⟨S 71,N,v (m (s 10))⟩,⟨S 72,N,v (e true (.iface true) (s 71) (c .nilIface))⟩]
abbrev g1r15:List aA:=[⟨S 73,N,v (m (s 9))⟩,⟨S 74,N,v (w (s 73))⟩,⟨S 75,N,v (b .eql (s 74) (c (I j 0)))⟩,⟨S 6,N,v (m (s 75))⟩]
abbrev g1r16:List aA:=[⟨S 76,N,v (m (s 0))⟩,⟨S 77,N,v (b .lss (s 76) (c (I j 3)))⟩]
abbrev g1r17:List aA:=[⟨S 6,N,v (m (c (.bool true)))⟩]
abbrev g1r18:List aA:=[⟨S 78,N,v (m (s 9))⟩,⟨S 79,N,v (w (s 78))⟩,⟨S 80,N,v (m (c (I j 0)))⟩]
abbrev g1r19:List aA:=[⟨S 81,N,v (b .lss (s 80) (s 79))⟩]
abbrev g1r20:List aA:=[⟨S 82,N,v (i F (s 78) (s 80))⟩,⟨S 83,N,v (l F (s 82))⟩,⟨S 14,N,v (m (s 83))⟩]
abbrev g1r21:List aA:=[⟨S 15,N,v (m (c (.bool false)))⟩]
abbrev g1r22:List aA:=[⟨S 84,N,v (m (s 2))⟩,⟨S 85,N,v (w (s 84))⟩,⟨S 86,N,v (m (c (I j 0)))⟩]
abbrev g1r23:List aA:=[⟨S 87,N,v (b .lss (s 86) (s 85))⟩]
abbrev g1r24:List aA:=[⟨S 88,N,v (i F (s 84) (s 86))⟩,⟨S 89,N,v (l F (s 88))⟩,⟨S 17,N,v (m (s 89))⟩]
abbrev g1r25:List aA:=[⟨S 90,N,v (m (s 15))⟩,⟨S 91,N,v (m (s 90))⟩,⟨S 92,S (91,false),v (m (s 14))⟩,⟨S 93,S (91,false),v (m (s 17))⟩,⟨S 94,S (91,false),k 14 [s 92,s 93]⟩,⟨S 95,S (91,false),v (b .eql (s 94) (c (I j 0)))⟩,⟨S 96,N,v (p (s 91) (c (.bool true)) (s 95))⟩,⟨S 15,N,v (m (s 96))⟩]
abbrev g1r26:List aA:=[⟨S 97,N,v (b .add (s 86) (c (I j 1)))⟩,⟨S 86,N,v (m (s 97))⟩]
abbrev g1l1:aY:=(Q (O g1r23) (Q (C (s 87) Z (X 4)) (Q (K 5 (Q (O g1r24) (O g1r25))) (O g1r26))))
abbrev g1r27:List aA:=[⟨S 98,N,v (m (s 15))⟩,⟨S 99,N,v (.not (s 98))⟩]
abbrev g1r28:List aA:=[⟨S 6,N,v (m (c (.bool false)))⟩]
abbrev g1r29:List aA:=[⟨S 100,N,v (b .add (s 80) (c (I j 1)))⟩,⟨S 80,N,v (m (s 100))⟩]
abbrev g1l2:aY:=(Q (O g1r19) (Q (C (s 81) Z (X 2)) (Q (K 3 (Q (O g1r20) (Q (O g1r21) (Q (Q (O g1r22) (K 4 (R g1l1))) (Q (O g1r27) (C (s 99) (Q (O g1r28) .ret) Z)))))) (O g1r29))))
abbrev g1r30:List aA:=[⟨S 6,N,v (m (c (.bool true)))⟩]
def corollarylaw16_AggLaws:LFn:=⟨(Q (O g1r0) (Q (Q (O g1r1) (C (s 19) (Q (O g1r2) .ret) Z)) (Q (Q (O g1r3) (C (s 21) (Q (O g1r4) .ret) Z)) (Q (O g1r5) (Q (Q (O g1r6) (K 0 (R g1l0))) (Q (O g1r10) (Q (O g1r11) (Q (Q (O g1r12) (C (s 70) (Q (O g1r13) .ret) Z)) (Q (Q (O g1r14) (C (s 72) (Q (O g1r15) .ret) Z)) (Q (Q (O g1r16) (C (s 77) (Q (O g1r17) .ret) Z)) (Q (Q (O g1r18) (K 2 (R g1l2))) (Q (O g1r30) .ret)))))))))))),101,[.slot 6]⟩
theorem corollarylaw16_AggLaws_low:aG Try.prog 4=some corollarylaw16_AggLaws:=by kernel_rfl
abbrev g2r0:List aA:=[⟨S 0,N,v (m (c (.bool false)))⟩]
abbrev g2r1:List aA:=[⟨S 1,N,v (m (c (.fn (.func 15) [] [])))⟩]
abbrev g2r2:List aA:=[⟨S 5,N,v (m (s 1))⟩,⟨S 6,N,.callv (s 5) [(c (I j 1)),(c (I j 5))]⟩,⟨S 7,N,v (m (s 1))⟩,⟨S 8,N,.callv (s 7) [(c (I j 1)),(c (I j 6))]⟩,⟨S 9,N,v (m (s 1))⟩,⟨S 10,N,.callv (s 9) [(c (I j 2)),(c (I j 5))]⟩,⟨S 11,N,y F [s 6,s 8,s 10]⟩,⟨S 12,N,k 11 [(c (I j 1)),(c (I j 1)),s 11]⟩,⟨S 4,N,v (m (s 12))⟩,⟨S 13,N,v (q (s 4) 0)⟩,⟨S 14,N,v (q (s 4) 1)⟩,⟨S 2,N,v (m (s 13))⟩,⟨S 3,N,v (m (s 14))⟩]
abbrev g2r3:List aA:=[⟨S 15,N,v (m (s 3))⟩,⟨S 16,N,v (e false (.iface true) (s 15) (c .nilIface))⟩,⟨S 17,N,v (m (s 16))⟩,⟨S 18,S (17,true),v (m (s 2))⟩,⟨S 19,S (17,true),v (m (s 1))⟩,⟨S 20,S (17,true),.callv (s 19) [(c (I j 1)),(c (I j 2))]⟩,⟨S 21,S (17,true),v (m (s 1))⟩,⟨S 22,S (17,true),.callv (s 21) [(c (I j 2)),(c (I j 1))]⟩,⟨S 23,S (17,true),y F [s 20,s 22]⟩,⟨S 24,S (17,true),k 12 [s 18,s 23]⟩,⟨S 25,N,v (p (s 17) (s 24) (c (.bool false)))⟩,⟨S 0,N,v (m (s 25))⟩]
def corollarylaw16_alive:LFn:=⟨(Q (O g2r0) (Q (O g2r1) (Q (O g2r2) (Q (O g2r3) .ret)))),26,[.slot 0]⟩
theorem corollarylaw16_alive_low:aG Try.prog 5=some corollarylaw16_alive:=by kernel_rfl
abbrev g3r0:List aA:=[⟨S 2,N,v (m (c (.bool false)))⟩]
abbrev g3r1:List aA:=[⟨S 3,N,v (m (c (I j 0)))⟩]
abbrev g3r2:List aA:=[⟨S 8,N,v (m (s 0))⟩,⟨S 9,N,v (w (s 8))⟩,⟨S 10,N,v (m (c (I j 0)))⟩]
abbrev g3r3:List aA:=[⟨S 11,N,v (b .lss (s 10) (s 9))⟩]
abbrev g3r4:List aA:=[⟨S 12,N,v (i F (s 8) (s 10))⟩,⟨S 13,N,v (l F (s 12))⟩,⟨S 5,N,v (m (s 13))⟩]
abbrev g3r5:List aA:=[⟨S 14,N,v (m (s 5))⟩,⟨S 15,N,v (w (s 14))⟩,⟨S 16,N,v (b .gtr (s 15) (c (I j 50)))⟩]
abbrev g3r6:List aA:=[⟨S 2,N,v (m (c (.bool true)))⟩]
abbrev g3r7:List aA:=[⟨S 17,N,v (m (s 5))⟩,⟨S 18,N,v (w (s 17))⟩,⟨S 19,N,v (m (c (I j 0)))⟩]
abbrev g3r8:List aA:=[⟨S 20,N,v (b .lss (s 19) (s 18))⟩]
abbrev g3r9:List aA:=[⟨S 21,N,v (i (.agg 3) (s 17) (s 19))⟩,⟨S 22,N,v (l (.agg 3) (s 21))⟩,⟨S 7,N,x (.agg 3) (c (.agg [(I j 0),(I j 0),(.str ⟨#[]⟩)]))⟩,⟨N,N,t (.agg 3) (s 7) (s 22)⟩]
abbrev g3r10:List aA:=[⟨S 23,N,v (m (s 3))⟩,⟨S 24,N,v (f 2 (s 7))⟩,⟨S 25,N,v (l F (s 24))⟩,⟨S 26,N,v (.slen (s 25))⟩,⟨S 27,N,v (b .add (s 23) (s 26))⟩,⟨S 3,N,v (m (s 27))⟩]
abbrev g3r11:List aA:=[⟨S 28,N,v (m (s 3))⟩,⟨S 29,N,v (b .gtr (s 28) (c (I j 2000)))⟩]
abbrev g3r12:List aA:=[⟨S 2,N,v (m (c (.bool true)))⟩]
abbrev g3r13:List aA:=[⟨S 30,N,v (b .add (s 19) (c (I j 1)))⟩,⟨S 19,N,v (m (s 30))⟩]
abbrev g3l0:aY:=(Q (O g3r8) (Q (C (s 20) Z (X 2)) (Q (K 3 (Q (O g3r9) (Q (O g3r10) (Q (O g3r11) (C (s 29) (Q (O g3r12) .ret) Z))))) (O g3r13))))
abbrev g3r14:List aA:=[⟨S 31,N,v (b .add (s 10) (c (I j 1)))⟩,⟨S 10,N,v (m (s 31))⟩]
abbrev g3l1:aY:=(Q (O g3r3) (Q (C (s 11) Z (X 0)) (Q (K 1 (Q (O g3r4) (Q (Q (O g3r5) (C (s 16) (Q (O g3r6) .ret) Z)) (Q (O g3r7) (K 2 (R g3l0)))))) (O g3r14))))
abbrev g3r15:List aA:=[⟨S 2,N,v (m (c (.bool false)))⟩]
def corollarylaw02_Long:LFn:=⟨(Q (O g3r0) (Q (O g3r1) (Q (Q (O g3r2) (K 0 (R g3l1))) (Q (O g3r15) .ret)))),32,[.slot 2]⟩
theorem corollarylaw02_Long_low:aG Try.prog 6=some corollarylaw02_Long:=by kernel_rfl
abbrev g4r0:List aA:=[⟨S 4,N,x (.agg 3) (c (.agg [(I j 0),(I j 0),(.str ⟨#[]⟩)]))⟩,⟨S 5,N,v (m (c .nilIface))⟩]
abbrev g4r1:List aA:=[⟨S 6,N,v (m (c (.fn (.func 16) [] [])))⟩]
abbrev g4r2:List aA:=[⟨S 7,N,v (m (c (.fn (.func 18) [] [])))⟩]
abbrev g4r3:List aA:=[⟨S 13,N,v (m (s 0))⟩,⟨S 14,N,v (b .lss (s 13) (c (I j 1)))⟩,⟨S 15,N,v (m (s 14))⟩,⟨S 16,S (15,false),v (m (s 0))⟩,⟨S 17,S (15,false),v (b .gtr (s 16) (c (I j 4)))⟩,⟨S 18,N,v (p (s 15) (c (.bool true)) (s 17))⟩,⟨S 12,N,v (m (s 18))⟩]
abbrev g4r4:List aA:=[⟨S 19,N,v (.build [(I j 0),(I j 0),(.str ⟨#[]⟩)] [])⟩,⟨S 20,N,v (.mkif 46 (c (I j 1)))⟩,⟨N,N,t (.agg 3) (s 4) (s 19)⟩,⟨S 5,N,v (m (s 20))⟩]
abbrev g4r5:List aA:=[⟨S 22,N,v (m (s 1))⟩,⟨S 23,N,v (w (s 22))⟩,⟨S 24,N,v (b .eql (s 23) (c (I j 0)))⟩,⟨S 21,N,v (m (s 24))⟩]
abbrev g4r6:List aA:=[⟨S 25,N,v (.build [(I j 0),(I j 0),(.str ⟨#[]⟩)] [])⟩,⟨S 26,N,v (.mkif 46 (c (I j 13)))⟩,⟨N,N,t (.agg 3) (s 4) (s 25)⟩,⟨S 5,N,v (m (s 26))⟩]
abbrev g4r7:List aA:=[⟨S 28,N,v (m (s 1))⟩,⟨S 29,N,v (m (s 6))⟩,⟨S 30,N,k 19 [s 28,s 29]⟩,⟨S 27,N,v (m (s 30))⟩]
abbrev g4r8:List aA:=[⟨S 31,N,v (.build [(I j 0),(I j 0),(.str ⟨#[]⟩)] [])⟩,⟨S 32,N,v (.mkif 46 (c (I j 2)))⟩,⟨N,N,t (.agg 3) (s 4) (s 31)⟩,⟨S 5,N,v (m (s 32))⟩]
abbrev g4r9:List aA:=[⟨S 34,N,v (m (s 0))⟩,⟨S 35,N,v (b .eql (s 34) (c (I j 2)))⟩,⟨S 36,N,v (m (s 35))⟩,⟨S 37,S (36,true),v (m (s 1))⟩,⟨S 38,S (36,true),v (m (s 7))⟩,⟨S 39,S (36,true),k 19 [s 37,s 38]⟩,⟨S 40,N,v (p (s 36) (s 39) (c (.bool false)))⟩,⟨S 33,N,v (m (s 40))⟩]
abbrev g4r10:List aA:=[⟨S 41,N,v (.build [(I j 0),(I j 0),(.str ⟨#[]⟩)] [])⟩,⟨S 42,N,v (.mkif 46 (c (I j 7)))⟩,⟨N,N,t (.agg 3) (s 4) (s 41)⟩,⟨S 5,N,v (m (s 42))⟩]
abbrev g4r11:List aA:=[⟨S 43,N,v (m (s 1))⟩,⟨S 44,N,k 20 [s 43,(c (.fn (.func 21) [] []))]⟩,⟨S 8,N,v (m (s 44))⟩]
abbrev g4r12:List aA:=[⟨S 45,N,v (m (s 0))⟩]
abbrev g4r13:List aA:=[⟨S 47,N,v (b .eql (s 45) (c (I j 1)))⟩,⟨S 46,N,v (m (s 47))⟩]
abbrev g4r14:List aA:=[⟨S 48,N,v (m (s 8))⟩,⟨S 49,N,v (w (s 48))⟩,⟨S 50,N,k 22 [s 49]⟩,⟨S 51,N,v (q (s 50) 0)⟩,⟨S 52,N,v (q (s 50) 1)⟩,⟨N,N,t (.agg 3) (s 4) (s 51)⟩,⟨S 5,N,v (m (s 52))⟩]
abbrev g4r15:List aA:=[⟨S 54,N,v (b .eql (s 45) (c (I j 3)))⟩,⟨S 53,N,v (m (s 54))⟩]
abbrev g4r16:List aA:=[⟨S 55,N,v (m (s 8))⟩,⟨S 56,N,v (i (.agg 3) (s 55) (c (I j 0)))⟩,⟨S 57,N,v (l (.agg 3) (s 56))⟩,⟨N,N,t (.agg 3) (s 4) (s 57)⟩,⟨S 5,N,v (m (c .nilIface))⟩]
abbrev g4r17:List aA:=[⟨S 59,N,v (b .eql (s 45) (c (I j 4)))⟩,⟨S 58,N,v (m (s 59))⟩]
abbrev g4r18:List aA:=[⟨S 60,N,v (m (s 8))⟩,⟨S 61,N,v (m (s 8))⟩,⟨S 62,N,v (w (s 61))⟩,⟨S 63,N,v (b .sub (s 62) (c (I j 1)))⟩,⟨S 64,N,v (i (.agg 3) (s 60) (s 63))⟩,⟨S 65,N,v (l (.agg 3) (s 64))⟩,⟨N,N,t (.agg 3) (s 4) (s 65)⟩,⟨S 5,N,v (m (c .nilIface))⟩]
abbrev g4r19:List aA:=[⟨S 9,N,v (m (c (I j 0)))⟩]
abbrev g4r20:List aA:=[⟨S 66,N,v (m (s 8))⟩,⟨S 67,N,v (w (s 66))⟩,⟨S 68,N,v (m (c (I j 0)))⟩]
abbrev g4r21:List aA:=[⟨S 69,N,v (b .lss (s 68) (s 67))⟩]
abbrev g4r22:List aA:=[⟨S 70,N,v (i (.agg 3) (s 66) (s 68))⟩,⟨S 71,N,v (l (.agg 3) (s 70))⟩,⟨S 11,N,x (.agg 3) (c (.agg [(I j 0),(I j 0),(.str ⟨#[]⟩)]))⟩,⟨N,N,t (.agg 3) (s 11) (s 71)⟩]
abbrev g4r23:List aA:=[⟨S 72,N,v (m (s 9))⟩,⟨S 73,N,v (f 1 (s 11))⟩,⟨S 74,N,v (l F (s 73))⟩,⟨S 75,N,v (b .add (s 72) (s 74))⟩,⟨S 9,N,v (m (s 75))⟩]
abbrev g4r24:List aA:=[⟨S 76,N,v (b .add (s 68) (c (I j 1)))⟩,⟨S 68,N,v (m (s 76))⟩]
abbrev g4l0:aY:=(Q (O g4r21) (Q (C (s 69) Z (X 2)) (Q (K 3 (Q (O g4r22) (O g4r23))) (O g4r24))))
abbrev g4r25:List aA:=[⟨S 77,N,v (m (s 9))⟩,⟨S 78,N,k 22 [s 77]⟩,⟨S 79,N,v (q (s 78) 0)⟩,⟨S 80,N,v (q (s 78) 1)⟩,⟨N,N,t (.agg 3) (s 4) (s 79)⟩,⟨S 5,N,v (m (s 80))⟩]
def agg_Fold:LFn:=⟨(Q (O g4r0) (Q (O g4r1) (Q (O g4r2) (Q (K 0 (Q (O g4r3) (C (s 12) (Q (O g4r4) .ret) (Q (O g4r5) (C (s 21) (Q (O g4r6) .ret) (Q (O g4r7) (C (s 27) (Q (O g4r8) .ret) (Q (O g4r9) (C (s 33) (Q (O g4r10) .ret) Z))))))))) (Q (O g4r11) (Q (Q (O g4r12) (K 1 (Q (O g4r13) (C (s 46) (Q (O g4r14) .ret) (Q (O g4r15) (C (s 53) (Q (O g4r16) .ret) (Q (O g4r17) (C (s 58) (Q (O g4r18) .ret) Z)))))))) (Q (O g4r19) (Q (Q (O g4r20) (K 2 (R g4l0))) (Q (O g4r25) .ret))))))))),81,[.cell 4 (.agg 3),.slot 5]⟩
theorem agg_Fold_low:aG Try.prog 7=some agg_Fold:=by kernel_rfl
abbrev g6r0:List aA:=[⟨S 2,N,v (m (c (I j 0)))⟩]
abbrev g6r1:List aA:=[⟨S 5,N,v (m (s 0))⟩,⟨S 6,N,v (e false (.iface true) (s 5) (c .nilIface))⟩]
abbrev g6r2:List aA:=[⟨S 2,N,v (m (c (I j 0)))⟩]
abbrev g6r3:List aA:=[⟨S 8,N,v (m (s 0))⟩,⟨S 9,N,v (.asrt 46 (I j 0) (s 8))⟩,⟨S 7,N,v (m (s 9))⟩,⟨S 10,N,v (q (s 7) 0)⟩,⟨S 11,N,v (q (s 7) 1)⟩,⟨S 3,N,v (m (s 10))⟩,⟨S 4,N,v (m (s 11))⟩]
abbrev g6r4:List aA:=[⟨S 12,N,v (m (s 4))⟩,⟨S 13,N,v (m (s 12))⟩,⟨S 14,S (13,true),v (m (s 3))⟩,⟨S 15,S (13,true),v (b .neq (s 14) (c (I j 0)))⟩,⟨S 16,N,v (p (s 13) (s 15) (c (.bool false)))⟩]
abbrev g6r5:List aA:=[⟨S 17,N,v (m (s 3))⟩,⟨S 2,N,v (m (s 17))⟩]
abbrev g6r6:List aA:=[⟨S 2,N,v (m (c (I j (-1))))⟩]
def corollarynum_Num:LFn:=⟨(Q (O g6r0) (Q (Q (O g6r1) (C (s 6) (Q (O g6r2) .ret) Z)) (Q (Q (O g6r3) (Q (O g6r4) (C (s 16) (Q (O g6r5) .ret) Z))) (Q (O g6r6) .ret)))),18,[.slot 2]⟩
theorem corollarynum_Num_low:aG Try.prog 9=some corollarynum_Num:=by kernel_rfl
abbrev g7r0:List aA:=[⟨S 2,N,v (m (c (.bool false)))⟩]
abbrev g7r1:List aA:=[⟨S 3,N,v (m (s 0))⟩,⟨S 4,N,v (w (s 3))⟩,⟨S 5,N,v (b .gtr (s 4) (c (I j 60)))⟩,⟨S 6,N,v (m (s 5))⟩,⟨S 7,S (6,false),v (m (s 0))⟩,⟨S 8,S (6,false),k 6 [s 7]⟩,⟨S 9,N,v (p (s 6) (c (.bool true)) (s 8))⟩,⟨S 2,N,v (m (s 9))⟩]
def corollarylaw03_Large:LFn:=⟨(Q (O g7r0) (Q (O g7r1) .ret)),10,[.slot 2]⟩
theorem corollarylaw03_Large_low:aG Try.prog 10=some corollarylaw03_Large:=by kernel_rfl
abbrev g8r0:List aA:=[⟨S 6,N,v (m (c (.sl F .nil [])))⟩,⟨S 7,N,v (m (c .nilIface))⟩]
abbrev g8r1:List aA:=[⟨S 17,N,v (m (s 0))⟩,⟨S 18,N,v (b .lss (s 17) (c (I j 0)))⟩,⟨S 19,N,v (m (s 18))⟩,⟨S 20,S (19,false),v (m (s 0))⟩,⟨S 21,S (19,false),v (b .gtr (s 20) (c (I j 4)))⟩,⟨S 22,N,v (p (s 19) (c (.bool true)) (s 21))⟩]
abbrev g8r2:List aA:=[⟨S 23,N,v (.mkif 46 (c (I j 1)))⟩,⟨S 6,N,v (m (c (.sl F .nil [])))⟩,⟨S 7,N,v (m (s 23))⟩]
abbrev g8r3:List aA:=[⟨S 24,N,v (m (s 2))⟩,⟨S 25,N,k 25 [s 24,(c (.fn (.func 14) [] []))]⟩,⟨S 8,N,v (m (s 25))⟩]
abbrev g8r4:List aA:=[⟨S 26,N,v (m (s 8))⟩,⟨S 27,N,v (w (s 26))⟩,⟨S 28,N,v (m (c (I j 0)))⟩]
abbrev g8r5:List aA:=[⟨S 29,N,v (b .lss (s 28) (s 27))⟩]
abbrev g8r6:List aA:=[⟨S 30,N,v (m (s 28))⟩,⟨S 31,N,v (i F (s 26) (s 28))⟩,⟨S 32,N,v (l F (s 31))⟩,⟨S 9,N,v (m (s 30))⟩,⟨S 10,N,v (m (s 32))⟩]
abbrev g8r7:List aA:=[⟨S 33,N,v (m (s 0))⟩,⟨S 34,N,v (b .gtr (s 33) (c (I j 0)))⟩,⟨S 35,N,v (m (s 34))⟩,⟨S 36,S (35,true),v (m (s 1))⟩,⟨S 37,S (35,true),v (b .lss (s 36) (c (I j 0)))⟩,⟨S 38,S (35,true),v (m (s 37))⟩,⟨S 39,S (38,false),v (m (s 1))⟩,⟨S 40,S (38,false),v (m (s 10))⟩,⟨S 41,S (38,false),v (w (s 40))⟩,⟨S 42,S (38,false),v (b .geq (s 39) (s 41))⟩,⟨S 43,S (35,true),v (p (s 38) (c (.bool true)) (s 42))⟩,⟨S 44,N,v (p (s 35) (s 43) (c (.bool false)))⟩]
abbrev g8r8:List aA:=[⟨S 45,N,v (.mkif 46 (c (I j 1)))⟩,⟨S 6,N,v (m (c (.sl F .nil [])))⟩,⟨S 7,N,v (m (s 45))⟩]
abbrev g8r9:List aA:=[⟨S 46,N,v (m (s 8))⟩,⟨S 47,N,v (m (s 9))⟩,⟨S 48,N,v (m (s 10))⟩,⟨S 49,N,k 26 [s 48]⟩,⟨S 50,N,v (i F (s 46) (s 47))⟩,⟨N,N,t F (s 50) (s 49)⟩]
abbrev g8r10:List aA:=[⟨S 51,N,v (b .add (s 28) (c (I j 1)))⟩,⟨S 28,N,v (m (s 51))⟩]
abbrev g8l0:aY:=(Q (O g8r5) (Q (C (s 29) Z (X 0)) (Q (K 1 (Q (O g8r6) (Q (Q (O g8r7) (C (s 44) (Q (O g8r8) .ret) Z)) (O g8r9)))) (O g8r10))))
abbrev g8r11:List aA:=[⟨S 52,N,v (m (s 0))⟩,⟨S 53,N,v (b .eql (s 52) (c (I j 0)))⟩]
abbrev g8r12:List aA:=[⟨S 54,N,v (m (s 8))⟩,⟨S 6,N,v (m (s 54))⟩,⟨S 7,N,v (m (c .nilIface))⟩]
abbrev g8r13:List aA:=[⟨S 11,N,v (m (c (.sl F .nil [])))⟩]
abbrev g8r14:List aA:=[⟨S 55,N,v (m (s 8))⟩,⟨S 56,N,v (w (s 55))⟩,⟨S 57,N,v (b .gtr (s 56) (c (I j 0)))⟩]
abbrev g8r15:List aA:=[⟨S 58,N,v (m (s 8))⟩,⟨S 59,N,v (i F (s 58) (c (I j 0)))⟩,⟨S 60,N,v (l F (s 59))⟩,⟨S 61,N,v (m (s 1))⟩,⟨S 62,N,k 27 [s 60,s 61]⟩,⟨S 12,N,v (m (s 62))⟩]
abbrev g8r16:List aA:=[⟨S 64,N,v (m (s 8))⟩,⟨S 65,N,v (m (s 1))⟩,⟨S 66,N,v (m (s 12))⟩,⟨S 67,N,k 28 [s 64,s 65,s 66]⟩,⟨S 63,N,v (m (s 67))⟩,⟨S 68,N,v (q (s 63) 0)⟩,⟨S 69,N,v (q (s 63) 1)⟩,⟨S 13,N,v (m (s 68))⟩,⟨S 14,N,v (m (s 69))⟩]
abbrev g8r17:List aA:=[⟨S 71,N,v (m (s 0))⟩,⟨S 72,N,v (m (s 13))⟩,⟨S 73,N,k 7 [s 71,s 72]⟩,⟨S 70,N,v (m (s 73))⟩,⟨S 74,N,v (q (s 70) 0)⟩,⟨S 75,N,v (q (s 70) 1)⟩,⟨S 15,N,x (.agg 3) (c (.agg [(I j 0),(I j 0),(.str ⟨#[]⟩)]))⟩,⟨N,N,t (.agg 3) (s 15) (s 74)⟩,⟨S 16,N,v (m (s 75))⟩]
abbrev g8r18:List aA:=[⟨S 76,N,v (m (s 16))⟩,⟨S 77,N,v (e true (.iface true) (s 76) (c .nilIface))⟩]
abbrev g8r19:List aA:=[⟨S 78,N,v (m (s 16))⟩,⟨S 6,N,v (m (c (.sl F .nil [])))⟩,⟨S 7,N,v (m (s 78))⟩]
abbrev g8r20:List aA:=[⟨S 79,N,v (m (s 11))⟩,⟨S 80,N,v (m (s 12))⟩,⟨S 81,N,v (m (s 1))⟩,⟨S 82,N,v (l (.agg 3) (s 15))⟩,⟨S 83,N,y (.agg 3) [s 82]⟩,⟨S 84,N,k 29 [s 80,s 81,s 83]⟩,⟨S 85,N,y F [s 84]⟩,⟨S 86,N,a F 24 (s 79) (s 85)⟩,⟨S 11,N,v (m (s 86))⟩]
abbrev g8r21:List aA:=[⟨S 87,N,v (m (s 14))⟩,⟨S 8,N,v (m (s 87))⟩]
abbrev g8l1:aY:=(Q (Q (O g8r14) (C (s 57) Z (X 2))) (K 3 (Q (O g8r15) (Q (O g8r16) (Q (O g8r17) (Q (Q (O g8r18) (C (s 77) (Q (O g8r19) .ret) Z)) (Q (O g8r20) (O g8r21))))))))
abbrev g8r22:List aA:=[⟨S 88,N,v (m (s 11))⟩,⟨S 89,N,k 25 [s 88,(c (.fn (.func 14) [] []))]⟩,⟨S 6,N,v (m (s 89))⟩,⟨S 7,N,v (m (c .nilIface))⟩]
def agg_Group:LFn:=⟨(Q (O g8r0) (Q (Q (O g8r1) (C (s 22) (Q (O g8r2) .ret) Z)) (Q (O g8r3) (Q (Q (O g8r4) (K 0 (R g8l0))) (Q (Q (O g8r11) (C (s 53) (Q (O g8r12) .ret) Z)) (Q (O g8r13) (Q (K 2 (R g8l1)) (Q (O g8r22) .ret)))))))),90,[.slot 6,.slot 7]⟩
theorem agg_Group_low:aG Try.prog 11=some agg_Group:=by kernel_rfl
abbrev g9r0:List aA:=[⟨S 4,N,v (m (c (.bool false)))⟩]
abbrev g9r1:List aA:=[⟨S 6,N,v (m (s 0))⟩,⟨S 7,N,v (w (s 6))⟩,⟨S 8,N,v (m (s 1))⟩,⟨S 9,N,v (w (s 8))⟩,⟨S 10,N,v (b .neq (s 7) (s 9))⟩]
abbrev g9r2:List aA:=[⟨S 4,N,v (m (c (.bool false)))⟩]
abbrev g9r3:List aA:=[⟨S 11,N,v (m (s 0))⟩,⟨S 12,N,v (w (s 11))⟩,⟨S 13,N,v (m (c (I j 0)))⟩]
abbrev g9r4:List aA:=[⟨S 14,N,v (b .lss (s 13) (s 12))⟩]
abbrev g9r5:List aA:=[⟨S 15,N,v (m (s 13))⟩,⟨S 5,N,v (m (s 15))⟩]
abbrev g9r6:List (aA×List Nat):=[(⟨S 16,N,v (m (s 0))⟩,[]),(⟨S 17,N,v (m (s 5))⟩,[]),(⟨S 18,N,v (i F (s 16) (s 17))⟩,[0,1]),(⟨S 19,N,v (l F (s 18))⟩,[0,1,2]),(⟨S 20,N,v (m (s 1))⟩,[]),(⟨S 21,N,v (m (s 5))⟩,[]),(⟨S 22,N,v (i F (s 20) (s 21))⟩,[4,5]),(⟨S 23,N,v (l F (s 22))⟩,[4,5,6]),(⟨S 24,N,k 30 [s 19,s 23]⟩,[0,1,2,3,4,5,6,7]),(⟨S 25,N,v (.not (s 24))⟩,[0,1,2,3,4,5,6,7,8])]
abbrev g9r6t:List aA:=[]
abbrev g9r7:List aA:=[⟨S 4,N,v (m (c (.bool false)))⟩]
abbrev g9r8:List aA:=[⟨S 26,N,v (b .add (s 13) (c (I j 1)))⟩,⟨S 13,N,v (m (s 26))⟩]
abbrev g9l0:aY:=(Q (O g9r4) (Q (C (s 14) Z (X 0)) (Q (K 1 (Q (O g9r5) (Q (D 10 g9r6 g9r6t) (C (s 25) (Q (O g9r7) .ret) Z)))) (O g9r8))))
abbrev g9r9:List aA:=[⟨S 4,N,v (m (c (.bool true)))⟩]
def corollarynum_Tuples:LFn:=⟨(Q (O g9r0) (Q (Q (O g9r1) (C (s 10) (Q (O g9r2) .ret) Z)) (Q (Q (O g9r3) (K 0 (R g9l0))) (Q (O g9r9) .ret)))),27,[.slot 4]⟩
theorem corollarynum_Tuples_low:aG Try.prog 12=some corollarynum_Tuples:=by kernel_rfl
abbrev g10r0:List aA:=[⟨S 2,N,v (m (c (.bool false)))⟩]
abbrev g10r1:List aA:=[⟨S 3,N,v (m (c (I j 1)))⟩]
abbrev g10r2:List aA:=[⟨S 4,N,v (m (s 3))⟩,⟨S 5,N,v (m (s 0))⟩,⟨S 6,N,v (w (s 5))⟩,⟨S 7,N,v (b .lss (s 4) (s 6))⟩]
abbrev g10r3:List (aA×List Nat):=[(⟨S 10,N,v (m (s 0))⟩,[]),(⟨S 11,N,v (m (s 3))⟩,[]),(⟨S 12,N,v (b .sub (s 11) (c (I j 1)))⟩,[1]),(⟨S 13,N,v (i F (s 10) (s 12))⟩,[0,1,2]),(⟨S 14,N,v (l F (s 13))⟩,[0,1,2,3]),(⟨S 15,N,v (m (s 0))⟩,[]),(⟨S 16,N,v (m (s 3))⟩,[]),(⟨S 17,N,v (i F (s 15) (s 16))⟩,[5,6]),(⟨S 18,N,v (l F (s 17))⟩,[5,6,7]),(⟨S 19,N,k 31 [s 14,s 18]⟩,[0,1,2,3,4,5,6,7,8]),(⟨S 20,N,v (.not (s 19))⟩,[0,1,2,3,4,5,6,7,8,9])]
abbrev g10r3t:List aA:=[]
abbrev g10r4:List aA:=[⟨S 2,N,v (m (c (.bool false)))⟩]
abbrev g10r5:List aA:=[⟨S 8,N,v (m (s 3))⟩,⟨S 9,N,v (b .add (s 8) (c (I j 1)))⟩,⟨S 3,N,v (m (s 9))⟩]
abbrev g10l0:aY:=(Q (Q (O g10r2) (C (s 7) Z (X 0))) (Q (K 1 (Q (D 11 g10r3 g10r3t) (C (s 20) (Q (O g10r4) .ret) Z))) (O g10r5)))
abbrev g10r6:List aA:=[⟨S 2,N,v (m (c (.bool true)))⟩]
def corollaryref16_Ahead:LFn:=⟨(Q (O g10r0) (Q (Q (O g10r1) (K 0 (R g10l0))) (Q (O g10r6) .ret))),21,[.slot 2]⟩
theorem corollaryref16_Ahead_low:aG Try.prog 13=some corollaryref16_Ahead:=by kernel_rfl
abbrev g11r0:List aA:=[⟨S 4,N,v (m (c (I j 0)))⟩]
abbrev g11r1:List aA:=[⟨S 5,N,v (m (s 0))⟩,⟨S 6,N,v (m (s 1))⟩,⟨S 7,N,k 32 [s 5,s 6,(c (.fn (.func 21) [] []))]⟩,⟨S 4,N,v (m (s 7))⟩]
def tuple_Compare:LFn:=⟨(Q (O g11r0) (Q (O g11r1) .ret)),8,[.slot 4]⟩
theorem tuple_Compare_low:aG Try.prog 14=some tuple_Compare:=by kernel_rfl
abbrev g12r0:List aA:=[⟨S 4,N,v (m (c (.sl (.agg 3) .nil [])))⟩]
abbrev g12r1:List aA:=[⟨S 5,N,v (m (s 0))⟩,⟨S 6,N,v (.build [(I j 0),(I j 0),(.str ⟨#[]⟩)] [(0,F,(c (I j 1))),(1,F,(s 5))])⟩,⟨S 7,N,v (m (s 1))⟩,⟨S 8,N,v (.build [(I j 0),(I j 0),(.str ⟨#[]⟩)] [(0,F,(c (I j 1))),(1,F,(s 7))])⟩,⟨S 9,N,y (.agg 3) [s 6,s 8]⟩,⟨S 4,N,v (m (s 9))⟩]
def corollarylaw16_alive_1:LFn:=⟨(Q (O g12r0) (Q (O g12r1) .ret)),10,[.slot 4]⟩
theorem corollarylaw16_alive_1_low:aG Try.prog 15=some corollarylaw16_alive_1:=by kernel_rfl
abbrev g13r0:List aA:=[⟨S 1,N,x (.agg 3) (s 0)⟩,⟨S 2,N,v (m (c (.bool false)))⟩]
abbrev g13r1:List aA:=[⟨S 3,N,v (l (.agg 3) (s 1))⟩,⟨S 4,N,k 17 [s 3]⟩,⟨S 5,N,v (.not (s 4))⟩,⟨S 2,N,v (m (s 5))⟩]
def agg_Fold_1:LFn:=⟨(Q (O g13r0) (Q (O g13r1) .ret)),6,[.slot 2]⟩
theorem agg_Fold_1_low:aG Try.prog 16=some agg_Fold_1:=by kernel_rfl
abbrev g14r0:List aA:=[⟨S 1,N,x (.agg 3) (s 0)⟩,⟨S 2,N,v (m (c (.bool false)))⟩]
abbrev g14r1:List aA:=[⟨S 3,N,v (f 0 (s 1))⟩,⟨S 4,N,v (l F (s 3))⟩]
abbrev g14r2:List aA:=[⟨S 6,N,v (b .eql (s 4) (c (I j 1)))⟩,⟨S 5,N,v (m (s 6))⟩]
abbrev g14r3:List aA:=[⟨S 7,N,v (f 2 (s 1))⟩,⟨S 8,N,v (l F (s 7))⟩,⟨S 9,N,v (b .eql (s 8) (c (.str ⟨#[]⟩)))⟩,⟨S 10,N,v (m (s 9))⟩,⟨S 11,S (10,true),v (f 1 (s 1))⟩,⟨S 12,S (10,true),v (l F (s 11))⟩,⟨S 13,S (10,true),k 33 [s 12]⟩,⟨S 14,N,v (p (s 10) (s 13) (c (.bool false)))⟩,⟨S 2,N,v (m (s 14))⟩]
abbrev g14r4:List aA:=[⟨S 16,N,v (b .eql (s 4) (c (I j 2)))⟩,⟨S 15,N,v (m (s 16))⟩]
abbrev g14r5:List aA:=[⟨S 17,N,v (f 1 (s 1))⟩,⟨S 18,N,v (l F (s 17))⟩,⟨S 19,N,v (b .eql (s 18) (c (I j 0)))⟩,⟨S 20,N,v (m (s 19))⟩,⟨S 21,S (20,true),v (f 2 (s 1))⟩,⟨S 22,S (20,true),v (l F (s 21))⟩,⟨S 23,S (20,true),k 34 [s 22]⟩,⟨S 24,N,v (p (s 20) (s 23) (c (.bool false)))⟩,⟨S 2,N,v (m (s 24))⟩]
abbrev g14r6:List aA:=[⟨S 2,N,v (m (c (.bool false)))⟩]
def value_Right:LFn:=⟨(Q (O g14r0) (Q (Q (O g14r1) (K 0 (Q (O g14r2) (C (s 5) (Q (O g14r3) .ret) (Q (O g14r4) (C (s 15) (Q (O g14r5) .ret) Z)))))) (Q (O g14r6) .ret))),25,[.slot 2]⟩
theorem value_Right_low:aG Try.prog 17=some value_Right:=by kernel_rfl
abbrev g15r0:List aA:=[⟨S 1,N,x (.agg 3) (s 0)⟩,⟨S 2,N,v (m (c (.bool false)))⟩]
abbrev g15r1:List aA:=[⟨S 3,N,v (f 0 (s 1))⟩,⟨S 4,N,v (l F (s 3))⟩,⟨S 5,N,v (b .neq (s 4) (c (I j 1)))⟩,⟨S 2,N,v (m (s 5))⟩]
def agg_Fold_2:LFn:=⟨(Q (O g15r0) (Q (O g15r1) .ret)),6,[.slot 2]⟩
theorem agg_Fold_2_low:aG Try.prog 18=some agg_Fold_2:=by kernel_rfl
abbrev g18r0:List aA:=[⟨S 2,N,x (.agg 3) (s 0)⟩,⟨S 3,N,x (.agg 3) (s 1)⟩,⟨S 4,N,v (m (c (I j 0)))⟩]
abbrev g18r1:List (aA×List Nat):=[(⟨S 5,N,v (f 0 (s 2))⟩,[]),(⟨S 6,N,v (l F (s 5))⟩,[0]),(⟨S 7,N,v (f 0 (s 3))⟩,[]),(⟨S 8,N,v (l F (s 7))⟩,[2]),(⟨S 9,N,k 41 [s 6,s 8]⟩,[0,1,2,3]),(⟨S 10,N,v (f 1 (s 2))⟩,[]),(⟨S 11,N,v (l F (s 10))⟩,[5]),(⟨S 12,N,v (f 1 (s 3))⟩,[]),(⟨S 13,N,v (l F (s 12))⟩,[7]),(⟨S 14,N,k 42 [s 11,s 13]⟩,[0,1,2,3,4,5,6,7,8]),(⟨S 15,N,v (f 2 (s 2))⟩,[]),(⟨S 16,N,v (l F (s 15))⟩,[10]),(⟨S 17,N,v (f 2 (s 3))⟩,[]),(⟨S 18,N,v (l F (s 17))⟩,[12]),(⟨S 19,N,k 43 [s 16,s 18]⟩,[0,1,2,3,4,5,6,7,8,9,10,11,12,13]),(⟨S 20,N,y F [s 9,s 14,s 19]⟩,[0,1,2,3,4,5,6,7,8,9,10,11,12,13,14]),(⟨S 21,N,k 40 [s 20]⟩,[0,1,2,3,4,5,6,7,8,9,10,11,12,13,14,15]),(⟨S 4,N,v (m (s 21))⟩,[0,1,2,3,4,5,6,7,8,9,10,11,12,13,14,15,16])]
abbrev g18r1t:List aA:=[]
def value_Compare:LFn:=⟨(Q (O g18r0) (Q (D 18 g18r1 g18r1t) .ret)),22,[.slot 4]⟩
theorem value_Compare_low:aG Try.prog 21=some value_Compare:=by kernel_rfl
abbrev g19r0:List aA:=[⟨S 2,N,x (.agg 3) (c (.agg [(I j 0),(I j 0),(.str ⟨#[]⟩)]))⟩,⟨S 3,N,v (m (c .nilIface))⟩]
abbrev g19r1:List aA:=[⟨S 4,N,v (m (s 0))⟩,⟨S 5,N,k 33 [s 4]⟩,⟨S 6,N,v (.not (s 5))⟩]
abbrev g19r2:List aA:=[⟨S 7,N,v (.build [(I j 0),(I j 0),(.str ⟨#[]⟩)] [])⟩,⟨S 8,N,v (.mkif 46 (c (I j 10)))⟩,⟨N,N,t (.agg 3) (s 2) (s 7)⟩,⟨S 3,N,v (m (s 8))⟩]
abbrev g19r3:List aA:=[⟨S 9,N,v (m (s 0))⟩,⟨S 10,N,v (.build [(I j 0),(I j 0),(.str ⟨#[]⟩)] [(0,F,(c (I j 1))),(1,F,(s 9))])⟩,⟨N,N,t (.agg 3) (s 2) (s 10)⟩,⟨S 3,N,v (m (c .nilIface))⟩]
def value_Of:LFn:=⟨(Q (O g19r0) (Q (Q (O g19r1) (C (s 6) (Q (O g19r2) .ret) Z)) (Q (O g19r3) .ret))),11,[.cell 2 (.agg 3),.slot 3]⟩
theorem value_Of_low:aG Try.prog 22=some value_Of:=by kernel_rfl
abbrev g21r0:List aA:=[⟨S 2,N,x (.agg 3) (s 0)⟩,⟨S 3,N,x (.agg 3) (s 1)⟩,⟨S 4,N,v (m (c (.bool false)))⟩]
abbrev g21r1:List aA:=[⟨S 5,N,v (f 0 (s 2))⟩,⟨S 6,N,v (l F (s 5))⟩,⟨S 7,N,v (f 0 (s 3))⟩,⟨S 8,N,v (l F (s 7))⟩,⟨S 9,N,v (b .neq (s 6) (s 8))⟩]
abbrev g21r2:List aA:=[⟨S 10,N,v (f 0 (s 2))⟩,⟨S 11,N,v (l F (s 10))⟩,⟨S 12,N,v (f 0 (s 3))⟩,⟨S 13,N,v (l F (s 12))⟩,⟨S 14,N,v (b .lss (s 11) (s 13))⟩,⟨S 4,N,v (m (s 14))⟩]
abbrev g21r3:List aA:=[⟨S 15,N,v (f 1 (s 2))⟩,⟨S 16,N,v (l F (s 15))⟩,⟨S 17,N,v (f 1 (s 3))⟩,⟨S 18,N,v (l F (s 17))⟩,⟨S 19,N,v (b .neq (s 16) (s 18))⟩]
abbrev g21r4:List aA:=[⟨S 20,N,v (f 1 (s 2))⟩,⟨S 21,N,v (l F (s 20))⟩,⟨S 22,N,v (f 1 (s 3))⟩,⟨S 23,N,v (l F (s 22))⟩,⟨S 24,N,v (b .lss (s 21) (s 23))⟩,⟨S 4,N,v (m (s 24))⟩]
abbrev g21r5:List aA:=[⟨S 25,N,v (f 2 (s 2))⟩,⟨S 26,N,v (l F (s 25))⟩,⟨S 27,N,v (f 2 (s 3))⟩,⟨S 28,N,v (l F (s 27))⟩,⟨S 29,N,v (b .lss (s 26) (s 28))⟩,⟨S 4,N,v (m (s 29))⟩]
def corollaryref01_Less:LFn:=⟨(Q (O g21r0) (Q (Q (O g21r1) (C (s 9) (Q (O g21r2) .ret) Z)) (Q (Q (O g21r3) (C (s 19) (Q (O g21r4) .ret) Z)) (Q (O g21r5) .ret)))),30,[.slot 4]⟩
theorem corollaryref01_Less_low:aG Try.prog 24=some corollaryref01_Less:=by kernel_rfl
abbrev g23r0:List aA:=[⟨S 2,N,v (m (c (.sl (.agg 3) .nil [])))⟩]
abbrev g23r1:List aA:=[⟨S 3,N,v (m (s 0))⟩,⟨S 4,N,k 49 [s 3]⟩,⟨S 2,N,v (m (s 4))⟩]
def tuple_Copy:LFn:=⟨(Q (O g23r0) (Q (O g23r1) .ret)),5,[.slot 2]⟩
theorem tuple_Copy_low:aG Try.prog 26=some tuple_Copy:=by kernel_rfl
abbrev g24r0:List aA:=[⟨S 4,N,v (m (c (.sl (.agg 3) .nil [])))⟩]
abbrev g24r1:List aA:=[⟨S 5,N,v (m (s 0))⟩,⟨S 6,N,k 26 [s 5]⟩,⟨S 7,N,v (m (s 1))⟩,⟨S 8,N,v (m (s 1))⟩,⟨S 9,N,v (b .add (s 8) (c (I j 1)))⟩,⟨S 10,N,k 50 [s 6,s 7,s 9]⟩,⟨S 4,N,v (m (s 10))⟩]
def agg_without:LFn:=⟨(Q (O g24r0) (Q (O g24r1) .ret)),11,[.slot 4]⟩
theorem agg_without_low:aG Try.prog 27=some agg_without:=by kernel_rfl
abbrev g25r0:List aA:=[⟨S 6,N,v (m (c (.sl (.agg 3) .nil [])))⟩,⟨S 7,N,v (m (c (.sl F .nil [])))⟩]
abbrev g25r1:List aA:=[⟨S 10,N,v (m (s 0))⟩,⟨S 11,N,v (w (s 10))⟩,⟨S 12,N,v (m (c (I j 0)))⟩]
abbrev g25r2:List aA:=[⟨S 13,N,v (b .lss (s 12) (s 11))⟩]
abbrev g25r3:List aA:=[⟨S 14,N,v (i F (s 10) (s 12))⟩,⟨S 15,N,v (l F (s 14))⟩,⟨S 9,N,v (m (s 15))⟩]
abbrev g25r4:List aA:=[⟨S 16,N,v (m (s 9))⟩,⟨S 17,N,v (m (s 1))⟩,⟨S 18,N,k 27 [s 16,s 17]⟩,⟨S 19,N,v (m (s 2))⟩,⟨S 20,N,k 14 [s 18,s 19]⟩,⟨S 21,N,v (b .eql (s 20) (c (I j 0)))⟩]
abbrev g25r5:List aA:=[⟨S 22,N,v (m (s 6))⟩,⟨S 23,N,v (m (s 9))⟩,⟨S 24,N,v (m (s 1))⟩,⟨S 25,N,v (i (.agg 3) (s 23) (s 24))⟩,⟨S 26,N,v (l (.agg 3) (s 25))⟩,⟨S 27,N,y (.agg 3) [s 26]⟩,⟨S 28,N,a (.agg 3) 32 (s 22) (s 27)⟩,⟨S 6,N,v (m (s 28))⟩]
abbrev g25r6:List aA:=[⟨S 29,N,v (m (s 7))⟩,⟨S 30,N,v (m (s 9))⟩,⟨S 31,N,y F [s 30]⟩,⟨S 32,N,a F 24 (s 29) (s 31)⟩,⟨S 7,N,v (m (s 32))⟩]
abbrev g25r7:List aA:=[⟨S 33,N,v (b .add (s 12) (c (I j 1)))⟩,⟨S 12,N,v (m (s 33))⟩]
abbrev g25l0:aY:=(Q (O g25r2) (Q (C (s 13) Z (X 0)) (Q (K 1 (Q (O g25r3) (Q (O g25r4) (C (s 21) (O g25r5) (O g25r6))))) (O g25r7))))
abbrev g25r8:List aA:=[⟨S 34,N,v (m (s 6))⟩,⟨S 35,N,v (m (s 7))⟩,⟨S 6,N,v (m (s 34))⟩,⟨S 7,N,v (m (s 35))⟩]
def agg_part:LFn:=⟨(Q (O g25r0) (Q (Q (O g25r1) (K 0 (R g25l0))) (Q (O g25r8) .ret))),36,[.slot 6,.slot 7]⟩
theorem agg_part_low:aG Try.prog 28=some agg_part:=by kernel_rfl
abbrev g26r0:List aA:=[⟨S 4,N,v (m (c (.bool false)))⟩]
abbrev g26r1:List aA:=[⟨S 6,N,v (m (s 0))⟩,⟨S 7,N,v (w (s 6))⟩,⟨S 8,N,v (m (s 1))⟩,⟨S 9,N,v (w (s 8))⟩,⟨S 10,N,v (b .neq (s 7) (s 9))⟩]
abbrev g26r2:List aA:=[⟨S 4,N,v (m (c (.bool false)))⟩]
abbrev g26r3:List aA:=[⟨S 11,N,v (m (s 0))⟩,⟨S 12,N,v (w (s 11))⟩,⟨S 13,N,v (m (c (I j 0)))⟩]
abbrev g26r4:List aA:=[⟨S 14,N,v (b .lss (s 13) (s 12))⟩]
abbrev g26r5:List aA:=[⟨S 15,N,v (m (s 13))⟩,⟨S 5,N,v (m (s 15))⟩]
abbrev g26r6:List (aA×List Nat):=[(⟨S 16,N,v (m (s 0))⟩,[]),(⟨S 17,N,v (m (s 5))⟩,[]),(⟨S 18,N,v (i (.agg 3) (s 16) (s 17))⟩,[0,1]),(⟨S 19,N,v (l (.agg 3) (s 18))⟩,[0,1,2]),(⟨S 20,N,v (m (s 1))⟩,[]),(⟨S 21,N,v (m (s 5))⟩,[]),(⟨S 22,N,v (i (.agg 3) (s 20) (s 21))⟩,[4,5]),(⟨S 23,N,v (l (.agg 3) (s 22))⟩,[4,5,6]),(⟨S 24,N,v (e true (.plain (.agg 3) [.int,.int,.str]) (s 19) (s 23))⟩,[0,1,2,3,4,5,6,7])]
abbrev g26r6t:List aA:=[]
abbrev g26r7:List aA:=[⟨S 4,N,v (m (c (.bool false)))⟩]
abbrev g26r8:List aA:=[⟨S 25,N,v (b .add (s 13) (c (I j 1)))⟩,⟨S 13,N,v (m (s 25))⟩]
abbrev g26l0:aY:=(Q (O g26r4) (Q (C (s 14) Z (X 0)) (Q (K 1 (Q (O g26r5) (Q (D 9 g26r6 g26r6t) (C (s 24) (Q (O g26r7) .ret) Z)))) (O g26r8))))
abbrev g26r9:List aA:=[⟨S 4,N,v (m (c (.bool true)))⟩]
def corollarynum_Tuple:LFn:=⟨(Q (O g26r0) (Q (Q (O g26r1) (C (s 10) (Q (O g26r2) .ret) Z)) (Q (Q (O g26r3) (K 0 (R g26l0))) (Q (O g26r9) .ret)))),26,[.slot 4]⟩
theorem corollarynum_Tuple_low:aG Try.prog 30=some corollarynum_Tuple:=by kernel_rfl
abbrev g27r0:List aA:=[⟨S 4,N,v (m (c (.bool false)))⟩]
abbrev g27r1:List aA:=[⟨S 5,N,v (m (c (I j 0)))⟩]
abbrev g27r2:List aA:=[⟨S 6,N,v (m (s 5))⟩,⟨S 7,N,v (m (s 0))⟩,⟨S 8,N,v (w (s 7))⟩,⟨S 9,N,v (b .lss (s 6) (s 8))⟩,⟨S 10,N,v (m (s 9))⟩,⟨S 11,S (10,true),v (m (s 5))⟩,⟨S 12,S (10,true),v (m (s 1))⟩,⟨S 13,S (10,true),v (w (s 12))⟩,⟨S 14,S (10,true),v (b .lss (s 11) (s 13))⟩,⟨S 15,N,v (p (s 10) (s 14) (c (.bool false)))⟩]
abbrev g27r3:List (aA×List Nat):=[(⟨S 18,N,v (m (s 0))⟩,[]),(⟨S 19,N,v (m (s 5))⟩,[]),(⟨S 20,N,v (i (.agg 3) (s 18) (s 19))⟩,[0,1]),(⟨S 21,N,v (l (.agg 3) (s 20))⟩,[0,1,2]),(⟨S 22,N,v (m (s 1))⟩,[]),(⟨S 23,N,v (m (s 5))⟩,[]),(⟨S 24,N,v (i (.agg 3) (s 22) (s 23))⟩,[4,5]),(⟨S 25,N,v (l (.agg 3) (s 24))⟩,[4,5,6]),(⟨S 26,N,v (e true (.plain (.agg 3) [.int,.int,.str]) (s 21) (s 25))⟩,[0,1,2,3,4,5,6,7])]
abbrev g27r3t:List aA:=[]
abbrev g27r4:List (aA×List Nat):=[(⟨S 27,N,v (m (s 0))⟩,[]),(⟨S 28,N,v (m (s 5))⟩,[]),(⟨S 29,N,v (i (.agg 3) (s 27) (s 28))⟩,[0,1]),(⟨S 30,N,v (l (.agg 3) (s 29))⟩,[0,1,2]),(⟨S 31,N,v (m (s 1))⟩,[]),(⟨S 32,N,v (m (s 5))⟩,[]),(⟨S 33,N,v (i (.agg 3) (s 31) (s 32))⟩,[4,5]),(⟨S 34,N,v (l (.agg 3) (s 33))⟩,[4,5,6]),(⟨S 35,N,k 24 [s 30,s 34]⟩,[0,1,2,3,4,5,6,7]),(⟨S 4,N,v (m (s 35))⟩,[0,1,2,3,4,5,6,7,8])]
abbrev g27r4t:List aA:=[]
abbrev g27r5:List aA:=[⟨S 16,N,v (m (s 5))⟩,⟨S 17,N,v (b .add (s 16) (c (I j 1)))⟩,⟨S 5,N,v (m (s 17))⟩]
abbrev g27l0:aY:=(Q (Q (O g27r2) (C (s 15) Z (X 0))) (Q (K 1 (Q (D 9 g27r3 g27r3t) (C (s 26) (Q (D 10 g27r4 g27r4t) .ret) Z))) (O g27r5)))
abbrev g27r6:List aA:=[⟨S 36,N,v (m (s 0))⟩,⟨S 37,N,v (w (s 36))⟩,⟨S 38,N,v (m (s 1))⟩,⟨S 39,N,v (w (s 38))⟩,⟨S 40,N,v (b .lss (s 37) (s 39))⟩,⟨S 4,N,v (m (s 40))⟩]
def corollaryref02_Less:LFn:=⟨(Q (O g27r0) (Q (Q (O g27r1) (K 0 (R g27l0))) (Q (O g27r6) .ret))),41,[.slot 4]⟩
theorem corollaryref02_Less_low:aG Try.prog 31=some corollaryref02_Less:=by kernel_rfl
abbrev g28r0:List aA:=[⟨S 6,N,v (m (c (I j 0)))⟩]
abbrev g28r1:List aA:=[⟨S 11,N,v (m (s 0))⟩,⟨S 12,N,v (w (s 11))⟩,⟨S 13,N,v (m (c (I j 0)))⟩]
abbrev g28r2:List aA:=[⟨S 14,N,v (b .lss (s 13) (s 12))⟩]
abbrev g28r3:List aA:=[⟨S 15,N,v (m (s 13))⟩,⟨S 16,N,v (i (.agg 3) (s 11) (s 13))⟩,⟨S 17,N,v (l (.agg 3) (s 16))⟩,⟨S 8,N,x (.agg 3) (c (.agg [(I j 0),(I j 0),(.str ⟨#[]⟩)]))⟩,⟨S 7,N,v (m (s 15))⟩,⟨N,N,t (.agg 3) (s 8) (s 17)⟩]
abbrev g28r4:List aA:=[⟨S 18,N,v (m (s 7))⟩,⟨S 19,N,v (m (s 1))⟩,⟨S 20,N,v (w (s 19))⟩,⟨S 21,N,v (b .geq (s 18) (s 20))⟩]
abbrev g28r5:List aA:=[⟨S 6,N,v (m (c (I j 1)))⟩]
abbrev g28r6:List aA:=[⟨S 22,N,v (m (s 1))⟩,⟨S 23,N,v (m (s 7))⟩,⟨S 24,N,v (i (.agg 3) (s 22) (s 23))⟩,⟨S 25,N,v (l (.agg 3) (s 24))⟩,⟨S 9,N,x (.agg 3) (c (.agg [(I j 0),(I j 0),(.str ⟨#[]⟩)]))⟩,⟨N,N,t (.agg 3) (s 9) (s 25)⟩]
abbrev g28r7:List aA:=[⟨S 26,N,v (m (s 2))⟩,⟨S 27,N,v (l (.agg 3) (s 8))⟩,⟨S 28,N,v (l (.agg 3) (s 9))⟩,⟨S 29,N,.callv (s 26) [s 27,s 28]⟩,⟨S 10,N,v (m (s 29))⟩]
abbrev g28r8:List aA:=[⟨S 30,N,v (m (s 10))⟩,⟨S 31,N,v (b .neq (s 30) (c (I j 0)))⟩]
abbrev g28r9:List aA:=[⟨S 32,N,v (m (s 10))⟩,⟨S 6,N,v (m (s 32))⟩]
abbrev g28r10:List aA:=[⟨S 33,N,v (b .add (s 13) (c (I j 1)))⟩,⟨S 13,N,v (m (s 33))⟩]
abbrev g28l0:aY:=(Q (O g28r2) (Q (C (s 14) Z (X 0)) (Q (K 1 (Q (O g28r3) (Q (Q (O g28r4) (C (s 21) (Q (O g28r5) .ret) Z)) (Q (O g28r6) (Q (O g28r7) (Q (O g28r8) (C (s 31) (Q (O g28r9) .ret) Z))))))) (O g28r10))))
abbrev g28r11:List aA:=[⟨S 34,N,v (m (s 0))⟩,⟨S 35,N,v (w (s 34))⟩,⟨S 36,N,v (m (s 1))⟩,⟨S 37,N,v (w (s 36))⟩,⟨S 38,N,v (b .lss (s 35) (s 37))⟩]
abbrev g28r12:List aA:=[⟨S 6,N,v (m (c (I j (-1))))⟩]
abbrev g28r13:List aA:=[⟨S 6,N,v (m (c (I j 0)))⟩]
def slices_CompareFunc_api_Tuple_api_Tuple_api_Value_api_Value:LFn:=⟨(Q (O g28r0) (Q (Q (O g28r1) (K 0 (R g28l0))) (Q (Q (O g28r11) (C (s 38) (Q (O g28r12) .ret) Z)) (Q (O g28r13) .ret)))),39,[.slot 6]⟩
theorem slices_CompareFunc_api_Tuple_api_Tuple_api_Value_api_Value_low:aG Try.prog 32=some slices_CompareFunc_api_Tuple_api_Tuple_api_Value_api_Value:=by kernel_rfl
abbrev g29r0:List aA:=[⟨S 2,N,v (m (c (.bool false)))⟩]
abbrev g29r1:List aA:=[⟨S 3,N,v (m (s 0))⟩,⟨S 4,N,v (b .geq (s 3) (c (I j (-2147483647))))⟩,⟨S 5,N,v (m (s 4))⟩,⟨S 6,S (5,true),v (m (s 0))⟩,⟨S 7,S (5,true),v (b .leq (s 6) (c (I j 2147483647)))⟩,⟨S 8,N,v (p (s 5) (s 7) (c (.bool false)))⟩,⟨S 2,N,v (m (s 8))⟩]
def value_bounded:LFn:=⟨(Q (O g29r0) (Q (O g29r1) .ret)),9,[.slot 2]⟩
theorem value_bounded_low:aG Try.prog 33=some value_bounded:=by kernel_rfl
abbrev g30r0:List aA:=[⟨S 2,N,v (m (c (.bool false)))⟩]
abbrev g30r1:List aA:=[⟨S 3,N,v (m (c (.fn (.func 53) [] [])))⟩]
abbrev g30r2:List aA:=[⟨S 4,N,v (m (s 0))⟩,⟨S 5,N,v (b .neq (s 4) (c (.str ⟨#[]⟩)))⟩,⟨S 6,N,v (m (s 5))⟩,⟨S 7,S (6,true),v (m (s 0))⟩,⟨S 8,S (6,true),v (.slen (s 7))⟩,⟨S 9,S (6,true),v (b .leq (s 8) (c (I j 32)))⟩,⟨S 10,N,v (p (s 6) (s 9) (c (.bool false)))⟩,⟨S 11,N,v (m (s 10))⟩,⟨S 12,S (11,true),v (m (s 0))⟩,⟨S 13,S (11,true),v (.sidx (s 12) (c (I j 0)))⟩,⟨S 14,S (11,true),k 54 [s 13]⟩,⟨S 15,N,v (p (s 11) (s 14) (c (.bool false)))⟩,⟨S 16,N,v (m (s 15))⟩,⟨S 17,S (16,true),v (m (s 0))⟩,⟨S 18,S (16,true),v (m (s 3))⟩,⟨S 19,S (16,true),k 55 [s 17,s 18]⟩,⟨S 20,S (16,true),v (.not (s 19))⟩,⟨S 21,N,v (p (s 16) (s 20) (c (.bool false)))⟩,⟨S 2,N,v (m (s 21))⟩]
def value_Name:LFn:=⟨(Q (O g30r0) (Q (O g30r1) (Q (O g30r2) .ret))),22,[.slot 2]⟩
theorem value_Name_low:aG Try.prog 34=some value_Name:=by kernel_rfl
abbrev g35r0:List aA:=[⟨S 3,N,x (.agg 3) (s 0)⟩,⟨S 4,N,x (.agg 3) (s 1)⟩,⟨S 5,N,v (m (c (.bool false)))⟩]
abbrev g35r1:List aA:=[⟨S 6,N,v (l F (s 2))⟩,⟨S 7,N,v (l (.agg 3) (s 3))⟩,⟨S 8,N,v (l (.agg 3) (s 4))⟩,⟨S 9,N,.callv (s 6) [s 7,s 8]⟩,⟨S 10,N,v (b .eql (s 9) (c (I j 0)))⟩,⟨S 5,N,v (m (s 10))⟩]
def agg_set_api_Value_1:LFn:=⟨(Q (O g35r0) (Q (O g35r1) .ret)),11,[.slot 5]⟩
theorem agg_set_api_Value_1_low:aG Try.prog 39=some agg_set_api_Value_1:=by kernel_rfl
abbrev g39r0:List aA:=[⟨S 4,N,v (m (c (I j 0)))⟩]
abbrev g39r1:List aA:=[⟨S 7,N,v (m (s 0))⟩,⟨S 8,N,k 61 [s 7]⟩,⟨S 5,N,v (m (s 8))⟩]
abbrev g39r2:List aA:=[⟨S 9,N,v (m (s 1))⟩,⟨S 10,N,k 61 [s 9]⟩,⟨S 6,N,v (m (s 10))⟩]
abbrev g39r3:List aA:=[⟨S 11,N,v (m (s 5))⟩]
abbrev g39r4:List aA:=[⟨S 12,N,v (m (s 6))⟩]
abbrev g39r5:List aA:=[⟨S 4,N,v (m (c (I j 0)))⟩]
abbrev g39r6:List aA:=[⟨S 4,N,v (m (c (I j (-1))))⟩]
abbrev g39r7:List aA:=[⟨S 13,N,v (m (s 6))⟩]
abbrev g39r8:List aA:=[⟨S 4,N,v (m (c (I j 1)))⟩]
abbrev g39r9:List aA:=[⟨S 14,N,v (m (s 0))⟩,⟨S 15,N,v (m (s 1))⟩,⟨S 16,N,v (b .lss (s 14) (s 15))⟩]
abbrev g39r10:List aA:=[⟨S 4,N,v (m (c (I j (-1))))⟩]
abbrev g39r11:List aA:=[⟨S 17,N,v (m (s 0))⟩,⟨S 18,N,v (m (s 1))⟩,⟨S 19,N,v (b .gtr (s 17) (s 18))⟩]
abbrev g39r12:List aA:=[⟨S 4,N,v (m (c (I j 1)))⟩]
abbrev g39r13:List aA:=[⟨S 4,N,v (m (c (I j 0)))⟩]
def cmp_Compare_string:LFn:=⟨(Q (O g39r0) (Q (O g39r1) (Q (O g39r2) (Q (Q (O g39r3) (C (s 11) (Q (Q (O g39r4) (C (s 12) (Q (O g39r5) .ret) Z)) (Q (O g39r6) .ret)) Z)) (Q (Q (O g39r7) (C (s 13) (Q (O g39r8) .ret) Z)) (Q (Q (O g39r9) (C (s 16) (Q (O g39r10) .ret) Z)) (Q (Q (O g39r11) (C (s 19) (Q (O g39r12) .ret) Z)) (Q (O g39r13) .ret)))))))),20,[.slot 4]⟩
theorem cmp_Compare_string_low:aG Try.prog 43=some cmp_Compare_string:=by kernel_rfl
abbrev g44r0:List aA:=[⟨S 5,N,v (m (c (.bool false)))⟩]
abbrev g44r1:List aA:=[⟨S 6,N,v (l F (s 2))⟩,⟨S 7,N,v (m (s 0))⟩,⟨S 8,N,v (m (s 1))⟩,⟨S 9,N,.callv (s 6) [s 7,s 8]⟩,⟨S 10,N,v (b .eql (s 9) (c (I j 0)))⟩,⟨S 5,N,v (m (s 10))⟩]
def agg_set_api_Tuple_1:LFn:=⟨(Q (O g44r0) (Q (O g44r1) .ret)),11,[.slot 5]⟩
theorem agg_set_api_Tuple_1_low:aG Try.prog 48=some agg_set_api_Tuple_1:=by kernel_rfl
abbrev g48r0:List aA:=[⟨S 2,N,v (m (c (.bool false)))⟩]
abbrev g48r1:List aA:=[⟨S 3,N,v (m (s 0))⟩,⟨S 4,N,v (b .geq (s 3) (c (.int .i32 97)))⟩,⟨S 5,N,v (m (s 4))⟩,⟨S 6,S (5,true),v (m (s 0))⟩,⟨S 7,S (5,true),v (b .leq (s 6) (c (.int .i32 122)))⟩,⟨S 8,N,v (p (s 5) (s 7) (c (.bool false)))⟩,⟨S 9,N,v (m (s 8))⟩,⟨S 10,S (9,false),v (m (s 0))⟩,⟨S 11,S (9,false),v (b .geq (s 10) (c (.int .i32 48)))⟩,⟨S 12,S (9,false),v (m (s 11))⟩,⟨S 13,S (12,true),v (m (s 0))⟩,⟨S 14,S (12,true),v (b .leq (s 13) (c (.int .i32 57)))⟩,⟨S 15,S (9,false),v (p (s 12) (s 14) (c (.bool false)))⟩,⟨S 16,N,v (p (s 9) (c (.bool true)) (s 15))⟩,⟨S 17,N,v (m (s 16))⟩,⟨S 18,S (17,false),v (m (s 0))⟩,⟨S 19,S (17,false),v (b .eql (s 18) (c (.int .i32 95)))⟩,⟨S 20,N,v (p (s 17) (c (.bool true)) (s 19))⟩,⟨S 21,N,v (.not (s 20))⟩,⟨S 2,N,v (m (s 21))⟩]
def value_Name_1:LFn:=⟨(Q (O g48r0) (Q (O g48r1) .ret)),22,[.slot 2]⟩
theorem value_Name_1_low:aG Try.prog 53=some value_Name_1:=by kernel_rfl
abbrev g49r0:List aA:=[⟨S 2,N,v (m (c (.bool false)))⟩]
abbrev g49r1:List aA:=[⟨S 3,N,v (m (s 0))⟩,⟨S 4,N,v (b .geq (s 3) (c (.int .u8 97)))⟩,⟨S 5,N,v (m (s 4))⟩,⟨S 6,S (5,true),v (m (s 0))⟩,⟨S 7,S (5,true),v (b .leq (s 6) (c (.int .u8 122)))⟩,⟨S 8,N,v (p (s 5) (s 7) (c (.bool false)))⟩,⟨S 2,N,v (m (s 8))⟩]
def value_letter:LFn:=⟨(Q (O g49r0) (Q (O g49r1) .ret)),9,[.slot 2]⟩
theorem value_letter_low:aG Try.prog 54=some value_letter:=by kernel_rfl
abbrev g56r0:List aA:=[⟨S 2,N,v (m (c (.bool false)))⟩]
abbrev g56r1:List aA:=[⟨S 3,N,v (m (s 0))⟩,⟨S 4,N,v (m (s 0))⟩,⟨S 5,N,v (b .neq (s 3) (s 4))⟩,⟨S 2,N,v (m (s 5))⟩]
def cmp_isNaN_string:LFn:=⟨(Q (O g56r0) (Q (O g56r1) .ret)),6,[.slot 2]⟩
theorem cmp_isNaN_string_low:aG Try.prog 61=some cmp_isNaN_string:=by kernel_rfl
end L
end Go.Proofs.Ytemjhgboialjpaa
