/-
The functions of the code,lowered:printed by a program,checked by the kernel. No conditions.
-/
import Derived.Test.YtemjhgboialjpaaGreatKcb
import Derived.Test.YtemjhgboialjpaaGreatProg
namespace Go.Proofs.YtemjhgboialjpaaGreat
open Go.RowKit
open aG renaming slot→s,const→c
open aS renaming move→m,load→l,fldA→f,bin→b,eq→e,idxA→i,pick→p,ext→q,nilCheck→n,len→w
open LOp renaming val→v,call→k,box→x,bslice→y,append→a,store→t
open aJ renaming seq→Q,ops→O,cond→C,block→K,loop→R,skip→Z,exit→X,draw→D
open Sh renaming leaf→F
open V renaming int→I
open Go.IntKind renaming i64→j
open Option renaming some→S,none→N
namespace L
abbrev g0r0:List aA:=[⟨S 6,N,v (m (c (.bool false)))⟩]
abbrev g0r1:List aA:=[⟨S 11,N,k 9 []⟩,⟨S 12,N,v (.not (s 11))⟩]
abbrev g0r2:List aA:=[⟨S 6,N,v (m (c (.bool false)))⟩]
abbrev g0r3:List aA:=[⟨S 13,N,v (m (s 2))⟩,⟨S 14,N,k 10 [s 13]⟩]
abbrev g0r4:List aA:=[⟨S 6,N,v (m (c (.bool true)))⟩]
abbrev g0r5:List aA:=[⟨S 16,N,v (m (s 0))⟩,⟨S 17,N,v (m (s 1))⟩,⟨S 18,N,v (m (s 2))⟩,⟨S 19,N,k 11 [s 16,s 17,s 18]⟩,⟨S 15,N,v (m (s 19))⟩,⟨S 20,N,v (q (s 15) 0)⟩,⟨S 21,N,v (q (s 15) 1)⟩,⟨S 7,N,v (m (s 20))⟩,⟨S 8,N,v (m (s 21))⟩]
abbrev g0r6:List aA:=[⟨S 23,N,v (m (s 0))⟩,⟨S 24,N,v (m (s 1))⟩,⟨S 25,N,v (m (s 2))⟩,⟨S 26,N,k 12 [s 23,s 24,s 25]⟩,⟨S 22,N,v (m (s 26))⟩,⟨S 27,N,v (q (s 22) 0)⟩,⟨S 28,N,v (q (s 22) 1)⟩,⟨S 9,N,v (m (s 27))⟩,⟨S 10,N,v (m (s 28))⟩]
abbrev g0r7:List aA:=[⟨S 29,N,v (m (s 8))⟩,⟨S 30,N,k 13 [s 29]⟩,⟨S 31,N,v (m (s 10))⟩,⟨S 32,N,v (b .eql (s 30) (s 31))⟩,⟨S 33,N,v (m (s 32))⟩,⟨S 34,S (33,true),v (m (s 7))⟩,⟨S 35,S (33,true),v (m (s 9))⟩,⟨S 36,S (33,true),k 14 [s 34,s 35]⟩,⟨S 37,N,v (p (s 33) (s 36) (c (.bool false)))⟩,⟨S 6,N,v (m (s 37))⟩]
def corollarylaw16_AggGroups:LFn:=⟨(Q (O g0r0) (Q (Q (O g0r1) (C (s 12) (Q (O g0r2) .ret) Z)) (Q (Q (O g0r3) (C (s 14) (Q (O g0r4) .ret) Z)) (Q (O g0r5) (Q (O g0r6) (Q (O g0r7) .ret)))))),38,[.slot 6]⟩
theorem corollarylaw16_AggGroups_low:aH Tryz.prog 3=some corollarylaw16_AggGroups:=by kernel_rfl
abbrev g5r0:List aA:=[⟨S 0,N,v (m (c (.bool false)))⟩]
abbrev g5r1:List aA:=[⟨S 1,N,v (m (c (.fn (.func 52) [] [])))⟩]
abbrev g5r2:List aA:=[⟨S 5,N,v (m (s 1))⟩,⟨S 6,N,.callv (s 5) [(c (I j 1)),(c (I j 5))]⟩,⟨S 7,N,v (m (s 1))⟩,⟨S 8,N,.callv (s 7) [(c (I j 1)),(c (I j 6))]⟩,⟨S 9,N,v (m (s 1))⟩,⟨S 10,N,.callv (s 9) [(c (I j 2)),(c (I j 5))]⟩,⟨S 11,N,y F [s 6,s 8,s 10]⟩,⟨S 12,N,k 11 [(c (I j 1)),(c (I j 1)),s 11]⟩,⟨S 4,N,v (m (s 12))⟩,⟨S 13,N,v (q (s 4) 0)⟩,⟨S 14,N,v (q (s 4) 1)⟩,⟨S 2,N,v (m (s 13))⟩,⟨S 3,N,v (m (s 14))⟩]
abbrev g5r3:List aA:=[⟨S 15,N,v (m (s 3))⟩,⟨S 16,N,v (e false (.iface true) (s 15) (c .nilIface))⟩,⟨S 17,N,v (m (s 16))⟩,⟨S 18,S (17,true),v (m (s 2))⟩,⟨S 19,S (17,true),v (m (s 1))⟩,⟨S 20,S (17,true),.callv (s 19) [(c (I j 1)),(c (I j 2))]⟩,⟨S 21,S (17,true),v (m (s 1))⟩,⟨S 22,S (17,true),.callv (s 21) [(c (I j 2)),(c (I j 1))]⟩,⟨S 23,S (17,true),y F [s 20,s 22]⟩,⟨S 24,S (17,true),k 14 [s 18,s 23]⟩,⟨S 25,N,v (p (s 17) (s 24) (c (.bool false)))⟩,⟨S 0,N,v (m (s 25))⟩]
def corollarylaw16_alive:LFn:=⟨(Q (O g5r0) (Q (O g5r1) (Q (O g5r2) (Q (O g5r3) .ret)))),26,[.slot 0]⟩
theorem corollarylaw16_alive_low:aH Tryz.prog 9=some corollarylaw16_alive:=by kernel_rfl
abbrev g6r0:List aA:=[⟨S 2,N,v (m (c (.bool false)))⟩]
abbrev g6r1:List aA:=[⟨S 3,N,v (m (s 0))⟩,⟨S 4,N,v (w (s 3))⟩,⟨S 5,N,v (b .gtr (s 4) (c (I j 60)))⟩,⟨S 6,N,v (m (s 5))⟩,⟨S 7,S (6,false),v (m (s 0))⟩,⟨S 8,S (6,false),k 53 [s 7]⟩,⟨S 9,N,v (p (s 6) (c (.bool true)) (s 8))⟩,⟨S 2,N,v (m (s 9))⟩]
def corollarylaw03_Large:LFn:=⟨(Q (O g6r0) (Q (O g6r1) .ret)),10,[.slot 2]⟩
theorem corollarylaw03_Large_low:aH Tryz.prog 10=some corollarylaw03_Large:=by kernel_rfl
abbrev g7r0:List aA:=[⟨S 6,N,v (m (c (.sl F .nil [])))⟩,⟨S 7,N,v (m (c .nilIface))⟩]
abbrev g7r1:List aA:=[⟨S 17,N,v (m (s 0))⟩,⟨S 18,N,v (b .lss (s 17) (c (I j 0)))⟩,⟨S 19,N,v (m (s 18))⟩,⟨S 20,S (19,false),v (m (s 0))⟩,⟨S 21,S (19,false),v (b .gtr (s 20) (c (I j 4)))⟩,⟨S 22,N,v (p (s 19) (c (.bool true)) (s 21))⟩]
abbrev g7r2:List aA:=[⟨S 23,N,v (.mkif 48 (c (I j 1)))⟩,⟨S 6,N,v (m (c (.sl F .nil [])))⟩,⟨S 7,N,v (m (s 23))⟩]
abbrev g7r3:List aA:=[⟨S 24,N,v (m (s 2))⟩,⟨S 25,N,k 54 [s 24,(c (.fn (.func 55) [] []))]⟩,⟨S 8,N,v (m (s 25))⟩]
abbrev g7r4:List aA:=[⟨S 26,N,v (m (s 8))⟩,⟨S 27,N,v (w (s 26))⟩,⟨S 28,N,v (m (c (I j 0)))⟩]
abbrev g7r5:List aA:=[⟨S 29,N,v (b .lss (s 28) (s 27))⟩]
abbrev g7r6:List aA:=[⟨S 30,N,v (m (s 28))⟩,⟨S 31,N,v (i F (s 26) (s 28))⟩,⟨S 32,N,v (l F (s 31))⟩,⟨S 9,N,v (m (s 30))⟩,⟨S 10,N,v (m (s 32))⟩]
abbrev g7r7:List aA:=[⟨S 33,N,v (m (s 0))⟩,⟨S 34,N,v (b .gtr (s 33) (c (I j 0)))⟩,⟨S 35,N,v (m (s 34))⟩,⟨S 36,S (35,true),v (m (s 1))⟩,⟨S 37,S (35,true),v (b .lss (s 36) (c (I j 0)))⟩,⟨S 38,S (35,true),v (m (s 37))⟩,⟨S 39,S (38,false),v (m (s 1))⟩,⟨S 40,S (38,false),v (m (s 10))⟩,⟨S 41,S (38,false),v (w (s 40))⟩,⟨S 42,S (38,false),v (b .geq (s 39) (s 41))⟩,⟨S 43,S (35,true),v (p (s 38) (c (.bool true)) (s 42))⟩,⟨S 44,N,v (p (s 35) (s 43) (c (.bool false)))⟩]
abbrev g7r8:List aA:=[⟨S 45,N,v (.mkif 48 (c (I j 1)))⟩,⟨S 6,N,v (m (c (.sl F .nil [])))⟩,⟨S 7,N,v (m (s 45))⟩]
abbrev g7r9:List aA:=[⟨S 46,N,v (m (s 8))⟩,⟨S 47,N,v (m (s 9))⟩,⟨S 48,N,v (m (s 10))⟩,⟨S 49,N,k 56 [s 48]⟩,⟨S 50,N,v (i F (s 46) (s 47))⟩,⟨N,N,t F (s 50) (s 49)⟩]
abbrev g7r10:List aA:=[⟨S 51,N,v (b .add (s 28) (c (I j 1)))⟩,⟨S 28,N,v (m (s 51))⟩]
abbrev g7l0:aJ:=(Q (O g7r5) (Q (C (s 29) Z (X 0)) (Q (K 1 (Q (O g7r6) (Q (Q (O g7r7) (C (s 44) (Q (O g7r8) .ret) Z)) (O g7r9)))) (O g7r10))))
abbrev g7r11:List aA:=[⟨S 52,N,v (m (s 0))⟩,⟨S 53,N,v (b .eql (s 52) (c (I j 0)))⟩]
abbrev g7r12:List aA:=[⟨S 54,N,v (m (s 8))⟩,⟨S 6,N,v (m (s 54))⟩,⟨S 7,N,v (m (c .nilIface))⟩]
abbrev g7r13:List aA:=[⟨S 11,N,v (m (c (.sl F .nil [])))⟩]
abbrev g7r14:List aA:=[⟨S 55,N,v (m (s 8))⟩,⟨S 56,N,v (w (s 55))⟩,⟨S 57,N,v (b .gtr (s 56) (c (I j 0)))⟩]
abbrev g7r15:List aA:=[⟨S 58,N,v (m (s 8))⟩,⟨S 59,N,v (i F (s 58) (c (I j 0)))⟩,⟨S 60,N,v (l F (s 59))⟩,⟨S 61,N,v (m (s 1))⟩,⟨S 62,N,k 57 [s 60,s 61]⟩,⟨S 12,N,v (m (s 62))⟩]
abbrev g7r16:List aA:=[⟨S 64,N,v (m (s 8))⟩,⟨S 65,N,v (m (s 1))⟩,⟨S 66,N,v (m (s 12))⟩,⟨S 67,N,k 58 [s 64,s 65,s 66]⟩,⟨S 63,N,v (m (s 67))⟩,⟨S 68,N,v (q (s 63) 0)⟩,⟨S 69,N,v (q (s 63) 1)⟩,⟨S 13,N,v (m (s 68))⟩,⟨S 14,N,v (m (s 69))⟩]
abbrev g7r17:List aA:=[⟨S 71,N,v (m (s 0))⟩,⟨S 72,N,v (m (s 13))⟩,⟨S 73,N,k 59 [s 71,s 72]⟩,⟨S 70,N,v (m (s 73))⟩,⟨S 74,N,v (q (s 70) 0)⟩,⟨S 75,N,v (q (s 70) 1)⟩,⟨S 15,N,x (.agg 3) (c (.agg [(I j 0),(I j 0),(.str ⟨#[]⟩)]))⟩,⟨N,N,t (.agg 3) (s 15) (s 74)⟩,⟨S 16,N,v (m (s 75))⟩]
abbrev g7r18:List aA:=[⟨S 76,N,v (m (s 16))⟩,⟨S 77,N,v (e true (.iface true) (s 76) (c .nilIface))⟩]
abbrev g7r19:List aA:=[⟨S 78,N,v (m (s 16))⟩,⟨S 6,N,v (m (c (.sl F .nil [])))⟩,⟨S 7,N,v (m (s 78))⟩]
abbrev g7r20:List aA:=[⟨S 79,N,v (m (s 11))⟩,⟨S 80,N,v (m (s 12))⟩,⟨S 81,N,v (m (s 1))⟩,⟨S 82,N,v (l (.agg 3) (s 15))⟩,⟨S 83,N,y (.agg 3) [s 82]⟩,⟨S 84,N,k 60 [s 80,s 81,s 83]⟩,⟨S 85,N,y F [s 84]⟩,⟨S 86,N,a F 24 (s 79) (s 85)⟩,⟨S 11,N,v (m (s 86))⟩]
abbrev g7r21:List aA:=[⟨S 87,N,v (m (s 14))⟩,⟨S 8,N,v (m (s 87))⟩]
abbrev g7l1:aJ:=(Q (Q (O g7r14) (C (s 57) Z (X 2))) (K 3 (Q (O g7r15) (Q (O g7r16) (Q (O g7r17) (Q (Q (O g7r18) (C (s 77) (Q (O g7r19) .ret) Z)) (Q (O g7r20) (O g7r21))))))))
abbrev g7r22:List aA:=[⟨S 88,N,v (m (s 11))⟩,⟨S 89,N,k 54 [s 88,(c (.fn (.func 55) [] []))]⟩,⟨S 6,N,v (m (s 89))⟩,⟨S 7,N,v (m (c .nilIface))⟩]
def agg_Group:LFn:=⟨(Q (O g7r0) (Q (Q (O g7r1) (C (s 22) (Q (O g7r2) .ret) Z)) (Q (O g7r3) (Q (Q (O g7r4) (K 0 (R g7l0))) (Q (Q (O g7r11) (C (s 53) (Q (O g7r12) .ret) Z)) (Q (O g7r13) (Q (K 2 (R g7l1)) (Q (O g7r22) .ret)))))))),90,[.slot 6,.slot 7]⟩
theorem agg_Group_low:aH Tryz.prog 11=some agg_Group:=by kernel_rfl
abbrev g8r0:List aA:=[⟨S 6,N,v (m (c (.sl F .nil [])))⟩,⟨S 7,N,v (m (c (I j 0)))⟩]
abbrev g8r1:List aA:=[⟨S 18,N,v (m (s 0))⟩,⟨S 19,N,v (b .lss (s 18) (c (I j 0)))⟩,⟨S 20,N,v (m (s 19))⟩,⟨S 21,S (20,false),v (m (s 0))⟩,⟨S 22,S (20,false),v (b .gtr (s 21) (c (I j 4)))⟩,⟨S 23,N,v (p (s 20) (c (.bool true)) (s 22))⟩]
abbrev g8r2:List aA:=[⟨S 6,N,v (m (c (.sl F .nil [])))⟩,⟨S 7,N,v (m (c (I j 1)))⟩]
abbrev g8r3:List aA:=[⟨S 24,N,v (.build [(I j 0),(.sl F .nil [])] [])⟩,⟨S 8,N,x (.agg 2) (c (.agg [(I j 0),(.sl F .nil [])]))⟩,⟨N,N,t (.agg 2) (s 8) (s 24)⟩]
abbrev g8r4:List aA:=[⟨S 9,N,v (m (c (I j 0)))⟩]
abbrev g8r5:List aA:=[⟨S 25,N,v (m (s 9))⟩,⟨S 26,N,v (m (s 2))⟩,⟨S 27,N,v (w (s 26))⟩,⟨S 28,N,v (b .lss (s 25) (s 27))⟩]
abbrev g8r6:List aA:=[⟨S 31,N,v (m (s 0))⟩,⟨S 32,N,v (b .gtr (s 31) (c (I j 0)))⟩,⟨S 33,N,v (m (s 32))⟩,⟨S 34,S (33,true),v (m (s 1))⟩,⟨S 35,S (33,true),v (b .lss (s 34) (c (I j 0)))⟩,⟨S 36,S (33,true),v (m (s 35))⟩,⟨S 37,S (36,false),v (m (s 1))⟩,⟨S 38,S (36,false),v (m (s 2))⟩,⟨S 39,S (36,false),v (m (s 9))⟩,⟨S 40,S (36,false),v (i F (s 38) (s 39))⟩,⟨S 41,S (36,false),v (l F (s 40))⟩,⟨S 42,S (36,false),v (w (s 41))⟩,⟨S 43,S (36,false),v (b .geq (s 37) (s 42))⟩,⟨S 44,S (33,true),v (p (s 36) (c (.bool true)) (s 43))⟩,⟨S 45,N,v (p (s 33) (s 44) (c (.bool false)))⟩]
abbrev g8r7:List aA:=[⟨S 6,N,v (m (c (.sl F .nil [])))⟩,⟨S 7,N,v (m (c (I j 1)))⟩]
abbrev g8r8:List (aA×List Nat):=[(⟨S 46,N,v (l (.agg 2) (s 8))⟩,[]),(⟨S 47,N,v (m (s 2))⟩,[]),(⟨S 48,N,v (m (s 9))⟩,[]),(⟨S 49,N,v (i F (s 47) (s 48))⟩,[1,2]),(⟨S 50,N,v (l F (s 49))⟩,[1,2,3]),(⟨S 51,N,k 61 [s 46,s 50]⟩,[0,1,2,3,4])]
abbrev g8r8t:List aA:=[⟨N,N,t (.agg 2) (s 8) (s 51)⟩]
abbrev g8r9:List aA:=[⟨S 29,N,v (m (s 9))⟩,⟨S 30,N,v (b .add (s 29) (c (I j 1)))⟩,⟨S 9,N,v (m (s 30))⟩]
abbrev g8l0:aJ:=(Q (Q (O g8r5) (C (s 28) Z (X 0))) (Q (K 1 (Q (Q (O g8r6) (C (s 45) (Q (O g8r7) .ret) Z)) (D 6 g8r8 g8r8t))) (O g8r9)))
abbrev corollaryref16_Group_r10:List aA:=[⟨S 52,N,v (m (s 0))⟩,⟨S 53,N,v (b .eql (s 52) (c (I j 0)))⟩]
abbrev corollaryref16_Group_r11:List aA:=[⟨S 54,N,v (f 1 (s 8))⟩,⟨S 55,N,v (l F (s 54))⟩,⟨S 6,N,v (m (s 55))⟩,⟨S 7,N,v (m (c (I j 0)))⟩]
abbrev corollaryref16_Group_r12:List aA:=[⟨S 56,N,v (.build [(I j 0),(.sl F .nil [])] [])⟩,⟨S 10,N,x (.agg 2) (c (.agg [(I j 0),(.sl F .nil [])]))⟩,⟨N,N,t (.agg 2) (s 10) (s 56)⟩]
abbrev corollaryref16_Group_r13:List aA:=[⟨S 11,N,v (m (c (I j 0)))⟩]
abbrev g8r14:List aA:=[⟨S 57,N,v (m (s 11))⟩,⟨S 58,N,v (f 1 (s 8))⟩,⟨S 59,N,v (l F (s 58))⟩,⟨S 60,N,v (w (s 59))⟩,⟨S 61,N,v (b .lss (s 57) (s 60))⟩]
abbrev g8r15:List aA:=[⟨S 12,N,v (m (c (.bool true)))⟩]
abbrev g8r16:List aA:=[⟨S 13,N,v (m (c (.sl (.agg 3) .nil [])))⟩]
abbrev g8r17:List aA:=[⟨S 14,N,v (m (c (I j 0)))⟩]
abbrev g8r18:List aA:=[⟨S 64,N,v (m (s 14))⟩,⟨S 65,N,v (f 1 (s 8))⟩,⟨S 66,N,v (l F (s 65))⟩,⟨S 67,N,v (w (s 66))⟩,⟨S 68,N,v (b .lss (s 64) (s 67))⟩]
abbrev g8r19:List (aA×List Nat):=[(⟨S 71,N,v (f 1 (s 8))⟩,[]),(⟨S 72,N,v (l F (s 71))⟩,[0]),(⟨S 73,N,v (m (s 11))⟩,[]),(⟨S 74,N,v (i F (s 72) (s 73))⟩,[0,1,2]),(⟨S 75,N,v (l F (s 74))⟩,[0,1,2,3]),(⟨S 76,N,v (f 1 (s 8))⟩,[]),(⟨S 77,N,v (l F (s 76))⟩,[5]),(⟨S 78,N,v (m (s 14))⟩,[]),(⟨S 79,N,v (i F (s 77) (s 78))⟩,[5,6,7]),(⟨S 80,N,v (l F (s 79))⟩,[5,6,7,8]),(⟨S 81,N,v (m (s 1))⟩,[]),(⟨S 82,N,k 62 [s 75,s 80,s 81]⟩,[0,1,2,3,4,5,6,7,8,9,10])]
abbrev g8r19t:List aA:=[]
abbrev g8r20:List aA:=[⟨S 83,N,v (m (s 12))⟩,⟨S 84,N,v (m (s 83))⟩,⟨S 85,S (84,true),v (m (s 14))⟩,⟨S 86,S (84,true),v (m (s 11))⟩,⟨S 87,S (84,true),v (b .geq (s 85) (s 86))⟩,⟨S 88,N,v (p (s 84) (s 87) (c (.bool false)))⟩,⟨S 12,N,v (m (s 88))⟩]
abbrev g8r21:List aA:=[⟨S 89,N,v (m (s 13))⟩,⟨S 90,N,v (f 1 (s 8))⟩,⟨S 91,N,v (l F (s 90))⟩,⟨S 92,N,v (m (s 14))⟩,⟨S 93,N,v (i F (s 91) (s 92))⟩,⟨S 94,N,v (l F (s 93))⟩,⟨S 95,N,v (m (s 1))⟩,⟨S 96,N,v (i (.agg 3) (s 94) (s 95))⟩,⟨S 97,N,v (l (.agg 3) (s 96))⟩,⟨S 98,N,y (.agg 3) [s 97]⟩,⟨S 99,N,a (.agg 3) 32 (s 89) (s 98)⟩,⟨S 13,N,v (m (s 99))⟩]
abbrev g8r22:List aA:=[⟨S 69,N,v (m (s 14))⟩,⟨S 70,N,v (b .add (s 69) (c (I j 1)))⟩,⟨S 14,N,v (m (s 70))⟩]
abbrev corollaryref16_Group_l1:aJ:=(Q (Q (O g8r18) (C (s 68) Z (X 4))) (Q (K 5 (Q (D 12 g8r19 g8r19t) (C (s 82) (Q (O g8r20) (O g8r21)) Z))) (O g8r22)))
abbrev corollaryref16_Group_r23:List aA:=[⟨S 100,N,v (m (s 12))⟩,⟨S 101,N,v (.not (s 100))⟩]
abbrev corollaryref16_Group_r24:List aA:=[⟨S 103,N,v (m (s 0))⟩,⟨S 104,N,v (m (s 13))⟩,⟨S 105,N,k 63 [s 103,s 104]⟩,⟨S 102,N,v (m (s 105))⟩,⟨S 106,N,v (q (s 102) 0)⟩,⟨S 107,N,v (q (s 102) 1)⟩,⟨S 15,N,x (.agg 3) (c (.agg [(I j 0),(I j 0),(.str ⟨#[]⟩)]))⟩,⟨N,N,t (.agg 3) (s 15) (s 106)⟩,⟨S 16,N,v (m (s 107))⟩]
abbrev corollaryref16_Group_r25:List aA:=[⟨S 108,N,v (m (s 16))⟩,⟨S 109,N,v (b .neq (s 108) (c (I j 0)))⟩]
abbrev corollaryref16_Group_r26:List aA:=[⟨S 110,N,v (m (s 16))⟩,⟨S 6,N,v (m (c (.sl F .nil [])))⟩,⟨S 7,N,v (m (s 110))⟩]
abbrev corollaryref16_Group_r27:List aA:=[⟨S 111,N,y (.agg 3) []⟩,⟨S 112,N,v (f 1 (s 8))⟩,⟨S 113,N,v (l F (s 112))⟩,⟨S 114,N,v (m (s 11))⟩,⟨S 115,N,v (i F (s 113) (s 114))⟩,⟨S 116,N,v (l F (s 115))⟩,⟨S 117,N,a (.agg 3) 32 (s 111) (s 116)⟩,⟨S 17,N,v (m (s 117))⟩]
abbrev corollaryref16_Group_r28:List aA:=[⟨S 118,N,v (m (s 17))⟩,⟨S 119,N,v (m (s 1))⟩,⟨S 120,N,v (l (.agg 3) (s 15))⟩,⟨S 121,N,v (i (.agg 3) (s 118) (s 119))⟩,⟨N,N,t (.agg 3) (s 121) (s 120)⟩]
abbrev corollaryref16_Group_r29:List aA:=[⟨S 122,N,v (l (.agg 2) (s 10))⟩,⟨S 123,N,v (m (s 17))⟩,⟨S 124,N,k 61 [s 122,s 123]⟩,⟨N,N,t (.agg 2) (s 10) (s 124)⟩]
abbrev g8r30:List aA:=[⟨S 62,N,v (m (s 11))⟩,⟨S 63,N,v (b .add (s 62) (c (I j 1)))⟩,⟨S 11,N,v (m (s 63))⟩]
abbrev corollaryref16_Group_l2:aJ:=(Q (Q (O g8r14) (C (s 61) Z (X 2))) (Q (K 3 (Q (O g8r15) (Q (O g8r16) (Q (Q (O g8r17) (K 4 (R corollaryref16_Group_l1))) (Q (Q (O corollaryref16_Group_r23) (C (s 101) (X 3) Z)) (Q (O corollaryref16_Group_r24) (Q (Q (O corollaryref16_Group_r25) (C (s 109) (Q (O corollaryref16_Group_r26) .ret) Z)) (Q (O corollaryref16_Group_r27) (Q (O corollaryref16_Group_r28) (O corollaryref16_Group_r29)))))))))) (O g8r30)))
abbrev corollaryref16_Group_r31:List aA:=[⟨S 125,N,v (f 1 (s 10))⟩,⟨S 126,N,v (l F (s 125))⟩,⟨S 6,N,v (m (s 126))⟩,⟨S 7,N,v (m (c (I j 0)))⟩]
def corollaryref16_Group:LFn:=⟨(Q (O g8r0) (Q (Q (O g8r1) (C (s 23) (Q (O g8r2) .ret) Z)) (Q (O g8r3) (Q (Q (O g8r4) (K 0 (R g8l0))) (Q (Q (O corollaryref16_Group_r10) (C (s 53) (Q (O corollaryref16_Group_r11) .ret) Z)) (Q (O corollaryref16_Group_r12) (Q (Q (O corollaryref16_Group_r13) (K 2 (R corollaryref16_Group_l2))) (Q (O corollaryref16_Group_r31) .ret)))))))),127,[.slot 6,.slot 7]⟩
theorem corollaryref16_Group_low:aH Tryz.prog 12=some corollaryref16_Group:=by kernel_rfl
abbrev g9r0:List aA:=[⟨S 2,N,v (m (c (I j 0)))⟩]
abbrev g9r1:List aA:=[⟨S 5,N,v (m (s 0))⟩,⟨S 6,N,v (e false (.iface true) (s 5) (c .nilIface))⟩]
abbrev g9r2:List aA:=[⟨S 2,N,v (m (c (I j 0)))⟩]
abbrev g9r3:List aA:=[⟨S 8,N,v (m (s 0))⟩,⟨S 9,N,v (.asrt 48 (I j 0) (s 8))⟩,⟨S 7,N,v (m (s 9))⟩,⟨S 10,N,v (q (s 7) 0)⟩,⟨S 11,N,v (q (s 7) 1)⟩,⟨S 3,N,v (m (s 10))⟩,⟨S 4,N,v (m (s 11))⟩]
abbrev g9r4:List aA:=[⟨S 12,N,v (m (s 4))⟩,⟨S 13,N,v (m (s 12))⟩,⟨S 14,S (13,true),v (m (s 3))⟩,⟨S 15,S (13,true),v (b .neq (s 14) (c (I j 0)))⟩,⟨S 16,N,v (p (s 13) (s 15) (c (.bool false)))⟩]
abbrev g9r5:List aA:=[⟨S 17,N,v (m (s 3))⟩,⟨S 2,N,v (m (s 17))⟩]
abbrev g9r6:List aA:=[⟨S 2,N,v (m (c (I j (-1))))⟩]
def corollarynum_Num:LFn:=⟨(Q (O g9r0) (Q (Q (O g9r1) (C (s 6) (Q (O g9r2) .ret) Z)) (Q (Q (O g9r3) (Q (O g9r4) (C (s 16) (Q (O g9r5) .ret) Z))) (Q (O g9r6) .ret)))),18,[.slot 2]⟩
theorem corollarynum_Num_low:aH Tryz.prog 13=some corollarynum_Num:=by kernel_rfl
abbrev g10r0:List aA:=[⟨S 4,N,v (m (c (.bool false)))⟩]
abbrev g10r1:List aA:=[⟨S 6,N,v (m (s 0))⟩,⟨S 7,N,v (w (s 6))⟩,⟨S 8,N,v (m (s 1))⟩,⟨S 9,N,v (w (s 8))⟩,⟨S 10,N,v (b .neq (s 7) (s 9))⟩]
abbrev g10r2:List aA:=[⟨S 4,N,v (m (c (.bool false)))⟩]
abbrev g10r3:List aA:=[⟨S 11,N,v (m (s 0))⟩,⟨S 12,N,v (w (s 11))⟩,⟨S 13,N,v (m (c (I j 0)))⟩]
abbrev g10r4:List aA:=[⟨S 14,N,v (b .lss (s 13) (s 12))⟩]
abbrev g10r5:List aA:=[⟨S 15,N,v (m (s 13))⟩,⟨S 5,N,v (m (s 15))⟩]
abbrev g10r6:List (aA×List Nat):=[(⟨S 16,N,v (m (s 0))⟩,[]),(⟨S 17,N,v (m (s 5))⟩,[]),(⟨S 18,N,v (i F (s 16) (s 17))⟩,[0,1]),(⟨S 19,N,v (l F (s 18))⟩,[0,1,2]),(⟨S 20,N,v (m (s 1))⟩,[]),(⟨S 21,N,v (m (s 5))⟩,[]),(⟨S 22,N,v (i F (s 20) (s 21))⟩,[4,5]),(⟨S 23,N,v (l F (s 22))⟩,[4,5,6]),(⟨S 24,N,k 64 [s 19,s 23]⟩,[0,1,2,3,4,5,6,7]),(⟨S 25,N,v (.not (s 24))⟩,[0,1,2,3,4,5,6,7,8])]
abbrev g10r6t:List aA:=[]
abbrev g10r7:List aA:=[⟨S 4,N,v (m (c (.bool false)))⟩]
abbrev g10r8:List aA:=[⟨S 26,N,v (b .add (s 13) (c (I j 1)))⟩,⟨S 13,N,v (m (s 26))⟩]
abbrev g10l0:aJ:=(Q (O g10r4) (Q (C (s 14) Z (X 0)) (Q (K 1 (Q (O g10r5) (Q (D 10 g10r6 g10r6t) (C (s 25) (Q (O g10r7) .ret) Z)))) (O g10r8))))
abbrev g10r9:List aA:=[⟨S 4,N,v (m (c (.bool true)))⟩]
def corollarynum_Tuples:LFn:=⟨(Q (O g10r0) (Q (Q (O g10r1) (C (s 10) (Q (O g10r2) .ret) Z)) (Q (Q (O g10r3) (K 0 (R g10l0))) (Q (O g10r9) .ret)))),27,[.slot 4]⟩
theorem corollarynum_Tuples_low:aH Tryz.prog 14=some corollarynum_Tuples:=by kernel_rfl
abbrev g48r0:List aA:=[⟨S 4,N,v (m (c (.sl (.agg 3) .nil [])))⟩]
abbrev g48r1:List aA:=[⟨S 5,N,v (m (s 0))⟩,⟨S 6,N,v (.build [(I j 0),(I j 0),(.str ⟨#[]⟩)] [(0,F,(c (I j 1))),(1,F,(s 5))])⟩,⟨S 7,N,v (m (s 1))⟩,⟨S 8,N,v (.build [(I j 0),(I j 0),(.str ⟨#[]⟩)] [(0,F,(c (I j 1))),(1,F,(s 7))])⟩,⟨S 9,N,y (.agg 3) [s 6,s 8]⟩,⟨S 4,N,v (m (s 9))⟩]
def corollarylaw16_alive_1:LFn:=⟨(Q (O g48r0) (Q (O g48r1) .ret)),10,[.slot 4]⟩
theorem corollarylaw16_alive_1_low:aH Tryz.prog 52=some corollarylaw16_alive_1:=by kernel_rfl
abbrev g49r0:List aA:=[⟨S 2,N,v (m (c (.bool false)))⟩]
abbrev g49r1:List aA:=[⟨S 3,N,v (m (c (I j 0)))⟩]
abbrev g49r2:List aA:=[⟨S 8,N,v (m (s 0))⟩,⟨S 9,N,v (w (s 8))⟩,⟨S 10,N,v (m (c (I j 0)))⟩]
abbrev g49r3:List aA:=[⟨S 11,N,v (b .lss (s 10) (s 9))⟩]
abbrev g49r4:List aA:=[⟨S 12,N,v (i F (s 8) (s 10))⟩,⟨S 13,N,v (l F (s 12))⟩,⟨S 5,N,v (m (s 13))⟩]
abbrev g49r5:List aA:=[⟨S 14,N,v (m (s 5))⟩,⟨S 15,N,v (w (s 14))⟩,⟨S 16,N,v (b .gtr (s 15) (c (I j 50)))⟩]
abbrev g49r6:List aA:=[⟨S 2,N,v (m (c (.bool true)))⟩]
abbrev g49r7:List aA:=[⟨S 17,N,v (m (s 5))⟩,⟨S 18,N,v (w (s 17))⟩,⟨S 19,N,v (m (c (I j 0)))⟩]
abbrev g49r8:List aA:=[⟨S 20,N,v (b .lss (s 19) (s 18))⟩]
abbrev g49r9:List aA:=[⟨S 21,N,v (i (.agg 3) (s 17) (s 19))⟩,⟨S 22,N,v (l (.agg 3) (s 21))⟩,⟨S 7,N,x (.agg 3) (c (.agg [(I j 0),(I j 0),(.str ⟨#[]⟩)]))⟩,⟨N,N,t (.agg 3) (s 7) (s 22)⟩]
abbrev g49r10:List aA:=[⟨S 23,N,v (m (s 3))⟩,⟨S 24,N,v (f 2 (s 7))⟩,⟨S 25,N,v (l F (s 24))⟩,⟨S 26,N,v (.slen (s 25))⟩,⟨S 27,N,v (b .add (s 23) (s 26))⟩,⟨S 3,N,v (m (s 27))⟩]
abbrev g49r11:List aA:=[⟨S 28,N,v (m (s 3))⟩,⟨S 29,N,v (b .gtr (s 28) (c (I j 2000)))⟩]
abbrev g49r12:List aA:=[⟨S 2,N,v (m (c (.bool true)))⟩]
abbrev g49r13:List aA:=[⟨S 30,N,v (b .add (s 19) (c (I j 1)))⟩,⟨S 19,N,v (m (s 30))⟩]
abbrev g49l0:aJ:=(Q (O g49r8) (Q (C (s 20) Z (X 2)) (Q (K 3 (Q (O g49r9) (Q (O g49r10) (Q (O g49r11) (C (s 29) (Q (O g49r12) .ret) Z))))) (O g49r13))))
abbrev g49r14:List aA:=[⟨S 31,N,v (b .add (s 10) (c (I j 1)))⟩,⟨S 10,N,v (m (s 31))⟩]
abbrev g49l1:aJ:=(Q (O g49r3) (Q (C (s 11) Z (X 0)) (Q (K 1 (Q (O g49r4) (Q (Q (O g49r5) (C (s 16) (Q (O g49r6) .ret) Z)) (Q (O g49r7) (K 2 (R g49l0)))))) (O g49r14))))
abbrev g49r15:List aA:=[⟨S 2,N,v (m (c (.bool false)))⟩]
def corollarylaw02_Long:LFn:=⟨(Q (O g49r0) (Q (O g49r1) (Q (Q (O g49r2) (K 0 (R g49l1))) (Q (O g49r15) .ret)))),32,[.slot 2]⟩
theorem corollarylaw02_Long_low:aH Tryz.prog 53=some corollarylaw02_Long:=by kernel_rfl
abbrev g51r0:List aA:=[⟨S 4,N,v (m (c (I j 0)))⟩]
abbrev g51r1:List aA:=[⟨S 5,N,v (m (s 0))⟩,⟨S 6,N,v (m (s 1))⟩,⟨S 7,N,k 108 [s 5,s 6,(c (.fn (.func 109) [] []))]⟩,⟨S 4,N,v (m (s 7))⟩]
def tuple_Compare:LFn:=⟨(Q (O g51r0) (Q (O g51r1) .ret)),8,[.slot 4]⟩
theorem tuple_Compare_low:aH Tryz.prog 55=some tuple_Compare:=by kernel_rfl
abbrev g52r0:List aA:=[⟨S 2,N,v (m (c (.sl (.agg 3) .nil [])))⟩]
abbrev g52r1:List aA:=[⟨S 3,N,v (m (s 0))⟩,⟨S 4,N,k 110 [s 3]⟩,⟨S 2,N,v (m (s 4))⟩]
def tuple_Copy:LFn:=⟨(Q (O g52r0) (Q (O g52r1) .ret)),5,[.slot 2]⟩
theorem tuple_Copy_low:aH Tryz.prog 56=some tuple_Copy:=by kernel_rfl
abbrev g53r0:List aA:=[⟨S 4,N,v (m (c (.sl (.agg 3) .nil [])))⟩]
abbrev g53r1:List aA:=[⟨S 5,N,v (m (s 0))⟩,⟨S 6,N,k 56 [s 5]⟩,⟨S 7,N,v (m (s 1))⟩,⟨S 8,N,v (m (s 1))⟩,⟨S 9,N,v (b .add (s 8) (c (I j 1)))⟩,⟨S 10,N,k 111 [s 6,s 7,s 9]⟩,⟨S 4,N,v (m (s 10))⟩]
def agg_without:LFn:=⟨(Q (O g53r0) (Q (O g53r1) .ret)),11,[.slot 4]⟩
theorem agg_without_low:aH Tryz.prog 57=some agg_without:=by kernel_rfl
abbrev g54r0:List aA:=[⟨S 6,N,v (m (c (.sl (.agg 3) .nil [])))⟩,⟨S 7,N,v (m (c (.sl F .nil [])))⟩]
abbrev g54r1:List aA:=[⟨S 10,N,v (m (s 0))⟩,⟨S 11,N,v (w (s 10))⟩,⟨S 12,N,v (m (c (I j 0)))⟩]
abbrev g54r2:List aA:=[⟨S 13,N,v (b .lss (s 12) (s 11))⟩]
abbrev g54r3:List aA:=[⟨S 14,N,v (i F (s 10) (s 12))⟩,⟨S 15,N,v (l F (s 14))⟩,⟨S 9,N,v (m (s 15))⟩]
abbrev g54r4:List aA:=[⟨S 16,N,v (m (s 9))⟩,⟨S 17,N,v (m (s 1))⟩,⟨S 18,N,k 57 [s 16,s 17]⟩,⟨S 19,N,v (m (s 2))⟩,⟨S 20,N,k 55 [s 18,s 19]⟩,⟨S 21,N,v (b .eql (s 20) (c (I j 0)))⟩]
abbrev g54r5:List aA:=[⟨S 22,N,v (m (s 6))⟩,⟨S 23,N,v (m (s 9))⟩,⟨S 24,N,v (m (s 1))⟩,⟨S 25,N,v (i (.agg 3) (s 23) (s 24))⟩,⟨S 26,N,v (l (.agg 3) (s 25))⟩,⟨S 27,N,y (.agg 3) [s 26]⟩,⟨S 28,N,a (.agg 3) 32 (s 22) (s 27)⟩,⟨S 6,N,v (m (s 28))⟩]
abbrev g54r6:List aA:=[⟨S 29,N,v (m (s 7))⟩,⟨S 30,N,v (m (s 9))⟩,⟨S 31,N,y F [s 30]⟩,⟨S 32,N,a F 24 (s 29) (s 31)⟩,⟨S 7,N,v (m (s 32))⟩]
abbrev g54r7:List aA:=[⟨S 33,N,v (b .add (s 12) (c (I j 1)))⟩,⟨S 12,N,v (m (s 33))⟩]
abbrev g54l0:aJ:=(Q (O g54r2) (Q (C (s 13) Z (X 0)) (Q (K 1 (Q (O g54r3) (Q (O g54r4) (C (s 21) (O g54r5) (O g54r6))))) (O g54r7))))
abbrev g54r8:List aA:=[⟨S 34,N,v (m (s 6))⟩,⟨S 35,N,v (m (s 7))⟩,⟨S 6,N,v (m (s 34))⟩,⟨S 7,N,v (m (s 35))⟩]
def agg_part:LFn:=⟨(Q (O g54r0) (Q (Q (O g54r1) (K 0 (R g54l0))) (Q (O g54r8) .ret))),36,[.slot 6,.slot 7]⟩
theorem agg_part_low:aH Tryz.prog 58=some agg_part:=by kernel_rfl
abbrev g55r0:List aA:=[⟨S 4,N,x (.agg 3) (c (.agg [(I j 0),(I j 0),(.str ⟨#[]⟩)]))⟩,⟨S 5,N,v (m (c .nilIface))⟩]
abbrev g55r1:List aA:=[⟨S 6,N,v (m (c (.fn (.func 112) [] [])))⟩]
abbrev g55r2:List aA:=[⟨S 7,N,v (m (c (.fn (.func 114) [] [])))⟩]
abbrev g55r3:List aA:=[⟨S 13,N,v (m (s 0))⟩,⟨S 14,N,v (b .lss (s 13) (c (I j 1)))⟩,⟨S 15,N,v (m (s 14))⟩,⟨S 16,S (15,false),v (m (s 0))⟩,⟨S 17,S (15,false),v (b .gtr (s 16) (c (I j 4)))⟩,⟨S 18,N,v (p (s 15) (c (.bool true)) (s 17))⟩,⟨S 12,N,v (m (s 18))⟩]
abbrev g55r4:List aA:=[⟨S 19,N,v (.build [(I j 0),(I j 0),(.str ⟨#[]⟩)] [])⟩,⟨S 20,N,v (.mkif 48 (c (I j 1)))⟩,⟨N,N,t (.agg 3) (s 4) (s 19)⟩,⟨S 5,N,v (m (s 20))⟩]
abbrev g55r5:List aA:=[⟨S 22,N,v (m (s 1))⟩,⟨S 23,N,v (w (s 22))⟩,⟨S 24,N,v (b .eql (s 23) (c (I j 0)))⟩,⟨S 21,N,v (m (s 24))⟩]
abbrev g55r6:List aA:=[⟨S 25,N,v (.build [(I j 0),(I j 0),(.str ⟨#[]⟩)] [])⟩,⟨S 26,N,v (.mkif 48 (c (I j 13)))⟩,⟨N,N,t (.agg 3) (s 4) (s 25)⟩,⟨S 5,N,v (m (s 26))⟩]
abbrev g55r7:List aA:=[⟨S 28,N,v (m (s 1))⟩,⟨S 29,N,v (m (s 6))⟩,⟨S 30,N,k 115 [s 28,s 29]⟩,⟨S 27,N,v (m (s 30))⟩]
abbrev g55r8:List aA:=[⟨S 31,N,v (.build [(I j 0),(I j 0),(.str ⟨#[]⟩)] [])⟩,⟨S 32,N,v (.mkif 48 (c (I j 2)))⟩,⟨N,N,t (.agg 3) (s 4) (s 31)⟩,⟨S 5,N,v (m (s 32))⟩]
abbrev g55r9:List aA:=[⟨S 34,N,v (m (s 0))⟩,⟨S 35,N,v (b .eql (s 34) (c (I j 2)))⟩,⟨S 36,N,v (m (s 35))⟩,⟨S 37,S (36,true),v (m (s 1))⟩,⟨S 38,S (36,true),v (m (s 7))⟩,⟨S 39,S (36,true),k 115 [s 37,s 38]⟩,⟨S 40,N,v (p (s 36) (s 39) (c (.bool false)))⟩,⟨S 33,N,v (m (s 40))⟩]
abbrev g55r10:List aA:=[⟨S 41,N,v (.build [(I j 0),(I j 0),(.str ⟨#[]⟩)] [])⟩,⟨S 42,N,v (.mkif 48 (c (I j 7)))⟩,⟨N,N,t (.agg 3) (s 4) (s 41)⟩,⟨S 5,N,v (m (s 42))⟩]
abbrev g55r11:List aA:=[⟨S 43,N,v (m (s 1))⟩,⟨S 44,N,k 116 [s 43,(c (.fn (.func 109) [] []))]⟩,⟨S 8,N,v (m (s 44))⟩]
abbrev g55r12:List aA:=[⟨S 45,N,v (m (s 0))⟩]
abbrev g55r13:List aA:=[⟨S 47,N,v (b .eql (s 45) (c (I j 1)))⟩,⟨S 46,N,v (m (s 47))⟩]
abbrev g55r14:List aA:=[⟨S 48,N,v (m (s 8))⟩,⟨S 49,N,v (w (s 48))⟩,⟨S 50,N,k 117 [s 49]⟩,⟨S 51,N,v (q (s 50) 0)⟩,⟨S 52,N,v (q (s 50) 1)⟩,⟨N,N,t (.agg 3) (s 4) (s 51)⟩,⟨S 5,N,v (m (s 52))⟩]
abbrev g55r15:List aA:=[⟨S 54,N,v (b .eql (s 45) (c (I j 3)))⟩,⟨S 53,N,v (m (s 54))⟩]
abbrev g55r16:List aA:=[⟨S 55,N,v (m (s 8))⟩,⟨S 56,N,v (i (.agg 3) (s 55) (c (I j 0)))⟩,⟨S 57,N,v (l (.agg 3) (s 56))⟩,⟨N,N,t (.agg 3) (s 4) (s 57)⟩,⟨S 5,N,v (m (c .nilIface))⟩]
abbrev g55r17:List aA:=[⟨S 59,N,v (b .eql (s 45) (c (I j 4)))⟩,⟨S 58,N,v (m (s 59))⟩]
abbrev g55r18:List aA:=[⟨S 60,N,v (m (s 8))⟩,⟨S 61,N,v (m (s 8))⟩,⟨S 62,N,v (w (s 61))⟩,⟨S 63,N,v (b .sub (s 62) (c (I j 1)))⟩,⟨S 64,N,v (i (.agg 3) (s 60) (s 63))⟩,⟨S 65,N,v (l (.agg 3) (s 64))⟩,⟨N,N,t (.agg 3) (s 4) (s 65)⟩,⟨S 5,N,v (m (c .nilIface))⟩]
abbrev g55r19:List aA:=[⟨S 9,N,v (m (c (I j 0)))⟩]
abbrev g55r20:List aA:=[⟨S 66,N,v (m (s 8))⟩,⟨S 67,N,v (w (s 66))⟩,⟨S 68,N,v (m (c (I j 0)))⟩]
abbrev g55r21:List aA:=[⟨S 69,N,v (b .lss (s 68) (s 67))⟩]
abbrev g55r22:List aA:=[⟨S 70,N,v (i (.agg 3) (s 66) (s 68))⟩,⟨S 71,N,v (l (.agg 3) (s 70))⟩,⟨S 11,N,x (.agg 3) (c (.agg [(I j 0),(I j 0),(.str ⟨#[]⟩)]))⟩,⟨N,N,t (.agg 3) (s 11) (s 71)⟩]
abbrev g55r23:List aA:=[⟨S 72,N,v (m (s 9))⟩,⟨S 73,N,v (f 1 (s 11))⟩,⟨S 74,N,v (l F (s 73))⟩,⟨S 75,N,v (b .add (s 72) (s 74))⟩,⟨S 9,N,v (m (s 75))⟩]
abbrev g55r24:List aA:=[⟨S 76,N,v (b .add (s 68) (c (I j 1)))⟩,⟨S 68,N,v (m (s 76))⟩]
abbrev g55l0:aJ:=(Q (O g55r21) (Q (C (s 69) Z (X 2)) (Q (K 3 (Q (O g55r22) (O g55r23))) (O g55r24))))
abbrev g55r25:List aA:=[⟨S 77,N,v (m (s 9))⟩,⟨S 78,N,k 117 [s 77]⟩,⟨S 79,N,v (q (s 78) 0)⟩,⟨S 80,N,v (q (s 78) 1)⟩,⟨N,N,t (.agg 3) (s 4) (s 79)⟩,⟨S 5,N,v (m (s 80))⟩]
def agg_Fold:LFn:=⟨(Q (O g55r0) (Q (O g55r1) (Q (O g55r2) (Q (K 0 (Q (O g55r3) (C (s 12) (Q (O g55r4) .ret) (Q (O g55r5) (C (s 21) (Q (O g55r6) .ret) (Q (O g55r7) (C (s 27) (Q (O g55r8) .ret) (Q (O g55r9) (C (s 33) (Q (O g55r10) .ret) Z))))))))) (Q (O g55r11) (Q (Q (O g55r12) (K 1 (Q (O g55r13) (C (s 46) (Q (O g55r14) .ret) (Q (O g55r15) (C (s 53) (Q (O g55r16) .ret) (Q (O g55r17) (C (s 58) (Q (O g55r18) .ret) Z)))))))) (Q (O g55r19) (Q (Q (O g55r20) (K 2 (R g55l0))) (Q (O g55r25) .ret))))))))),81,[.cell 4 (.agg 3),.slot 5]⟩
theorem agg_Fold_low:aH Tryz.prog 59=some agg_Fold:=by kernel_rfl
abbrev g56r0:List aA:=[⟨S 2,N,x (.agg 2) (s 0)⟩,⟨S 4,N,x (.agg 2) (c (.agg [(I j 0),(.sl F .nil [])]))⟩]
abbrev g56r1:List aA:=[⟨S 7,N,v (l (.agg 2) (s 2))⟩,⟨S 8,N,v (m (s 1))⟩,⟨S 9,N,k 120 [s 7,s 8]⟩]
abbrev g56r2:List aA:=[⟨S 10,N,v (l (.agg 2) (s 2))⟩,⟨N,N,t (.agg 2) (s 4) (s 10)⟩]
abbrev g56r3:List aA:=[⟨S 5,N,v (m (c (I j 0)))⟩]
abbrev g56r4:List aA:=[⟨S 11,N,v (m (s 5))⟩,⟨S 12,N,v (f 1 (s 2))⟩,⟨S 13,N,v (l F (s 12))⟩,⟨S 14,N,v (w (s 13))⟩,⟨S 15,N,v (b .lss (s 11) (s 14))⟩,⟨S 16,N,v (m (s 15))⟩,⟨S 17,S (16,true),v (f 1 (s 2))⟩,⟨S 18,S (16,true),v (l F (s 17))⟩,⟨S 19,S (16,true),v (m (s 5))⟩,⟨S 20,S (16,true),v (i F (s 18) (s 19))⟩,⟨S 21,S (16,true),v (l F (s 20))⟩,⟨S 22,S (16,true),v (m (s 1))⟩,⟨S 23,S (16,true),k 121 [s 21,s 22]⟩,⟨S 24,N,v (p (s 16) (s 23) (c (.bool false)))⟩]
abbrev g56r5:List aA:=[⟨S 25,N,v (m (s 5))⟩,⟨S 26,N,v (b .add (s 25) (c (I j 1)))⟩,⟨S 5,N,v (m (s 26))⟩]
abbrev g56l0:aJ:=(Q (Q (O g56r4) (C (s 24) Z (X 0))) (K 1 (O g56r5)))
abbrev g56r6:List aA:=[⟨S 27,N,y F []⟩,⟨S 28,N,v (f 1 (s 2))⟩,⟨S 29,N,v (l F (s 28))⟩,⟨S 30,N,v (m (s 5))⟩,⟨S 31,N,v (.slc F (s 29) .none (.some (s 30)) .none)⟩,⟨S 32,N,a F 24 (s 27) (s 31)⟩,⟨S 6,N,v (m (s 32))⟩]
abbrev corollaryref03_Put_r7:List aA:=[⟨S 33,N,v (m (s 6))⟩,⟨S 34,N,y (.agg 3) []⟩,⟨S 35,N,v (m (s 1))⟩,⟨S 36,N,a (.agg 3) 32 (s 34) (s 35)⟩,⟨S 37,N,y F [s 36]⟩,⟨S 38,N,a F 24 (s 33) (s 37)⟩,⟨S 6,N,v (m (s 38))⟩]
abbrev g56r8:List (aA×List Nat):=[(⟨S 39,N,v (f 0 (s 2))⟩,[]),(⟨S 40,N,v (l F (s 39))⟩,[0]),(⟨S 41,N,v (m (s 6))⟩,[]),(⟨S 42,N,v (f 1 (s 2))⟩,[]),(⟨S 43,N,v (l F (s 42))⟩,[3]),(⟨S 44,N,v (m (s 5))⟩,[]),(⟨S 45,N,v (.slc F (s 43) (.some (s 44)) .none .none)⟩,[3,4,5]),(⟨S 46,N,a F 24 (s 41) (s 45)⟩,[2,3,4,5,6]),(⟨S 47,N,v (.build [(I j 0),(.sl F .nil [])] [(0,F,(s 40)),(1,F,(s 46))])⟩,[0,1,2,3,4,5,6,7])]
abbrev g56r8t:List aA:=[⟨N,N,t (.agg 2) (s 4) (s 47)⟩]
def corollaryref03_Put:LFn:=⟨(Q (O g56r0) (Q (Q (O g56r1) (C (s 9) (Q (O g56r2) .ret) Z)) (Q (O g56r3) (Q (K 0 (R g56l0)) (Q (O g56r6) (Q (O corollaryref03_Put_r7) (Q (D 9 g56r8 g56r8t) .ret))))))),48,[.cell 4 (.agg 2)]⟩
theorem corollaryref03_Put_low:aH Tryz.prog 61=some corollaryref03_Put:=by kernel_rfl
abbrev g57r0:List aA:=[⟨S 6,N,v (m (c (.bool false)))⟩]
abbrev g57r1:List aA:=[⟨S 8,N,v (m (s 0))⟩,⟨S 9,N,v (w (s 8))⟩,⟨S 10,N,v (m (s 1))⟩,⟨S 11,N,v (w (s 10))⟩,⟨S 12,N,v (b .neq (s 9) (s 11))⟩]
abbrev g57r2:List aA:=[⟨S 6,N,v (m (c (.bool false)))⟩]
abbrev g57r3:List aA:=[⟨S 7,N,v (m (c (I j 0)))⟩]
abbrev g57r4:List aA:=[⟨S 13,N,v (m (s 7))⟩,⟨S 14,N,v (m (s 0))⟩,⟨S 15,N,v (w (s 14))⟩,⟨S 16,N,v (b .lss (s 13) (s 15))⟩]
abbrev g57r5:List (aA×List Nat):=[(⟨S 19,N,v (m (s 7))⟩,[]),(⟨S 20,N,v (m (s 2))⟩,[]),(⟨S 21,N,v (b .neq (s 19) (s 20))⟩,[0,1]),(⟨S 22,N,v (m (s 21))⟩,[0,1,2]),(⟨S 23,S (22,true),v (m (s 0))⟩,[0,1,2,3]),(⟨S 24,S (22,true),v (m (s 7))⟩,[0,1,2,3]),(⟨S 25,S (22,true),v (i (.agg 3) (s 23) (s 24))⟩,[0,1,2,3,4,5]),(⟨S 26,S (22,true),v (l (.agg 3) (s 25))⟩,[0,1,2,3,4,5,6]),(⟨S 27,S (22,true),v (m (s 1))⟩,[0,1,2,3]),(⟨S 28,S (22,true),v (m (s 7))⟩,[0,1,2,3]),(⟨S 29,S (22,true),v (i (.agg 3) (s 27) (s 28))⟩,[0,1,2,3,8,9]),(⟨S 30,S (22,true),v (l (.agg 3) (s 29))⟩,[0,1,2,3,8,9,10]),(⟨S 31,S (22,true),v (e true (.plain (.agg 3) [.int,.int,.str]) (s 26) (s 30))⟩,[0,1,2,3,4,5,6,7,8,9,10,11]),(⟨S 32,N,v (p (s 22) (s 31) (c (.bool false)))⟩,[0,1,2,3,4,5,6,7,8,9,10,11,12])]
abbrev g57r5t:List aA:=[]
abbrev g57r6:List aA:=[⟨S 6,N,v (m (c (.bool false)))⟩]
abbrev g57r7:List aA:=[⟨S 17,N,v (m (s 7))⟩,⟨S 18,N,v (b .add (s 17) (c (I j 1)))⟩,⟨S 7,N,v (m (s 18))⟩]
abbrev g57l0:aJ:=(Q (Q (O g57r4) (C (s 16) Z (X 0))) (Q (K 1 (Q (D 14 g57r5 g57r5t) (C (s 32) (Q (O g57r6) .ret) Z))) (O g57r7)))
abbrev g57r8:List aA:=[⟨S 6,N,v (m (c (.bool true)))⟩]
def corollaryref16_alike:LFn:=⟨(Q (O g57r0) (Q (Q (O g57r1) (C (s 12) (Q (O g57r2) .ret) Z)) (Q (Q (O g57r3) (K 0 (R g57l0))) (Q (O g57r8) .ret)))),33,[.slot 6]⟩
theorem corollaryref16_alike_low:aH Tryz.prog 62=some corollaryref16_alike:=by kernel_rfl
abbrev g58r0:List aA:=[⟨S 4,N,x (.agg 3) (c (.agg [(I j 0),(I j 0),(.str ⟨#[]⟩)]))⟩,⟨S 5,N,v (m (c (I j 0)))⟩]
abbrev g58r1:List aA:=[⟨S 14,N,v (m (s 0))⟩,⟨S 15,N,v (b .lss (s 14) (c (I j 1)))⟩,⟨S 16,N,v (m (s 15))⟩,⟨S 17,S (16,false),v (m (s 0))⟩,⟨S 18,S (16,false),v (b .gtr (s 17) (c (I j 4)))⟩,⟨S 19,N,v (p (s 16) (c (.bool true)) (s 18))⟩]
abbrev g58r2:List aA:=[⟨S 20,N,v (.build [(I j 0),(I j 0),(.str ⟨#[]⟩)] [])⟩,⟨N,N,t (.agg 3) (s 4) (s 20)⟩,⟨S 5,N,v (m (c (I j 1)))⟩]
abbrev g58r3:List aA:=[⟨S 21,N,v (m (s 1))⟩,⟨S 22,N,v (w (s 21))⟩,⟨S 23,N,v (b .eql (s 22) (c (I j 0)))⟩]
abbrev g58r4:List aA:=[⟨S 24,N,v (.build [(I j 0),(I j 0),(.str ⟨#[]⟩)] [])⟩,⟨N,N,t (.agg 3) (s 4) (s 24)⟩,⟨S 5,N,v (m (c (I j 13)))⟩]
abbrev g58r5:List aA:=[⟨S 6,N,v (m (c (I j 0)))⟩]
abbrev g58r6:List aA:=[⟨S 25,N,v (m (s 6))⟩,⟨S 26,N,v (m (s 1))⟩,⟨S 27,N,v (w (s 26))⟩,⟨S 28,N,v (b .lss (s 25) (s 27))⟩]
abbrev g58r7:List aA:=[⟨S 31,N,v (m (s 1))⟩,⟨S 32,N,v (m (s 6))⟩,⟨S 33,N,v (i (.agg 3) (s 31) (s 32))⟩,⟨S 34,N,v (l (.agg 3) (s 33))⟩,⟨S 35,N,k 122 [s 34]⟩,⟨S 36,N,v (.not (s 35))⟩]
abbrev g58r8:List aA:=[⟨S 37,N,v (.build [(I j 0),(I j 0),(.str ⟨#[]⟩)] [])⟩,⟨N,N,t (.agg 3) (s 4) (s 37)⟩,⟨S 5,N,v (m (c (I j 2)))⟩]
abbrev g58r9:List aA:=[⟨S 29,N,v (m (s 6))⟩,⟨S 30,N,v (b .add (s 29) (c (I j 1)))⟩,⟨S 6,N,v (m (s 30))⟩]
abbrev g58l0:aJ:=(Q (Q (O g58r6) (C (s 28) Z (X 0))) (Q (K 1 (Q (O g58r7) (C (s 36) (Q (O g58r8) .ret) Z))) (O g58r9)))
abbrev corollaryref16_Fold_r10:List (aA×List Nat):=[(⟨S 38,N,v (m (s 1))⟩,[]),(⟨S 39,N,v (i (.agg 3) (s 38) (c (I j 0)))⟩,[0]),(⟨S 40,N,v (l (.agg 3) (s 39))⟩,[0,1]),(⟨S 41,N,v (m (s 1))⟩,[]),(⟨S 42,N,v (i (.agg 3) (s 41) (c (I j 0)))⟩,[3]),(⟨S 43,N,v (l (.agg 3) (s 42))⟩,[3,4]),(⟨S 9,N,x (.agg 3) (c (.agg [(I j 0),(I j 0),(.str ⟨#[]⟩)]))⟩,[]),(⟨S 10,N,x (.agg 3) (c (.agg [(I j 0),(I j 0),(.str ⟨#[]⟩)]))⟩,[]),(⟨S 7,N,v (m (c (I j 0)))⟩,[6,7]),(⟨S 8,N,v (m (c (I j 0)))⟩,[6,7,8]),(⟨N,N,t (.agg 3) (s 9) (s 40)⟩,[0,1,2,6,7,8,9]),(⟨N,N,t (.agg 3) (s 10) (s 43)⟩,[0,1,2,3,4,5,6,7,8,9,10])]
abbrev g58r10t:List aA:=[]
abbrev corollaryref16_Fold_r11:List aA:=[⟨S 11,N,v (m (c (I j 0)))⟩]
abbrev g58r12:List aA:=[⟨S 44,N,v (m (s 11))⟩,⟨S 45,N,v (m (s 1))⟩,⟨S 46,N,v (w (s 45))⟩,⟨S 47,N,v (b .lss (s 44) (s 46))⟩]
abbrev g58r13:List aA:=[⟨S 50,N,v (m (s 0))⟩,⟨S 51,N,v (b .eql (s 50) (c (I j 2)))⟩,⟨S 52,N,v (m (s 51))⟩,⟨S 53,S (52,true),v (m (s 1))⟩,⟨S 54,S (52,true),v (m (s 11))⟩,⟨S 55,S (52,true),v (i (.agg 3) (s 53) (s 54))⟩,⟨S 56,S (52,true),v (f 0 (s 55))⟩,⟨S 57,S (52,true),v (l F (s 56))⟩,⟨S 58,S (52,true),v (b .neq (s 57) (c (I j 1)))⟩,⟨S 59,N,v (p (s 52) (s 58) (c (.bool false)))⟩]
abbrev g58r14:List aA:=[⟨S 60,N,v (.build [(I j 0),(I j 0),(.str ⟨#[]⟩)] [])⟩,⟨N,N,t (.agg 3) (s 4) (s 60)⟩,⟨S 5,N,v (m (c (I j 7)))⟩]
abbrev g58r15:List aA:=[⟨S 12,N,v (m (c (.bool true)))⟩]
abbrev g58r16:List aA:=[⟨S 13,N,v (m (c (I j 0)))⟩]
abbrev g58r17:List aA:=[⟨S 61,N,v (m (s 13))⟩,⟨S 62,N,v (m (s 11))⟩,⟨S 63,N,v (b .lss (s 61) (s 62))⟩]
abbrev g58r18:List (aA×List Nat):=[(⟨S 66,N,v (m (s 12))⟩,[]),(⟨S 67,N,v (m (s 66))⟩,[0]),(⟨S 68,S (67,true),v (m (s 1))⟩,[0,1]),(⟨S 69,S (67,true),v (m (s 13))⟩,[0,1]),(⟨S 70,S (67,true),v (i (.agg 3) (s 68) (s 69))⟩,[0,1,2,3]),(⟨S 71,S (67,true),v (l (.agg 3) (s 70))⟩,[0,1,2,3,4]),(⟨S 72,S (67,true),v (m (s 1))⟩,[0,1]),(⟨S 73,S (67,true),v (m (s 11))⟩,[0,1]),(⟨S 74,S (67,true),v (i (.agg 3) (s 72) (s 73))⟩,[0,1,6,7]),(⟨S 75,S (67,true),v (l (.agg 3) (s 74))⟩,[0,1,6,7,8]),(⟨S 76,S (67,true),v (e true (.plain (.agg 3) [.int,.int,.str]) (s 71) (s 75))⟩,[0,1,2,3,4,5,6,7,8,9]),(⟨S 77,N,v (p (s 67) (s 76) (c (.bool false)))⟩,[0,1,2,3,4,5,6,7,8,9,10])]
abbrev g58r18t:List aA:=[⟨S 12,N,v (m (s 77))⟩]
abbrev g58r19:List aA:=[⟨S 64,N,v (m (s 13))⟩,⟨S 65,N,v (b .add (s 64) (c (I j 1)))⟩,⟨S 13,N,v (m (s 65))⟩]
abbrev corollaryref16_Fold_l1:aJ:=(Q (Q (O g58r17) (C (s 63) Z (X 4))) (Q (K 5 (D 12 g58r18 g58r18t)) (O g58r19)))
abbrev corollaryref16_Fold_r20:List aA:=[⟨S 78,N,v (m (s 12))⟩]
abbrev corollaryref16_Fold_r21:List aA:=[⟨S 79,N,v (m (s 7))⟩,⟨S 80,N,v (b .add (s 79) (c (I j 1)))⟩,⟨S 7,N,v (m (s 80))⟩]
abbrev corollaryref16_Fold_r22:List aA:=[⟨S 81,N,v (m (s 8))⟩,⟨S 82,N,v (m (s 1))⟩,⟨S 83,N,v (m (s 11))⟩,⟨S 84,N,v (i (.agg 3) (s 82) (s 83))⟩,⟨S 85,N,v (f 1 (s 84))⟩,⟨S 86,N,v (l F (s 85))⟩,⟨S 87,N,v (b .add (s 81) (s 86))⟩,⟨S 8,N,v (m (s 87))⟩]
abbrev corollaryref16_Fold_r23:List (aA×List Nat):=[(⟨S 88,N,v (m (s 1))⟩,[]),(⟨S 89,N,v (m (s 11))⟩,[]),(⟨S 90,N,v (i (.agg 3) (s 88) (s 89))⟩,[0,1]),(⟨S 91,N,v (l (.agg 3) (s 90))⟩,[0,1,2]),(⟨S 92,N,v (l (.agg 3) (s 9))⟩,[]),(⟨S 93,N,k 123 [s 91,s 92]⟩,[0,1,2,3,4])]
abbrev corollaryref16_Fold_r23t:List aA:=[]
abbrev corollaryref16_Fold_r24:List aA:=[⟨S 94,N,v (m (s 1))⟩,⟨S 95,N,v (m (s 11))⟩,⟨S 96,N,v (i (.agg 3) (s 94) (s 95))⟩,⟨S 97,N,v (l (.agg 3) (s 96))⟩,⟨N,N,t (.agg 3) (s 9) (s 97)⟩]
abbrev corollaryref16_Fold_r25:List (aA×List Nat):=[(⟨S 98,N,v (l (.agg 3) (s 10))⟩,[]),(⟨S 99,N,v (m (s 1))⟩,[]),(⟨S 100,N,v (m (s 11))⟩,[]),(⟨S 101,N,v (i (.agg 3) (s 99) (s 100))⟩,[1,2]),(⟨S 102,N,v (l (.agg 3) (s 101))⟩,[1,2,3]),(⟨S 103,N,k 123 [s 98,s 102]⟩,[0,1,2,3,4])]
abbrev corollaryref16_Fold_r25t:List aA:=[]
abbrev corollaryref16_Fold_r26:List aA:=[⟨S 104,N,v (m (s 1))⟩,⟨S 105,N,v (m (s 11))⟩,⟨S 106,N,v (i (.agg 3) (s 104) (s 105))⟩,⟨S 107,N,v (l (.agg 3) (s 106))⟩,⟨N,N,t (.agg 3) (s 10) (s 107)⟩]
abbrev g58r27:List aA:=[⟨S 48,N,v (m (s 11))⟩,⟨S 49,N,v (b .add (s 48) (c (I j 1)))⟩,⟨S 11,N,v (m (s 49))⟩]
abbrev corollaryref16_Fold_l2:aJ:=(Q (Q (O g58r12) (C (s 47) Z (X 2))) (Q (K 3 (Q (Q (O g58r13) (C (s 59) (Q (O g58r14) .ret) Z)) (Q (O g58r15) (Q (Q (O g58r16) (K 4 (R corollaryref16_Fold_l1))) (Q (Q (O corollaryref16_Fold_r20) (C (s 78) (Q (O corollaryref16_Fold_r21) (O corollaryref16_Fold_r22)) Z)) (Q (Q (D 6 corollaryref16_Fold_r23 corollaryref16_Fold_r23t) (C (s 93) (O corollaryref16_Fold_r24) Z)) (Q (D 6 corollaryref16_Fold_r25 corollaryref16_Fold_r25t) (C (s 103) (O corollaryref16_Fold_r26) Z)))))))) (O g58r27)))
abbrev corollaryref16_Fold_r28:List aA:=[⟨S 108,N,v (m (s 0))⟩,⟨S 109,N,v (b .eql (s 108) (c (I j 3)))⟩]
abbrev corollaryref16_Fold_r29:List aA:=[⟨S 110,N,v (l (.agg 3) (s 9))⟩,⟨N,N,t (.agg 3) (s 4) (s 110)⟩,⟨S 5,N,v (m (c (I j 0)))⟩]
abbrev corollaryref16_Fold_r30:List aA:=[⟨S 111,N,v (m (s 0))⟩,⟨S 112,N,v (b .eql (s 111) (c (I j 4)))⟩]
abbrev corollaryref16_Fold_r31:List aA:=[⟨S 113,N,v (l (.agg 3) (s 10))⟩,⟨N,N,t (.agg 3) (s 4) (s 113)⟩,⟨S 5,N,v (m (c (I j 0)))⟩]
abbrev corollaryref16_Fold_r32:List aA:=[⟨S 114,N,v (m (s 0))⟩,⟨S 115,N,v (b .eql (s 114) (c (I j 1)))⟩]
abbrev corollaryref16_Fold_r33:List aA:=[⟨S 116,N,v (m (s 7))⟩,⟨S 8,N,v (m (s 116))⟩]
abbrev corollaryref16_Fold_r34:List aA:=[⟨S 117,N,v (m (s 8))⟩,⟨S 118,N,v (b .gtr (s 117) (c (I j 2147483647)))⟩,⟨S 119,N,v (m (s 118))⟩,⟨S 120,S (119,false),v (m (s 8))⟩,⟨S 121,S (119,false),v (b .lss (s 120) (c (I j (-2147483647))))⟩,⟨S 122,N,v (p (s 119) (c (.bool true)) (s 121))⟩]
abbrev corollaryref16_Fold_r35:List aA:=[⟨S 123,N,v (.build [(I j 0),(I j 0),(.str ⟨#[]⟩)] [])⟩,⟨N,N,t (.agg 3) (s 4) (s 123)⟩,⟨S 5,N,v (m (c (I j 10)))⟩]
abbrev corollaryref16_Fold_r36:List aA:=[⟨S 124,N,v (m (s 8))⟩,⟨S 125,N,v (.build [(I j 0),(I j 0),(.str ⟨#[]⟩)] [(0,F,(c (I j 1))),(1,F,(s 124))])⟩,⟨N,N,t (.agg 3) (s 4) (s 125)⟩,⟨S 5,N,v (m (c (I j 0)))⟩]
def corollaryref16_Fold:LFn:=⟨(Q (O g58r0) (Q (Q (O g58r1) (C (s 19) (Q (O g58r2) .ret) Z)) (Q (Q (O g58r3) (C (s 23) (Q (O g58r4) .ret) Z)) (Q (Q (O g58r5) (K 0 (R g58l0))) (Q (D 13 corollaryref16_Fold_r10 g58r10t) (Q (Q (O corollaryref16_Fold_r11) (K 2 (R corollaryref16_Fold_l2))) (Q (Q (O corollaryref16_Fold_r28) (C (s 109) (Q (O corollaryref16_Fold_r29) .ret) Z)) (Q (Q (O corollaryref16_Fold_r30) (C (s 112) (Q (O corollaryref16_Fold_r31) .ret) Z)) (Q (Q (O corollaryref16_Fold_r32) (C (s 115) (O corollaryref16_Fold_r33) Z)) (Q (Q (O corollaryref16_Fold_r34) (C (s 122) (Q (O corollaryref16_Fold_r35) .ret) Z)) (Q (O corollaryref16_Fold_r36) .ret))))))))))),126,[.cell 4 (.agg 3),.slot 5]⟩
theorem corollaryref16_Fold_low:aH Tryz.prog 63=some corollaryref16_Fold:=by kernel_rfl
abbrev g59r0:List aA:=[⟨S 4,N,v (m (c (.bool false)))⟩]
abbrev g59r1:List aA:=[⟨S 6,N,v (m (s 0))⟩,⟨S 7,N,v (w (s 6))⟩,⟨S 8,N,v (m (s 1))⟩,⟨S 9,N,v (w (s 8))⟩,⟨S 10,N,v (b .neq (s 7) (s 9))⟩]
abbrev g59r2:List aA:=[⟨S 4,N,v (m (c (.bool false)))⟩]
abbrev g59r3:List aA:=[⟨S 11,N,v (m (s 0))⟩,⟨S 12,N,v (w (s 11))⟩,⟨S 13,N,v (m (c (I j 0)))⟩]
abbrev g59r4:List aA:=[⟨S 14,N,v (b .lss (s 13) (s 12))⟩]
abbrev g59r5:List aA:=[⟨S 15,N,v (m (s 13))⟩,⟨S 5,N,v (m (s 15))⟩]
abbrev g59r6:List (aA×List Nat):=[(⟨S 16,N,v (m (s 0))⟩,[]),(⟨S 17,N,v (m (s 5))⟩,[]),(⟨S 18,N,v (i (.agg 3) (s 16) (s 17))⟩,[0,1]),(⟨S 19,N,v (l (.agg 3) (s 18))⟩,[0,1,2]),(⟨S 20,N,v (m (s 1))⟩,[]),(⟨S 21,N,v (m (s 5))⟩,[]),(⟨S 22,N,v (i (.agg 3) (s 20) (s 21))⟩,[4,5]),(⟨S 23,N,v (l (.agg 3) (s 22))⟩,[4,5,6]),(⟨S 24,N,v (e true (.plain (.agg 3) [.int,.int,.str]) (s 19) (s 23))⟩,[0,1,2,3,4,5,6,7])]
abbrev g59r6t:List aA:=[]
abbrev g59r7:List aA:=[⟨S 4,N,v (m (c (.bool false)))⟩]
abbrev g59r8:List aA:=[⟨S 25,N,v (b .add (s 13) (c (I j 1)))⟩,⟨S 13,N,v (m (s 25))⟩]
abbrev g59l0:aJ:=(Q (O g59r4) (Q (C (s 14) Z (X 0)) (Q (K 1 (Q (O g59r5) (Q (D 9 g59r6 g59r6t) (C (s 24) (Q (O g59r7) .ret) Z)))) (O g59r8))))
abbrev g59r9:List aA:=[⟨S 4,N,v (m (c (.bool true)))⟩]
def corollarynum_Tuple:LFn:=⟨(Q (O g59r0) (Q (Q (O g59r1) (C (s 10) (Q (O g59r2) .ret) Z)) (Q (Q (O g59r3) (K 0 (R g59l0))) (Q (O g59r9) .ret)))),26,[.slot 4]⟩
theorem corollarynum_Tuple_low:aH Tryz.prog 64=some corollarynum_Tuple:=by kernel_rfl
abbrev g98r0:List aA:=[⟨S 5,N,v (m (c (.bool false)))⟩]
abbrev g98r1:List aA:=[⟨S 6,N,v (l F (s 2))⟩,⟨S 7,N,v (m (s 0))⟩,⟨S 8,N,v (m (s 1))⟩,⟨S 9,N,.callv (s 6) [s 7,s 8]⟩,⟨S 10,N,v (b .eql (s 9) (c (I j 0)))⟩,⟨S 5,N,v (m (s 10))⟩]
def agg_set_api_Tuple_1:LFn:=⟨(Q (O g98r0) (Q (O g98r1) .ret)),11,[.slot 5]⟩
theorem agg_set_api_Tuple_1_low:aH Tryz.prog 107=some agg_set_api_Tuple_1:=by kernel_rfl
abbrev g99r0:List aA:=[⟨S 6,N,v (m (c (I j 0)))⟩]
abbrev g99r1:List aA:=[⟨S 11,N,v (m (s 0))⟩,⟨S 12,N,v (w (s 11))⟩,⟨S 13,N,v (m (c (I j 0)))⟩]
abbrev g99r2:List aA:=[⟨S 14,N,v (b .lss (s 13) (s 12))⟩]
abbrev g99r3:List aA:=[⟨S 15,N,v (m (s 13))⟩,⟨S 16,N,v (i (.agg 3) (s 11) (s 13))⟩,⟨S 17,N,v (l (.agg 3) (s 16))⟩,⟨S 8,N,x (.agg 3) (c (.agg [(I j 0),(I j 0),(.str ⟨#[]⟩)]))⟩,⟨S 7,N,v (m (s 15))⟩,⟨N,N,t (.agg 3) (s 8) (s 17)⟩]
abbrev g99r4:List aA:=[⟨S 18,N,v (m (s 7))⟩,⟨S 19,N,v (m (s 1))⟩,⟨S 20,N,v (w (s 19))⟩,⟨S 21,N,v (b .geq (s 18) (s 20))⟩]
abbrev g99r5:List aA:=[⟨S 6,N,v (m (c (I j 1)))⟩]
abbrev g99r6:List aA:=[⟨S 22,N,v (m (s 1))⟩,⟨S 23,N,v (m (s 7))⟩,⟨S 24,N,v (i (.agg 3) (s 22) (s 23))⟩,⟨S 25,N,v (l (.agg 3) (s 24))⟩,⟨S 9,N,x (.agg 3) (c (.agg [(I j 0),(I j 0),(.str ⟨#[]⟩)]))⟩,⟨N,N,t (.agg 3) (s 9) (s 25)⟩]
abbrev g99r7:List aA:=[⟨S 26,N,v (m (s 2))⟩,⟨S 27,N,v (l (.agg 3) (s 8))⟩,⟨S 28,N,v (l (.agg 3) (s 9))⟩,⟨S 29,N,.callv (s 26) [s 27,s 28]⟩,⟨S 10,N,v (m (s 29))⟩]
abbrev g99r8:List aA:=[⟨S 30,N,v (m (s 10))⟩,⟨S 31,N,v (b .neq (s 30) (c (I j 0)))⟩]
abbrev g99r9:List aA:=[⟨S 32,N,v (m (s 10))⟩,⟨S 6,N,v (m (s 32))⟩]
abbrev g99r10:List aA:=[⟨S 33,N,v (b .add (s 13) (c (I j 1)))⟩,⟨S 13,N,v (m (s 33))⟩]
abbrev g99l0:aJ:=(Q (O g99r2) (Q (C (s 14) Z (X 0)) (Q (K 1 (Q (O g99r3) (Q (Q (O g99r4) (C (s 21) (Q (O g99r5) .ret) Z)) (Q (O g99r6) (Q (O g99r7) (Q (O g99r8) (C (s 31) (Q (O g99r9) .ret) Z))))))) (O g99r10))))
abbrev g99r11:List aA:=[⟨S 34,N,v (m (s 0))⟩,⟨S 35,N,v (w (s 34))⟩,⟨S 36,N,v (m (s 1))⟩,⟨S 37,N,v (w (s 36))⟩,⟨S 38,N,v (b .lss (s 35) (s 37))⟩]
abbrev g99r12:List aA:=[⟨S 6,N,v (m (c (I j (-1))))⟩]
abbrev g99r13:List aA:=[⟨S 6,N,v (m (c (I j 0)))⟩]
def slices_CompareFunc_api_Tuple_api_Tuple_api_Value_api_Value:LFn:=⟨(Q (O g99r0) (Q (Q (O g99r1) (K 0 (R g99l0))) (Q (Q (O g99r11) (C (s 38) (Q (O g99r12) .ret) Z)) (Q (O g99r13) .ret)))),39,[.slot 6]⟩
theorem slices_CompareFunc_api_Tuple_api_Tuple_api_Value_api_Value_low:aH Tryz.prog 108=some slices_CompareFunc_api_Tuple_api_Tuple_api_Value_api_Value:=by kernel_rfl
abbrev g100r0:List aA:=[⟨S 2,N,x (.agg 3) (s 0)⟩,⟨S 3,N,x (.agg 3) (s 1)⟩,⟨S 4,N,v (m (c (I j 0)))⟩]
abbrev g100r1:List (aA×List Nat):=[(⟨S 5,N,v (f 0 (s 2))⟩,[]),(⟨S 6,N,v (l F (s 5))⟩,[0]),(⟨S 7,N,v (f 0 (s 3))⟩,[]),(⟨S 8,N,v (l F (s 7))⟩,[2]),(⟨S 9,N,k 164 [s 6,s 8]⟩,[0,1,2,3]),(⟨S 10,N,v (f 1 (s 2))⟩,[]),(⟨S 11,N,v (l F (s 10))⟩,[5]),(⟨S 12,N,v (f 1 (s 3))⟩,[]),(⟨S 13,N,v (l F (s 12))⟩,[7]),(⟨S 14,N,k 165 [s 11,s 13]⟩,[0,1,2,3,4,5,6,7,8]),(⟨S 15,N,v (f 2 (s 2))⟩,[]),(⟨S 16,N,v (l F (s 15))⟩,[10]),(⟨S 17,N,v (f 2 (s 3))⟩,[]),(⟨S 18,N,v (l F (s 17))⟩,[12]),(⟨S 19,N,k 166 [s 16,s 18]⟩,[0,1,2,3,4,5,6,7,8,9,10,11,12,13]),(⟨S 20,N,y F [s 9,s 14,s 19]⟩,[0,1,2,3,4,5,6,7,8,9,10,11,12,13,14]),(⟨S 21,N,k 163 [s 20]⟩,[0,1,2,3,4,5,6,7,8,9,10,11,12,13,14,15]),(⟨S 4,N,v (m (s 21))⟩,[0,1,2,3,4,5,6,7,8,9,10,11,12,13,14,15,16])]
abbrev g100r1t:List aA:=[]
def value_Compare:LFn:=⟨(Q (O g100r0) (Q (D 18 g100r1 g100r1t) .ret)),22,[.slot 4]⟩
theorem value_Compare_low:aH Tryz.prog 109=some value_Compare:=by kernel_rfl
abbrev g103r0:List aA:=[⟨S 1,N,x (.agg 3) (s 0)⟩,⟨S 2,N,v (m (c (.bool false)))⟩]
abbrev g103r1:List aA:=[⟨S 3,N,v (l (.agg 3) (s 1))⟩,⟨S 4,N,k 113 [s 3]⟩,⟨S 5,N,v (.not (s 4))⟩,⟨S 2,N,v (m (s 5))⟩]
def agg_Fold_1:LFn:=⟨(Q (O g103r0) (Q (O g103r1) .ret)),6,[.slot 2]⟩
theorem agg_Fold_1_low:aH Tryz.prog 112=some agg_Fold_1:=by kernel_rfl
abbrev g104r0:List aA:=[⟨S 1,N,x (.agg 3) (s 0)⟩,⟨S 2,N,v (m (c (.bool false)))⟩]
abbrev g104r1:List aA:=[⟨S 3,N,v (f 0 (s 1))⟩,⟨S 4,N,v (l F (s 3))⟩]
abbrev g104r2:List aA:=[⟨S 6,N,v (b .eql (s 4) (c (I j 1)))⟩,⟨S 5,N,v (m (s 6))⟩]
abbrev g104r3:List aA:=[⟨S 7,N,v (f 2 (s 1))⟩,⟨S 8,N,v (l F (s 7))⟩,⟨S 9,N,v (b .eql (s 8) (c (.str ⟨#[]⟩)))⟩,⟨S 10,N,v (m (s 9))⟩,⟨S 11,S (10,true),v (f 1 (s 1))⟩,⟨S 12,S (10,true),v (l F (s 11))⟩,⟨S 13,S (10,true),k 167 [s 12]⟩,⟨S 14,N,v (p (s 10) (s 13) (c (.bool false)))⟩,⟨S 2,N,v (m (s 14))⟩]
abbrev g104r4:List aA:=[⟨S 16,N,v (b .eql (s 4) (c (I j 2)))⟩,⟨S 15,N,v (m (s 16))⟩]
abbrev g104r5:List aA:=[⟨S 17,N,v (f 1 (s 1))⟩,⟨S 18,N,v (l F (s 17))⟩,⟨S 19,N,v (b .eql (s 18) (c (I j 0)))⟩,⟨S 20,N,v (m (s 19))⟩,⟨S 21,S (20,true),v (f 2 (s 1))⟩,⟨S 22,S (20,true),v (l F (s 21))⟩,⟨S 23,S (20,true),k 168 [s 22]⟩,⟨S 24,N,v (p (s 20) (s 23) (c (.bool false)))⟩,⟨S 2,N,v (m (s 24))⟩]
abbrev g104r6:List aA:=[⟨S 2,N,v (m (c (.bool false)))⟩]
def value_Right:LFn:=⟨(Q (O g104r0) (Q (Q (O g104r1) (K 0 (Q (O g104r2) (C (s 5) (Q (O g104r3) .ret) (Q (O g104r4) (C (s 15) (Q (O g104r5) .ret) Z)))))) (Q (O g104r6) .ret))),25,[.slot 2]⟩
theorem value_Right_low:aH Tryz.prog 113=some value_Right:=by kernel_rfl
abbrev g105r0:List aA:=[⟨S 1,N,x (.agg 3) (s 0)⟩,⟨S 2,N,v (m (c (.bool false)))⟩]
abbrev g105r1:List aA:=[⟨S 3,N,v (f 0 (s 1))⟩,⟨S 4,N,v (l F (s 3))⟩,⟨S 5,N,v (b .neq (s 4) (c (I j 1)))⟩,⟨S 2,N,v (m (s 5))⟩]
def agg_Fold_2:LFn:=⟨(Q (O g105r0) (Q (O g105r1) .ret)),6,[.slot 2]⟩
theorem agg_Fold_2_low:aH Tryz.prog 114=some agg_Fold_2:=by kernel_rfl
abbrev g108r0:List aA:=[⟨S 2,N,x (.agg 3) (c (.agg [(I j 0),(I j 0),(.str ⟨#[]⟩)]))⟩,⟨S 3,N,v (m (c .nilIface))⟩]
abbrev g108r1:List aA:=[⟨S 4,N,v (m (s 0))⟩,⟨S 5,N,k 167 [s 4]⟩,⟨S 6,N,v (.not (s 5))⟩]
abbrev g108r2:List aA:=[⟨S 7,N,v (.build [(I j 0),(I j 0),(.str ⟨#[]⟩)] [])⟩,⟨S 8,N,v (.mkif 48 (c (I j 10)))⟩,⟨N,N,t (.agg 3) (s 2) (s 7)⟩,⟨S 3,N,v (m (s 8))⟩]
abbrev g108r3:List aA:=[⟨S 9,N,v (m (s 0))⟩,⟨S 10,N,v (.build [(I j 0),(I j 0),(.str ⟨#[]⟩)] [(0,F,(c (I j 1))),(1,F,(s 9))])⟩,⟨N,N,t (.agg 3) (s 2) (s 10)⟩,⟨S 3,N,v (m (c .nilIface))⟩]
def value_Of:LFn:=⟨(Q (O g108r0) (Q (Q (O g108r1) (C (s 6) (Q (O g108r2) .ret) Z)) (Q (O g108r3) .ret))),11,[.cell 2 (.agg 3),.slot 3]⟩
theorem value_Of_low:aH Tryz.prog 117=some value_Of:=by kernel_rfl
abbrev g110r0:List aA:=[⟨S 2,N,x (.agg 2) (s 0)⟩,⟨S 4,N,v (m (c (.bool false)))⟩]
abbrev g110r1:List aA:=[⟨S 5,N,v (m (c (I j 0)))⟩]
abbrev g110r2:List aA:=[⟨S 6,N,v (m (s 5))⟩,⟨S 7,N,v (f 1 (s 2))⟩,⟨S 8,N,v (l F (s 7))⟩,⟨S 9,N,v (w (s 8))⟩,⟨S 10,N,v (b .lss (s 6) (s 9))⟩]
abbrev g110r3:List aA:=[⟨S 13,N,v (f 1 (s 2))⟩,⟨S 14,N,v (l F (s 13))⟩,⟨S 15,N,v (m (s 5))⟩,⟨S 16,N,v (i F (s 14) (s 15))⟩,⟨S 17,N,v (l F (s 16))⟩,⟨S 18,N,v (m (s 1))⟩,⟨S 19,N,k 175 [s 17,s 18]⟩]
abbrev g110r4:List aA:=[⟨S 4,N,v (m (c (.bool true)))⟩]
abbrev g110r5:List aA:=[⟨S 11,N,v (m (s 5))⟩,⟨S 12,N,v (b .add (s 11) (c (I j 1)))⟩,⟨S 5,N,v (m (s 12))⟩]
abbrev g110l0:aJ:=(Q (Q (O g110r2) (C (s 10) Z (X 0))) (Q (K 1 (Q (O g110r3) (C (s 19) (Q (O g110r4) .ret) Z))) (O g110r5)))
abbrev g110r6:List aA:=[⟨S 4,N,v (m (c (.bool false)))⟩]
def corollaryref03_Has:LFn:=⟨(Q (O g110r0) (Q (Q (O g110r1) (K 0 (R g110l0))) (Q (O g110r6) .ret))),20,[.slot 4]⟩
theorem corollaryref03_Has_low:aH Tryz.prog 120=some corollaryref03_Has:=by kernel_rfl
abbrev g111r0:List aA:=[⟨S 4,N,v (m (c (.bool false)))⟩]
abbrev g111r1:List aA:=[⟨S 5,N,v (m (c (I j 0)))⟩]
abbrev g111r2:List aA:=[⟨S 6,N,v (m (s 5))⟩,⟨S 7,N,v (m (s 0))⟩,⟨S 8,N,v (w (s 7))⟩,⟨S 9,N,v (b .lss (s 6) (s 8))⟩,⟨S 10,N,v (m (s 9))⟩,⟨S 11,S (10,true),v (m (s 5))⟩,⟨S 12,S (10,true),v (m (s 1))⟩,⟨S 13,S (10,true),v (w (s 12))⟩,⟨S 14,S (10,true),v (b .lss (s 11) (s 13))⟩,⟨S 15,N,v (p (s 10) (s 14) (c (.bool false)))⟩]
abbrev g111r3:List (aA×List Nat):=[(⟨S 18,N,v (m (s 0))⟩,[]),(⟨S 19,N,v (m (s 5))⟩,[]),(⟨S 20,N,v (i (.agg 3) (s 18) (s 19))⟩,[0,1]),(⟨S 21,N,v (l (.agg 3) (s 20))⟩,[0,1,2]),(⟨S 22,N,v (m (s 1))⟩,[]),(⟨S 23,N,v (m (s 5))⟩,[]),(⟨S 24,N,v (i (.agg 3) (s 22) (s 23))⟩,[4,5]),(⟨S 25,N,v (l (.agg 3) (s 24))⟩,[4,5,6]),(⟨S 26,N,v (e true (.plain (.agg 3) [.int,.int,.str]) (s 21) (s 25))⟩,[0,1,2,3,4,5,6,7])]
abbrev g111r3t:List aA:=[]
abbrev g111r4:List (aA×List Nat):=[(⟨S 27,N,v (m (s 0))⟩,[]),(⟨S 28,N,v (m (s 5))⟩,[]),(⟨S 29,N,v (i (.agg 3) (s 27) (s 28))⟩,[0,1]),(⟨S 30,N,v (l (.agg 3) (s 29))⟩,[0,1,2]),(⟨S 31,N,v (m (s 1))⟩,[]),(⟨S 32,N,v (m (s 5))⟩,[]),(⟨S 33,N,v (i (.agg 3) (s 31) (s 32))⟩,[4,5]),(⟨S 34,N,v (l (.agg 3) (s 33))⟩,[4,5,6]),(⟨S 35,N,k 123 [s 30,s 34]⟩,[0,1,2,3,4,5,6,7]),(⟨S 4,N,v (m (s 35))⟩,[0,1,2,3,4,5,6,7,8])]
abbrev g111r4t:List aA:=[]
abbrev g111r5:List aA:=[⟨S 16,N,v (m (s 5))⟩,⟨S 17,N,v (b .add (s 16) (c (I j 1)))⟩,⟨S 5,N,v (m (s 17))⟩]
abbrev g111l0:aJ:=(Q (Q (O g111r2) (C (s 15) Z (X 0))) (Q (K 1 (Q (D 9 g111r3 g111r3t) (C (s 26) (Q (D 10 g111r4 g111r4t) .ret) Z))) (O g111r5)))
abbrev g111r6:List aA:=[⟨S 36,N,v (m (s 0))⟩,⟨S 37,N,v (w (s 36))⟩,⟨S 38,N,v (m (s 1))⟩,⟨S 39,N,v (w (s 38))⟩,⟨S 40,N,v (b .lss (s 37) (s 39))⟩,⟨S 4,N,v (m (s 40))⟩]
def corollaryref02_Less:LFn:=⟨(Q (O g111r0) (Q (Q (O g111r1) (K 0 (R g111l0))) (Q (O g111r6) .ret))),41,[.slot 4]⟩
theorem corollaryref02_Less_low:aH Tryz.prog 121=some corollaryref02_Less:=by kernel_rfl
abbrev g112r0:List aA:=[⟨S 1,N,x (.agg 3) (s 0)⟩,⟨S 2,N,v (m (c (.bool false)))⟩]
abbrev g112r1:List aA:=[⟨S 3,N,v (f 0 (s 1))⟩,⟨S 4,N,v (l F (s 3))⟩,⟨S 5,N,v (b .eql (s 4) (c (I j 1)))⟩]
abbrev g112r2:List aA:=[⟨S 6,N,v (f 2 (s 1))⟩,⟨S 7,N,v (l F (s 6))⟩,⟨S 8,N,v (.slen (s 7))⟩,⟨S 9,N,v (b .eql (s 8) (c (I j 0)))⟩,⟨S 10,N,v (m (s 9))⟩,⟨S 11,S (10,true),v (f 1 (s 1))⟩,⟨S 12,S (10,true),v (l F (s 11))⟩,⟨S 13,S (10,true),v (b .geq (s 12) (c (I j (-2147483647))))⟩,⟨S 14,N,v (p (s 10) (s 13) (c (.bool false)))⟩,⟨S 15,N,v (m (s 14))⟩,⟨S 16,S (15,true),v (f 1 (s 1))⟩,⟨S 17,S (15,true),v (l F (s 16))⟩,⟨S 18,S (15,true),v (b .leq (s 17) (c (I j 2147483647)))⟩,⟨S 19,N,v (p (s 15) (s 18) (c (.bool false)))⟩,⟨S 2,N,v (m (s 19))⟩]
abbrev g112r3:List aA:=[⟨S 20,N,v (f 0 (s 1))⟩,⟨S 21,N,v (l F (s 20))⟩,⟨S 22,N,v (b .eql (s 21) (c (I j 2)))⟩,⟨S 23,N,v (m (s 22))⟩,⟨S 24,S (23,true),v (f 1 (s 1))⟩,⟨S 25,S (23,true),v (l F (s 24))⟩,⟨S 26,S (23,true),v (b .eql (s 25) (c (I j 0)))⟩,⟨S 27,N,v (p (s 23) (s 26) (c (.bool false)))⟩,⟨S 28,N,v (m (s 27))⟩,⟨S 29,S (28,true),v (f 2 (s 1))⟩,⟨S 30,S (28,true),v (l F (s 29))⟩,⟨S 31,S (28,true),k 176 [s 30]⟩,⟨S 32,N,v (p (s 28) (s 31) (c (.bool false)))⟩,⟨S 2,N,v (m (s 32))⟩]
def corollaryref01_Right:LFn:=⟨(Q (O g112r0) (Q (Q (O g112r1) (C (s 5) (Q (O g112r2) .ret) Z)) (Q (O g112r3) .ret))),33,[.slot 2]⟩
theorem corollaryref01_Right_low:aH Tryz.prog 122=some corollaryref01_Right:=by kernel_rfl
abbrev g113r0:List aA:=[⟨S 2,N,x (.agg 3) (s 0)⟩,⟨S 3,N,x (.agg 3) (s 1)⟩,⟨S 4,N,v (m (c (.bool false)))⟩]
abbrev g113r1:List aA:=[⟨S 5,N,v (f 0 (s 2))⟩,⟨S 6,N,v (l F (s 5))⟩,⟨S 7,N,v (f 0 (s 3))⟩,⟨S 8,N,v (l F (s 7))⟩,⟨S 9,N,v (b .neq (s 6) (s 8))⟩]
abbrev g113r2:List aA:=[⟨S 10,N,v (f 0 (s 2))⟩,⟨S 11,N,v (l F (s 10))⟩,⟨S 12,N,v (f 0 (s 3))⟩,⟨S 13,N,v (l F (s 12))⟩,⟨S 14,N,v (b .lss (s 11) (s 13))⟩,⟨S 4,N,v (m (s 14))⟩]
abbrev g113r3:List aA:=[⟨S 15,N,v (f 1 (s 2))⟩,⟨S 16,N,v (l F (s 15))⟩,⟨S 17,N,v (f 1 (s 3))⟩,⟨S 18,N,v (l F (s 17))⟩,⟨S 19,N,v (b .neq (s 16) (s 18))⟩]
abbrev g113r4:List aA:=[⟨S 20,N,v (f 1 (s 2))⟩,⟨S 21,N,v (l F (s 20))⟩,⟨S 22,N,v (f 1 (s 3))⟩,⟨S 23,N,v (l F (s 22))⟩,⟨S 24,N,v (b .lss (s 21) (s 23))⟩,⟨S 4,N,v (m (s 24))⟩]
abbrev g113r5:List aA:=[⟨S 25,N,v (f 2 (s 2))⟩,⟨S 26,N,v (l F (s 25))⟩,⟨S 27,N,v (f 2 (s 3))⟩,⟨S 28,N,v (l F (s 27))⟩,⟨S 29,N,v (b .lss (s 26) (s 28))⟩,⟨S 4,N,v (m (s 29))⟩]
def corollaryref01_Less:LFn:=⟨(Q (O g113r0) (Q (Q (O g113r1) (C (s 9) (Q (O g113r2) .ret) Z)) (Q (Q (O g113r3) (C (s 19) (Q (O g113r4) .ret) Z)) (Q (O g113r5) .ret)))),30,[.slot 4]⟩
theorem corollaryref01_Less_low:aH Tryz.prog 123=some corollaryref01_Less:=by kernel_rfl
abbrev g148r0:List aA:=[⟨S 4,N,v (m (c (I j 0)))⟩]
abbrev g148r1:List aA:=[⟨S 7,N,v (m (s 0))⟩,⟨S 8,N,k 204 [s 7]⟩,⟨S 5,N,v (m (s 8))⟩]
abbrev g148r2:List aA:=[⟨S 9,N,v (m (s 1))⟩,⟨S 10,N,k 204 [s 9]⟩,⟨S 6,N,v (m (s 10))⟩]
abbrev g148r3:List aA:=[⟨S 11,N,v (m (s 5))⟩]
abbrev g148r4:List aA:=[⟨S 12,N,v (m (s 6))⟩]
abbrev g148r5:List aA:=[⟨S 4,N,v (m (c (I j 0)))⟩]
abbrev g148r6:List aA:=[⟨S 4,N,v (m (c (I j (-1))))⟩]
abbrev g148r7:List aA:=[⟨S 13,N,v (m (s 6))⟩]
abbrev g148r8:List aA:=[⟨S 4,N,v (m (c (I j 1)))⟩]
abbrev g148r9:List aA:=[⟨S 14,N,v (m (s 0))⟩,⟨S 15,N,v (m (s 1))⟩,⟨S 16,N,v (b .lss (s 14) (s 15))⟩]
abbrev g148r10:List aA:=[⟨S 4,N,v (m (c (I j (-1))))⟩]
abbrev g148r11:List aA:=[⟨S 17,N,v (m (s 0))⟩,⟨S 18,N,v (m (s 1))⟩,⟨S 19,N,v (b .gtr (s 17) (s 18))⟩]
abbrev g148r12:List aA:=[⟨S 4,N,v (m (c (I j 1)))⟩]
abbrev g148r13:List aA:=[⟨S 4,N,v (m (c (I j 0)))⟩]
def cmp_Compare_string:LFn:=⟨(Q (O g148r0) (Q (O g148r1) (Q (O g148r2) (Q (Q (O g148r3) (C (s 11) (Q (Q (O g148r4) (C (s 12) (Q (O g148r5) .ret) Z)) (Q (O g148r6) .ret)) Z)) (Q (Q (O g148r7) (C (s 13) (Q (O g148r8) .ret) Z)) (Q (Q (O g148r9) (C (s 16) (Q (O g148r10) .ret) Z)) (Q (Q (O g148r11) (C (s 19) (Q (O g148r12) .ret) Z)) (Q (O g148r13) .ret)))))))),20,[.slot 4]⟩
theorem cmp_Compare_string_low:aH Tryz.prog 166=some cmp_Compare_string:=by kernel_rfl
abbrev g149r0:List aA:=[⟨S 2,N,v (m (c (.bool false)))⟩]
abbrev g149r1:List aA:=[⟨S 3,N,v (m (s 0))⟩,⟨S 4,N,v (b .geq (s 3) (c (I j (-2147483647))))⟩,⟨S 5,N,v (m (s 4))⟩,⟨S 6,S (5,true),v (m (s 0))⟩,⟨S 7,S (5,true),v (b .leq (s 6) (c (I j 2147483647)))⟩,⟨S 8,N,v (p (s 5) (s 7) (c (.bool false)))⟩,⟨S 2,N,v (m (s 8))⟩]
def value_bounded:LFn:=⟨(Q (O g149r0) (Q (O g149r1) .ret)),9,[.slot 2]⟩
theorem value_bounded_low:aH Tryz.prog 167=some value_bounded:=by kernel_rfl
abbrev g150r0:List aA:=[⟨S 2,N,v (m (c (.bool false)))⟩]
abbrev g150r1:List aA:=[⟨S 3,N,v (m (c (.fn (.func 205) [] [])))⟩]
abbrev g150r2:List aA:=[⟨S 4,N,v (m (s 0))⟩,⟨S 5,N,v (b .neq (s 4) (c (.str ⟨#[]⟩)))⟩,⟨S 6,N,v (m (s 5))⟩,⟨S 7,S (6,true),v (m (s 0))⟩,⟨S 8,S (6,true),v (.slen (s 7))⟩,⟨S 9,S (6,true),v (b .leq (s 8) (c (I j 32)))⟩,⟨S 10,N,v (p (s 6) (s 9) (c (.bool false)))⟩,⟨S 11,N,v (m (s 10))⟩,⟨S 12,S (11,true),v (m (s 0))⟩,⟨S 13,S (11,true),v (.sidx (s 12) (c (I j 0)))⟩,⟨S 14,S (11,true),k 206 [s 13]⟩,⟨S 15,N,v (p (s 11) (s 14) (c (.bool false)))⟩,⟨S 16,N,v (m (s 15))⟩,⟨S 17,S (16,true),v (m (s 0))⟩,⟨S 18,S (16,true),v (m (s 3))⟩,⟨S 19,S (16,true),k 207 [s 17,s 18]⟩,⟨S 20,S (16,true),v (.not (s 19))⟩,⟨S 21,N,v (p (s 16) (s 20) (c (.bool false)))⟩,⟨S 2,N,v (m (s 21))⟩]
def value_Name:LFn:=⟨(Q (O g150r0) (Q (O g150r1) (Q (O g150r2) .ret))),22,[.slot 2]⟩
theorem value_Name_low:aH Tryz.prog 168=some value_Name:=by kernel_rfl
abbrev g155r0:List aA:=[⟨S 3,N,x (.agg 3) (s 0)⟩,⟨S 4,N,x (.agg 3) (s 1)⟩,⟨S 5,N,v (m (c (.bool false)))⟩]
abbrev g155r1:List aA:=[⟨S 6,N,v (l F (s 2))⟩,⟨S 7,N,v (l (.agg 3) (s 3))⟩,⟨S 8,N,v (l (.agg 3) (s 4))⟩,⟨S 9,N,.callv (s 6) [s 7,s 8]⟩,⟨S 10,N,v (b .eql (s 9) (c (I j 0)))⟩,⟨S 5,N,v (m (s 10))⟩]
def agg_set_api_Value_1:LFn:=⟨(Q (O g155r0) (Q (O g155r1) .ret)),11,[.slot 5]⟩
theorem agg_set_api_Value_1_low:aH Tryz.prog 173=some agg_set_api_Value_1:=by kernel_rfl
abbrev g157r0:List aA:=[⟨S 4,N,v (m (c (.bool false)))⟩]
abbrev g157r1:List aA:=[⟨S 5,N,v (m (s 0))⟩,⟨S 6,N,v (m (s 1))⟩,⟨S 7,N,k 121 [s 5,s 6]⟩,⟨S 8,N,v (.not (s 7))⟩,⟨S 9,N,v (m (s 8))⟩,⟨S 10,S (9,true),v (m (s 1))⟩,⟨S 11,S (9,true),v (m (s 0))⟩,⟨S 12,S (9,true),k 121 [s 10,s 11]⟩,⟨S 13,S (9,true),v (.not (s 12))⟩,⟨S 14,N,v (p (s 9) (s 13) (c (.bool false)))⟩,⟨S 4,N,v (m (s 14))⟩]
def corollaryref02_Same:LFn:=⟨(Q (O g157r0) (Q (O g157r1) .ret)),15,[.slot 4]⟩
theorem corollaryref02_Same_low:aH Tryz.prog 175=some corollaryref02_Same:=by kernel_rfl
abbrev g158r0:List aA:=[⟨S 2,N,v (m (c (.bool false)))⟩]
abbrev g158r1:List aA:=[⟨S 3,N,v (m (c (I j 0)))⟩]
abbrev g158r2:List aA:=[⟨S 6,N,v (m (s 3))⟩,⟨S 7,N,v (m (s 0))⟩,⟨S 8,N,v (.slen (s 7))⟩,⟨S 9,N,v (b .lss (s 6) (s 8))⟩]
abbrev g158r3:List aA:=[⟨S 12,N,v (m (s 0))⟩,⟨S 13,N,v (m (s 3))⟩,⟨S 14,N,v (.sidx (s 12) (s 13))⟩,⟨S 4,N,v (m (s 14))⟩]
abbrev g158r4:List aA:=[⟨S 15,N,v (m (s 4))⟩,⟨S 16,N,v (b .geq (s 15) (c (.int .u8 97)))⟩,⟨S 17,N,v (m (s 16))⟩,⟨S 18,S (17,true),v (m (s 4))⟩,⟨S 19,S (17,true),v (b .leq (s 18) (c (.int .u8 122)))⟩,⟨S 20,N,v (p (s 17) (s 19) (c (.bool false)))⟩,⟨S 5,N,v (m (s 20))⟩]
abbrev g158r5:List aA:=[⟨S 21,N,v (m (s 5))⟩,⟨S 22,N,v (.not (s 21))⟩,⟨S 23,N,v (m (s 22))⟩,⟨S 24,S (23,true),v (m (s 3))⟩,⟨S 25,S (23,true),v (b .eql (s 24) (c (I j 0)))⟩,⟨S 26,S (23,true),v (m (s 25))⟩,⟨S 27,S (26,false),v (m (s 4))⟩,⟨S 28,S (26,false),v (b .geq (s 27) (c (.int .u8 48)))⟩,⟨S 29,S (26,false),v (m (s 28))⟩,⟨S 30,S (29,true),v (m (s 4))⟩,⟨S 31,S (29,true),v (b .leq (s 30) (c (.int .u8 57)))⟩,⟨S 32,S (26,false),v (p (s 29) (s 31) (c (.bool false)))⟩,⟨S 33,S (26,false),v (.not (s 32))⟩,⟨S 34,S (26,false),v (m (s 33))⟩,⟨S 35,S (34,true),v (m (s 4))⟩,⟨S 36,S (34,true),v (b .neq (s 35) (c (.int .u8 95)))⟩,⟨S 37,S (26,false),v (p (s 34) (s 36) (c (.bool false)))⟩,⟨S 38,S (23,true),v (p (s 26) (c (.bool true)) (s 37))⟩,⟨S 39,N,v (p (s 23) (s 38) (c (.bool false)))⟩]
abbrev g158r6:List aA:=[⟨S 2,N,v (m (c (.bool false)))⟩]
abbrev g158r7:List aA:=[⟨S 10,N,v (m (s 3))⟩,⟨S 11,N,v (b .add (s 10) (c (I j 1)))⟩,⟨S 3,N,v (m (s 11))⟩]
abbrev g158l0:aJ:=(Q (Q (O g158r2) (C (s 9) Z (X 0))) (Q (K 1 (Q (O g158r3) (Q (O g158r4) (Q (O g158r5) (C (s 39) (Q (O g158r6) .ret) Z))))) (O g158r7)))
abbrev g158r8:List aA:=[⟨S 40,N,v (m (s 0))⟩,⟨S 41,N,v (.slen (s 40))⟩,⟨S 42,N,v (b .geq (s 41) (c (I j 1)))⟩,⟨S 43,N,v (m (s 42))⟩,⟨S 44,S (43,true),v (m (s 0))⟩,⟨S 45,S (43,true),v (.slen (s 44))⟩,⟨S 46,S (43,true),v (b .leq (s 45) (c (I j 32)))⟩,⟨S 47,N,v (p (s 43) (s 46) (c (.bool false)))⟩,⟨S 2,N,v (m (s 47))⟩]
def corollaryref01_Name:LFn:=⟨(Q (O g158r0) (Q (Q (O g158r1) (K 0 (R g158l0))) (Q (O g158r8) .ret))),48,[.slot 2]⟩
theorem corollaryref01_Name_low:aH Tryz.prog 176=some corollaryref01_Name:=by kernel_rfl
abbrev g185r0:List aA:=[⟨S 2,N,v (m (c (.bool false)))⟩]
abbrev g185r1:List aA:=[⟨S 3,N,v (m (s 0))⟩,⟨S 4,N,v (m (s 0))⟩,⟨S 5,N,v (b .neq (s 3) (s 4))⟩,⟨S 2,N,v (m (s 5))⟩]
def cmp_isNaN_string:LFn:=⟨(Q (O g185r0) (Q (O g185r1) .ret)),6,[.slot 2]⟩
theorem cmp_isNaN_string_low:aH Tryz.prog 204=some cmp_isNaN_string:=by kernel_rfl
abbrev g186r0:List aA:=[⟨S 2,N,v (m (c (.bool false)))⟩]
abbrev g186r1:List aA:=[⟨S 3,N,v (m (s 0))⟩,⟨S 4,N,v (b .geq (s 3) (c (.int .i32 97)))⟩,⟨S 5,N,v (m (s 4))⟩,⟨S 6,S (5,true),v (m (s 0))⟩,⟨S 7,S (5,true),v (b .leq (s 6) (c (.int .i32 122)))⟩,⟨S 8,N,v (p (s 5) (s 7) (c (.bool false)))⟩,⟨S 9,N,v (m (s 8))⟩,⟨S 10,S (9,false),v (m (s 0))⟩,⟨S 11,S (9,false),v (b .geq (s 10) (c (.int .i32 48)))⟩,⟨S 12,S (9,false),v (m (s 11))⟩,⟨S 13,S (12,true),v (m (s 0))⟩,⟨S 14,S (12,true),v (b .leq (s 13) (c (.int .i32 57)))⟩,⟨S 15,S (9,false),v (p (s 12) (s 14) (c (.bool false)))⟩,⟨S 16,N,v (p (s 9) (c (.bool true)) (s 15))⟩,⟨S 17,N,v (m (s 16))⟩,⟨S 18,S (17,false),v (m (s 0))⟩,⟨S 19,S (17,false),v (b .eql (s 18) (c (.int .i32 95)))⟩,⟨S 20,N,v (p (s 17) (c (.bool true)) (s 19))⟩,⟨S 21,N,v (.not (s 20))⟩,⟨S 2,N,v (m (s 21))⟩]
def value_Name_1:LFn:=⟨(Q (O g186r0) (Q (O g186r1) .ret)),22,[.slot 2]⟩
theorem value_Name_1_low:aH Tryz.prog 205=some value_Name_1:=by kernel_rfl
abbrev g187r0:List aA:=[⟨S 2,N,v (m (c (.bool false)))⟩]
abbrev g187r1:List aA:=[⟨S 3,N,v (m (s 0))⟩,⟨S 4,N,v (b .geq (s 3) (c (.int .u8 97)))⟩,⟨S 5,N,v (m (s 4))⟩,⟨S 6,S (5,true),v (m (s 0))⟩,⟨S 7,S (5,true),v (b .leq (s 6) (c (.int .u8 122)))⟩,⟨S 8,N,v (p (s 5) (s 7) (c (.bool false)))⟩,⟨S 2,N,v (m (s 8))⟩]
def value_letter:LFn:=⟨(Q (O g187r0) (Q (O g187r1) .ret)),9,[.slot 2]⟩
theorem value_letter_low:aH Tryz.prog 206=some value_letter:=by kernel_rfl
end L
end Go.Proofs.YtemjhgboialjpaaGreat
