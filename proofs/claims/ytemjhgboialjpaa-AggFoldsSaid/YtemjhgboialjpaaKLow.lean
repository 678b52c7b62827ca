/-
The functions of the code,lowered:printed by a program,checked by the kernel. No conditions.
-/
import Derived.Test.YtemjhgboialjpaaKcb
import Derived.Test.YtemjhgboialjpaaProg
namespace Go.Proofs.Ytemjhgboialjpaa
open Go.RowKit
open aF renaming slot→s,const→c
open aR renaming move→m,load→l,fldA→f,bin→b,eq→e,idxA→i,pick→p,ext→q,nilCheck→n,len→w
open LOp renaming val→v,call→k,box→x,bslice→y,append→a,store→t
open aK renaming seq→Q,ops→O,cond→C,block→K,loop→R,skip→Z,exit→X,draw→D
open Sh renaming leaf→F
open V renaming int→I
open Go.IntKind renaming i64→j
open Option renaming some→S,none→N
namespace L
abbrev g0r0:List aA:=[⟨S 4,N,v (m (c (.bool false)))⟩]
abbrev g0r1:List aA:=[⟨S 9,N,k 5 []⟩,⟨S 10,N,v (.not (s 9))⟩]
abbrev g0r2:List aA:=[⟨S 4,N,v (m (c (.bool false)))⟩]
abbrev g0r3:List aA:=[⟨S 11,N,v (m (s 1))⟩,⟨S 12,N,v (w (s 11))⟩,⟨S 13,N,v (b .gtr (s 12) (c (I j 60)))⟩,⟨S 14,N,v (m (s 13))⟩,⟨S 15,S (14,false),v (m (s 1))⟩,⟨S 16,S (14,false),y F [s 15]⟩,⟨S 17,S (14,false),k 6 [s 16]⟩,⟨S 18,N,v (p (s 14) (c (.bool true)) (s 17))⟩]
abbrev g0r4:List aA:=[⟨S 4,N,v (m (c (.bool true)))⟩]
abbrev g0r5:List aA:=[⟨S 20,N,v (m (s 0))⟩,⟨S 21,N,v (m (s 1))⟩,⟨S 22,N,k 7 [s 20,s 21]⟩,⟨S 19,N,v (m (s 22))⟩,⟨S 23,N,v (q (s 19) 0)⟩,⟨S 24,N,v (q (s 19) 1)⟩,⟨S 5,N,x (.agg 3) (c (.agg [(I j 0),(I j 0),(.str ⟨#[]⟩)]))⟩,⟨N,N,t (.agg 3) (s 5) (s 23)⟩,⟨S 6,N,v (m (s 24))⟩]
abbrev g0r6:List aA:=[⟨S 26,N,v (m (s 0))⟩,⟨S 27,N,v (m (s 1))⟩,⟨S 28,N,k 8 [s 26,s 27]⟩,⟨S 25,N,v (m (s 28))⟩,⟨S 29,N,v (q (s 25) 0)⟩,⟨S 30,N,v (q (s 25) 1)⟩,⟨S 7,N,x (.agg 3) (c (.agg [(I j 0),(I j 0),(.str ⟨#[]⟩)]))⟩,⟨N,N,t (.agg 3) (s 7) (s 29)⟩,⟨S 8,N,v (m (s 30))⟩]
abbrev g0r7:List aA:=[⟨S 31,N,v (m (s 6))⟩,⟨S 32,N,k 9 [s 31]⟩,⟨S 33,N,v (m (s 8))⟩,⟨S 34,N,v (b .eql (s 32) (s 33))⟩,⟨S 35,N,v (m (s 34))⟩,⟨S 36,S (35,true),v (l (.agg 3) (s 5))⟩,⟨S 37,S (35,true),v (l (.agg 3) (s 7))⟩,⟨S 38,S (35,true),v (e false (.plain (.agg 3) [.int,.int,.str]) (s 36) (s 37))⟩,⟨S 39,N,v (p (s 35) (s 38) (c (.bool false)))⟩,⟨S 4,N,v (m (s 39))⟩]
def corollarylaw16_AggFolds:LFn:=⟨(Q (O g0r0) (Q (Q (O g0r1) (C (s 10) (Q (O g0r2) .ret) Z)) (Q (Q (O g0r3) (C (s 18) (Q (O g0r4) .ret) Z)) (Q (O g0r5) (Q (O g0r6) (Q (O g0r7) .ret)))))),40,[.slot 4]⟩
theorem corollarylaw16_AggFolds_low:aG Try.prog 3=some corollarylaw16_AggFolds:=by kernel_rfl
abbrev g2r0:List aA:=[⟨S 0,N,v (m (c (.bool false)))⟩]
abbrev g2r1:List aA:=[⟨S 1,N,v (m (c (.fn (.func 15) [] [])))⟩]
abbrev g2r2:List aA:=[⟨S 5,N,v (m (s 1))⟩,⟨S 6,N,.callv (s 5) [(c (I j 1)),(c (I j 5))]⟩,⟨S 7,N,v (m (s 1))⟩,⟨S 8,N,.callv (s 7) [(c (I j 1)),(c (I j 6))]⟩,⟨S 9,N,v (m (s 1))⟩,⟨S 10,N,.callv (s 9) [(c (I j 2)),(c (I j 5))]⟩,⟨S 11,N,y F [s 6,s 8,s 10]⟩,⟨S 12,N,k 11 [(c (I j 1)),(c (I j 1)),s 11]⟩,⟨S 4,N,v (m (s 12))⟩,⟨S 13,N,v (q (s 4) 0)⟩,⟨S 14,N,v (q (s 4) 1)⟩,⟨S 2,N,v (m (s 13))⟩,⟨S 3,N,v (m (s 14))⟩]
abbrev g2r3:List aA:=[⟨S 15,N,v (m (s 3))⟩,⟨S 16,N,v (e false (.iface true) (s 15) (c .nilIface))⟩,⟨S 17,N,v (m (s 16))⟩,⟨S 18,S (17,true),v (m (s 2))⟩,⟨S 19,S (17,true),v (m (s 1))⟩,⟨S 20,S (17,true),.callv (s 19) [(c (I j 1)),(c (I j 2))]⟩,⟨S 21,S (17,true),v (m (s 1))⟩,⟨S 22,S (17,true),.callv (s 21) [(c (I j 2)),(c (I j 1))]⟩,⟨S 23,S (17,true),y F [s 20,s 22]⟩,⟨S 24,S (17,true),k 12 [s 18,s 23]⟩,⟨S 25,N,v (p (s 17) (s 24) (c (.bool false)))⟩,⟨S 0,N,v (m (s 25))⟩]
def corollarylaw16_alive:LFn:=⟨(Q (O g2r0) (Q (O g2r1) (Q (O g2r2) (Q (O g2r3) .ret)))),26,[.slot 0]⟩
theorem corollarylaw16_alive_low:aG Try.prog 5=some corollarylaw16_alive:=by kernel_rfl
abbrev g3r0:List aA:=[⟨S 2,N,v (m (c (.bool false)))⟩]
abbrev g3r1:List aA:=[⟨S 3,N,v (m (c (I j 0)))⟩]
abbrev g3r2:List aA:=[⟨S 8,N,v (m (s 0))⟩,⟨S 9,N,v (w (s 8))⟩,⟨S 10,N,v (m (c (I j 0)))⟩]
abbrev g3r3:List aA:=[⟨S 11,N,v (b .lss (s 10) (s 9))⟩]
abbrev g3r4:List aA:=[⟨S 12,N,v (i F (s 8) (s 10))⟩,⟨S 13,N,v (l F (s 12))⟩,⟨S 5,N,v (m (s 13))⟩]
abbrev g3r5:List aA:=[⟨S 14,N,v (m (s 5))⟩,⟨S 15,N,v (w (s 14))⟩,⟨S 16,N,v (b .gtr (s 15) (c (I j 50)))⟩]
abbrev g3r6:List aA:=[⟨S 2,N,v (m (c (.bool true)))⟩]
abbrev g3r7:List aA:=[⟨S 17,N,v (m (s 5))⟩,⟨S 18,N,v (w (s 17))⟩,⟨S 19,N,v (m (c (I j 0)))⟩]
abbrev g3r8:List aA:=[⟨S 20,N,v (b .lss (s 19) (s 18))⟩]
abbrev g3r9:List aA:=[⟨S 21,N,v (i (.agg 3) (s 17) (s 19))⟩,⟨S 22,N,v (l (.agg 3) (s 21))⟩,⟨S 7,N,x (.agg 3) (c (.agg [(I j 0),(I j 0),(.str ⟨#[]⟩)]))⟩,⟨N,N,t (.agg 3) (s 7) (s 22)⟩]
abbrev g3r10:List aA:=[⟨S 23,N,v (m (s 3))⟩,⟨S 24,N,v (f 2 (s 7))⟩,⟨S 25,N,v (l F (s 24))⟩,⟨S 26,N,v (.slen (s 25))⟩,⟨S 27,N,v (b .add (s 23) (s 26))⟩,⟨S 3,N,v (m (s 27))⟩]
abbrev g3r11:List aA:=[⟨S 28,N,v (m (s 3))⟩,⟨S 29,N,v (b .gtr (s 28) (c (I j 2000)))⟩]
abbrev g3r12:List aA:=[⟨S 2,N,v (m (c (.bool true)))⟩]
abbrev g3r13:List aA:=[⟨S 30,N,v (b .add (s 19) (c (I j 1)))⟩,⟨S 19,N,v (m (s 30))⟩]
abbrev g3l0:aK:=(Q (O g3r8) (Q (C (s 20) Z (X 2)) (Q (K 3 (Q (O g3r9) (Q (O g3r10) (Q (O g3r11) (C (s 29) (Q (O g3r12) .ret) Z))))) (O g3r13))))
abbrev g3r14:List aA:=[⟨S 31,N,v (b .add (s 10) (c (I j 1)))⟩,⟨S 10,N,v (m (s 31))⟩]
abbrev g3l1:aK:=(Q (O g3r3) (Q (C (s 11) Z (X 0)) (Q (K 1 (Q (O g3r4) (Q (Q (O g3r5) (C (s 16) (Q (O g3r6) .ret) Z)) (Q (O g3r7) (K 2 (R g3l0)))))) (O g3r14))))
abbrev g3r15:List aA:=[⟨S 2,N,v (m (c (.bool false)))⟩]
def corollarylaw02_Long:LFn:=⟨(Q (O g3r0) (Q (O g3r1) (Q (Q (O g3r2) (K 0 (R g3l1))) (Q (O g3r15) .ret)))),32,[.slot 2]⟩
theorem corollarylaw02_Long_low:aG Try.prog 6=some corollarylaw02_Long:=by kernel_rfl
abbrev g4r0:List aA:=[⟨S 4,N,x (.agg 3) (c (.agg [(I j 0),(I j 0),(.str ⟨#[]⟩)]))⟩,⟨S 5,N,v (m (c .nilIface))⟩]
abbrev g4r1:List aA:=[⟨S 6,N,v (m (c (.fn (.func 16) [] [])))⟩]
abbrev g4r2:List aA:=[⟨S 7,N,v (m (c (.fn (.func 18) [] [])))⟩]
abbrev g4r3:List aA:=[⟨S 13,N,v (m (s 0))⟩,⟨S 14,N,v (b .lss (s 13) (c (I j 1)))⟩,⟨S 15,N,v (m (s 14))⟩,⟨S 16,S (15,false),v (m (s 0))⟩,⟨S 17,S (15,false),v (b .gtr (s 16) (c (I j 4)))⟩,⟨S 18,N,v (p (s 15) (c (.bool true)) (s 17))⟩,⟨S 12,N,v (m (s 18))⟩]
abbrev g4r4:List aA:=[⟨S 19,N,v (.build [(I j 0),(I j 0),(.str ⟨#[]⟩)] [])⟩,⟨S 20,N,v (.mkif 46 (c (I j 1)))⟩,⟨N,N,t (.agg 3) (s 4) (s 19)⟩,⟨S 5,N,v (m (s 20))⟩]
abbrev g4r5:List aA:=[⟨S 22,N,v (m (s 1))⟩,⟨S 23,N,v (w (s 22))⟩,⟨S 24,N,v (b .eql (s 23) (c (I j 0)))⟩,⟨S 21,N,v (m (s 24))⟩]
abbrev g4r6:List aA:=[⟨S 25,N,v (.build [(I j 0),(I j 0),(.str ⟨#[]⟩)] [])⟩,⟨S 26,N,v (.mkif 46 (c (I j 13)))⟩,⟨N,N,t (.agg 3) (s 4) (s 25)⟩,⟨S 5,N,v (m (s 26))⟩]
abbrev g4r7:List aA:=[⟨S 28,N,v (m (s 1))⟩,⟨S 29,N,v (m (s 6))⟩,⟨S 30,N,k 19 [s 28,s 29]⟩,⟨S 27,N,v (m (s 30))⟩]
abbrev g4r8:List aA:=[⟨S 31,N,v (.build [(I j 0),(I j 0),(.str ⟨#[]⟩)] [])⟩,⟨S 32,N,v (.mkif 46 (c (I j 2)))⟩,⟨N,N,t (.agg 3) (s 4) (s 31)⟩,⟨S 5,N,v (m (s 32))⟩]
abbrev g4r9:List aA:=[⟨S 34,N,v (m (s 0))⟩,⟨S 35,N,v (b .eql (s 34) (c (I j 2)))⟩,⟨S 36,N,v (m (s 35))⟩,⟨S 37,S (36,true),v (m (s 1))⟩,⟨S 38,S (36,true),v (m (s 7))⟩,⟨S 39,S (36,true),k 19 [s 37,s 38]⟩,⟨S 40,N,v (p (s 36) (s 39) (c (.bool false)))⟩,⟨S 33,N,v (m (s 40))⟩]
abbrev g4r10:List aA:=[⟨S 41,N,v (.build [(I j 0),(I j 0),(.str ⟨#[]⟩)] [])⟩,⟨S 42,N,v (.mkif 46 (c (I j 7)))⟩,⟨N,N,t (.agg 3) (s 4) (s 41)⟩,⟨S 5,N,v (m (s 42))⟩]
abbrev g4r11:List aA:=[⟨S 43,N,v (m (s 1))⟩,⟨S 44,N,k 20 [s 43,(c (.fn (.func 21) [] []))]⟩,⟨S 8,N,v (m (s 44))⟩]
abbrev g4r12:List aA:=[⟨S 45,N,v (m (s 0))⟩]
abbrev g4r13:List aA:=[⟨S 47,N,v (b .eql (s 45) (c (I j 1)))⟩,⟨S 46,N,v (m (s 47))⟩]
abbrev g4r14:List aA:=[⟨S 48,N,v (m (s 8))⟩,⟨S 49,N,v (w (s 48))⟩,⟨S 50,N,k 22 [s 49]⟩,⟨S 51,N,v (q (s 50) 0)⟩,⟨S 52,N,v (q (s 50) 1)⟩,⟨N,N,t (.agg 3) (s 4) (s 51)⟩,⟨S 5,N,v (m (s 52))⟩]
abbrev g4r15:List aA:=[⟨S 54,N,v (b .eql (s 45) (c (I j 3)))⟩,⟨S 53,N,v (m (s 54))⟩]
abbrev g4r16:List aA:=[⟨S 55,N,v (m (s 8))⟩,⟨S 56,N,v (i (.agg 3) (s 55) (c (I j 0)))⟩,⟨S 57,N,v (l (.agg 3) (s 56))⟩,⟨N,N,t (.agg 3) (s 4) (s 57)⟩,⟨S 5,N,v (m (c .nilIface))⟩]
abbrev g4r17:List aA:=[⟨S 59,N,v (b .eql (s 45) (c (I j 4)))⟩,⟨S 58,N,v (m (s 59))⟩]
abbrev g4r18:List aA:=[⟨S 60,N,v (m (s 8))⟩,⟨S 61,N,v (m (s 8))⟩,⟨S 62,N,v (w (s 61))⟩,⟨S 63,N,v (b .sub (s 62) (c (I j 1)))⟩,⟨S 64,N,v (i (.agg 3) (s 60) (s 63))⟩,⟨S 65,N,v (l (.agg 3) (s 64))⟩,⟨N,N,t (.agg 3) (s 4) (s 65)⟩,⟨S 5,N,v (m (c .nilIface))⟩]
abbrev g4r19:List aA:=[⟨S 9,N,v (m (c (I j 0)))⟩]
abbrev g4r20:List aA:=[⟨S 66,N,v (m (s 8))⟩,⟨S 67,N,v (w (s 66))⟩,⟨S 68,N,v (m (c (I j 0)))⟩]
abbrev g4r21:List aA:=[⟨S 69,N,v (b .lss (s 68) (s 67))⟩]
abbrev g4r22:List aA:=[⟨S 70,N,v (i (.agg 3) (s 66) (s 68))⟩,⟨S 71,N,v (l (.agg 3) (s 70))⟩,⟨S 11,N,x (.agg 3) (c (.agg [(I j 0),(I j 0),(.str ⟨#[]⟩)]))⟩,⟨N,N,t (.agg 3) (s 11) (s 71)⟩]
abbrev g4r23:List aA:=[⟨S 72,N,v (m (s 9))⟩,⟨S 73,N,v (f 1 (s 11))⟩,⟨S 74,N,v (l F (s 73))⟩,⟨S 75,N,v (b .add (s 72) (s 74))⟩,⟨S 9,N,v (m (s 75))⟩]
abbrev g4r24:List aA:=[⟨S 76,N,v (b .add (s 68) (c (I j 1)))⟩,⟨S 68,N,v (m (s 76))⟩]
abbrev g4l0:aK:=(Q (O g4r21) (Q (C (s 69) Z (X 2)) (Q (K 3 (Q (O g4r22) (O g4r23))) (O g4r24))))
abbrev g4r25:List aA:=[⟨S 77,N,v (m (s 9))⟩,⟨S 78,N,k 22 [s 77]⟩,⟨S 79,N,v (q (s 78) 0)⟩,⟨S 80,N,v (q (s 78) 1)⟩,⟨N,N,t (.agg 3) (s 4) (s 79)⟩,⟨S 5,N,v (m (s 80))⟩]
def agg_Fold:LFn:=⟨(Q (O g4r0) (Q (O g4r1) (Q (O g4r2) (Q (K 0 (Q (O g4r3) (C (s 12) (Q (O g4r4) .ret) (Q (O g4r5) (C (s 21) (Q (O g4r6) .ret) (Q (O g4r7) (C (s 27) (Q (O g4r8) .ret) (Q (O g4r9) (C (s 33) (Q (O g4r10) .ret) Z))))))))) (Q (O g4r11) (Q (Q (O g4r12) (K 1 (Q (O g4r13) (C (s 46) (Q (O g4r14) .ret) (Q (O g4r15) (C (s 53) (Q (O g4r16) .ret) (Q (O g4r17) (C (s 58) (Q (O g4r18) .ret) Z)))))))) (Q (O g4r19) (Q (Q (O g4r20) (K 2 (R g4l0))) (Q (O g4r25) .ret))))))))),81,[.cell 4 (.agg 3),.slot 5]⟩
theorem agg_Fold_low:aG Try.prog 7=some agg_Fold:=by kernel_rfl
abbrev g5r0:List aA:=[⟨S 4,N,x (.agg 3) (c (.agg [(I j 0),(I j 0),(.str ⟨#[]⟩)]))⟩,⟨S 5,N,v (m (c (I j 0)))⟩]
abbrev g5r1:List aA:=[⟨S 14,N,v (m (s 0))⟩,⟨S 15,N,v (b .lss (s 14) (c (I j 1)))⟩,⟨S 16,N,v (m (s 15))⟩,⟨S 17,S (16,false),v (m (s 0))⟩,⟨S 18,S (16,false),v (b .gtr (s 17) (c (I j 4)))⟩,⟨S 19,N,v (p (s 16) (c (.bool true)) (s 18))⟩]
abbrev g5r2:List aA:=[⟨S 20,N,v (.build [(I j 0),(I j 0),(.str ⟨#[]⟩)] [])⟩,⟨N,N,t (.agg 3) (s 4) (s 20)⟩,⟨S 5,N,v (m (c (I j 1)))⟩]
abbrev g5r3:List aA:=[⟨S 21,N,v (m (s 1))⟩,⟨S 22,N,v (w (s 21))⟩,⟨S 23,N,v (b .eql (s 22) (c (I j 0)))⟩]
abbrev g5r4:List aA:=[⟨S 24,N,v (.build [(I j 0),(I j 0),(.str ⟨#[]⟩)] [])⟩,⟨N,N,t (.agg 3) (s 4) (s 24)⟩,⟨S 5,N,v (m (c (I j 13)))⟩]
abbrev g5r5:List aA:=[⟨S 6,N,v (m (c (I j 0)))⟩]
abbrev g5r6:List aA:=[⟨S 25,N,v (m (s 6))⟩,⟨S 26,N,v (m (s 1))⟩,⟨S 27,N,v (w (s 26))⟩,⟨S 28,N,v (b .lss (s 25) (s 27))⟩]
abbrev g5r7:List aA:=[⟨S 31,N,v (m (s 1))⟩,⟨S 32,N,v (m (s 6))⟩,⟨S 33,N,v (i (.agg 3) (s 31) (s 32))⟩,⟨S 34,N,v (l (.agg 3) (s 33))⟩,⟨S 35,N,k 23 [s 34]⟩,⟨S 36,N,v (.not (s 35))⟩]
abbrev g5r8:List aA:=[⟨S 37,N,v (.build [(I j 0),(I j 0),(.str ⟨#[]⟩)] [])⟩,⟨N,N,t (.agg 3) (s 4) (s 37)⟩,⟨S 5,N,v (m (c (I j 2)))⟩]
abbrev g5r9:List aA:=[⟨S 29,N,v (m (s 6))⟩,⟨S 30,N,v (b .add (s 29) (c (I j 1)))⟩,⟨S 6,N,v (m (s 30))⟩]
abbrev g5l0:aK:=(Q (Q (O g5r6) (C (s 28) Z (X 0))) (Q (K 1 (Q (O g5r7) (C (s 36) (Q (O g5r8) .ret) Z))) (O g5r9)))
abbrev corollaryref16_Fold_r10:List (aA×List Nat):=[(⟨S 38,N,v (m (s 1))⟩,[]),(⟨S 39,N,v (i (.agg 3) (s 38) (c (I j 0)))⟩,[0]),(⟨S 40,N,v (l (.agg 3) (s 39))⟩,[0,1]),(⟨S 41,N,v (m (s 1))⟩,[]),(⟨S 42,N,v (i (.agg 3) (s 41) (c (I j 0)))⟩,[3]),(⟨S 43,N,v (l (.agg 3) (s 42))⟩,[3,4]),(⟨S 9,N,x (.agg 3) (c (.agg [(I j 0),(I j 0),(.str ⟨#[]⟩)]))⟩,[]),(⟨S 10,N,x (.agg 3) (c (.agg [(I j 0),(I j 0),(.str ⟨#[]⟩)]))⟩,[]),(⟨S 7,N,v (m (c (I j 0)))⟩,[6,7]),(⟨S 8,N,v (m (c (I j 0)))⟩,[6,7,8]),(⟨N,N,t (.agg 3) (s 9) (s 40)⟩,[0,1,2,6,7,8,9]),(⟨N,N,t (.agg 3) (s 10) (s 43)⟩,[0,1,2,3,4,5,6,7,8,9,10])]
abbrev g5r10t:List aA:=[]
abbrev corollaryref16_Fold_r11:List aA:=[⟨S 11,N,v (m (c (I j 0)))⟩]
abbrev g5r12:List aA:=[⟨S 44,N,v (m (s 11))⟩,⟨S 45,N,v (m (s 1))⟩,⟨S 46,N,v (w (s 45))⟩,⟨S 47,N,v (b .lss (s 44) (s 46))⟩]
abbrev g5r13:List aA:=[⟨S 50,N,v (m (s 0))⟩,⟨S 51,N,v (b .eql (s 50) (c (I j 2)))⟩,⟨S 52,N,v (m (s 51))⟩,⟨S 53,S (52,true),v (m (s 1))⟩,⟨S 54,S (52,true),v (m (s 11))⟩,⟨S 55,S (52,true),v (i (.agg 3) (s 53) (s 54))⟩,⟨S 56,S (52,true),v (f 0 (s 55))⟩,⟨S 57,S (52,true),v (l F (s 56))⟩,⟨S 58,S (52,true),v (b .neq (s 57) (c (I j 1)))⟩,⟨S 59,N,v (p (s 52) (s 58) (c (.bool false)))⟩]
abbrev g5r14:List aA:=[⟨S 60,N,v (.build [(I j 0),(I j 0),(.str ⟨#[]⟩)] [])⟩,⟨N,N,t (.agg 3) (s 4) (s 60)⟩,⟨S 5,N,v (m (c (I j 7)))⟩]
abbrev g5r15:List aA:=[⟨S 12,N,v (m (c (.bool true)))⟩]
abbrev g5r16:List aA:=[⟨S 13,N,v (m (c (I j 0)))⟩]
abbrev g5r17:List aA:=[⟨S 61,N,v (m (s 13))⟩,⟨S 62,N,v (m (s 11))⟩,⟨S 63,N,v (b .lss (s 61) (s 62))⟩]
abbrev g5r18:List (aA×List Nat):=[(⟨S 66,N,v (m (s 12))⟩,[]),(⟨S 67,N,v (m (s 66))⟩,[0]),(⟨S 68,S (67,true),v (m (s 1))⟩,[0,1]),(⟨S 69,S (67,true),v (m (s 13))⟩,[0,1]),(⟨S 70,S (67,true),v (i (.agg 3) (s 68) (s 69))⟩,[0,1,2,3]),(⟨S 71,S (67,true),v (l (.agg 3) (s 70))⟩,[0,1,2,3,4]),(⟨S 72,S (67,true),v (m (s 1))⟩,[0,1]),(⟨S 73,S (67,true),v (m (s 11))⟩,[0,1]),(⟨S 74,S (67,true),v (i (.agg 3) (s 72) (s 73))⟩,[0,1,6,7]),(⟨S 75,S (67,true),v (l (.agg 3) (s 74))⟩,[0,1,6,7,8]),(⟨S 76,S (67,true),v (e true (.plain (.agg 3) [.int,.int,.str]) (s 71) (s 75))⟩,[0,1,2,3,4,5,6,7,8,9]),(⟨S 77,N,v (p (s 67) (s 76) (c (.bool false)))⟩,[0,1,2,3,4,5,6,7,8,9,10])]
abbrev g5r18t:List aA:=[⟨S 12,N,v (m (s 77))⟩]
abbrev g5r19:List aA:=[⟨S 64,N,v (m (s 13))⟩,⟨S 65,N,v (b .add (s 64) (c (I j 1)))⟩,⟨S 13,N,v (m (s 65))⟩]
abbrev corollaryref16_Fold_l1:aK:=(Q (Q (O g5r17) (C (s 63) Z (X 4))) (Q (K 5 (D 12 g5r18 g5r18t)) (O g5r19)))
abbrev corollaryref16_Fold_r20:List aA:=[⟨S 78,N,v (m (s 12))⟩]
abbrev corollaryref16_Fold_r21:List aA:=[⟨S 79,N,v (m (s 7))⟩,⟨S 80,N,v (b .add (s 79) (c (I j 1)))⟩,⟨S 7,N,v (m (s 80))⟩]
abbrev corollaryref16_Fold_r22:List aA:=[⟨S 81,N,v (m (s 8))⟩,⟨S 82,N,v (m (s 1))⟩,⟨S 83,N,v (m (s 11))⟩,⟨S 84,N,v (i (.agg 3) (s 82) (s 83))⟩,⟨S 85,N,v (f 1 (s 84))⟩,⟨S 86,N,v (l F (s 85))⟩,⟨S 87,N,v (b .add (s 81) (s 86))⟩,⟨S 8,N,v (m (s 87))⟩]
abbrev corollaryref16_Fold_r23:List (aA×List Nat):=[(⟨S 88,N,v (m (s 1))⟩,[]),(⟨S 89,N,v (m (s 11))⟩,[]),(⟨S 90,N,v (i (.agg 3) (s 88) (s 89))⟩,[0,1]),(⟨S 91,N,v (l (.agg 3) (s 90))⟩,[0,1,2]),(⟨S 92,N,v (l (.agg 3) (s 9))⟩,[]),(⟨S 93,N,k 24 [s 91,s 92]⟩,[0,1,2,3,4])]
abbrev corollaryref16_Fold_r23t:List aA:=[]
abbrev corollaryref16_Fold_r24:List aA:=[⟨S 94,N,v (m (s 1))⟩,⟨S 95,N,v (m (s 11))⟩,⟨S 96,N,v (i (.agg 3) (s 94) (s 95))⟩,⟨S 97,N,v (l (.agg 3) (s 96))⟩,⟨N,N,t (.agg 3) (s 9) (s 97)⟩]
abbrev corollaryref16_Fold_r25:List (aA×List Nat):=[(⟨S 98,N,v (l (.agg 3) (s 10))⟩,[]),(⟨S 99,N,v (m (s 1))⟩,[]),(⟨S 100,N,v (m (s 11))⟩,[]),(⟨S 101,N,v (i (.agg 3) (s 99) (s 100))⟩,[1,2]),(⟨S 102,N,v (l (.agg 3) (s 101))⟩,[1,2,3]),(⟨S 103,N,k 24 [s 98,s 102]⟩,[0,1,2,3,4])]
abbrev corollaryref16_Fold_r25t:List aA:=[]
abbrev corollaryref16_Fold_r26:List aA:=[⟨S 104,N,v (m (s 1))⟩,⟨S 105,N,v (m (s 11))⟩,⟨S 106,N,v (i (.agg 3) (s 104) (s 105))⟩,⟨S 107,N,v (l (.agg 3) (s 106))⟩,⟨N,N,t (.agg 3) (s 10) (s 107)⟩]
abbrev g5r27:List aA:=[⟨S 48,N,v (m (s 11))⟩,⟨S 49,N,v (b .add (s 48) (c (I j 1)))⟩,⟨S 11,N,v (m (s 49))⟩]
abbrev corollaryref16_Fold_l2:aK:=(Q (Q (O g5r12) (C (s 47) Z (X 2))) (Q (K 3 (Q (Q (O g5r13) (C (s 59) (Q (O g5r14) .ret) Z)) (Q (O g5r15) (Q (Q (O g5r16) (K 4 (R corollaryref16_Fold_l1))) (Q (Q (O corollaryref16_Fold_r20) (C (s 78) (Q (O corollaryref16_Fold_r21) (O corollaryref16_Fold_r22)) Z)) (Q (Q (D 6 corollaryref16_Fold_r23 corollaryref16_Fold_r23t) (C (s 93) (O corollaryref16_Fold_r24) Z)) (Q (D 6 corollaryref16_Fold_r25 corollaryref16_Fold_r25t) (C (s 103) (O corollaryref16_Fold_r26) Z)))))))) (O g5r27)))
abbrev corollaryref16_Fold_r28:List aA:=[⟨S 108,N,v (m (s 0))⟩,⟨S 109,N,v (b .eql (s 108) (c (I j 3)))⟩]
abbrev corollaryref16_Fold_r29:List aA:=[⟨S 110,N,v (l (.agg 3) (s 9))⟩,⟨N,N,t (.agg 3) (s 4) (s 110)⟩,⟨S 5,N,v (m (c (I j 0)))⟩]
abbrev corollaryref16_Fold_r30:List aA:=[⟨S 111,N,v (m (s 0))⟩,⟨S 112,N,v (b .eql (s 111) (c (I j 4)))⟩]
abbrev corollaryref16_Fold_r31:List aA:=[⟨S 113,N,v (l (.agg 3) (s 10))⟩,⟨N,N,t (.agg 3) (s 4) (s 113)⟩,⟨S 5,N,v (m (c (I j 0)))⟩]
abbrev corollaryref16_Fold_r32:List aA:=[⟨S 114,N,v (m (s 0))⟩,⟨S 115,N,v (b .eql (s 114) (c (I j 1)))⟩]
abbrev corollaryref16_Fold_r33:List aA:=[⟨S 116,N,v (m (s 7))⟩,⟨S 8,N,v (m (s 116))⟩]
abbrev corollaryref16_Fold_r34:List aA:=[⟨S 117,N,v (m (s 8))⟩,⟨S 118,N,v (b .gtr (s 117) (c (I j 2147483647)))⟩,⟨S 119,N,v (m (s 118))⟩,⟨S 120,S (119,false),v (m (s 8))⟩,⟨S 121,S (119,false),v (b .lss (s 120) (c (I j (-2147483647))))⟩,⟨S 122,N,v (p (s 119) (c (.bool true)) (s 121))⟩]
abbrev corollaryref16_Fold_r35:List aA:=[⟨S 123,N,v (.build [(I j 0),(I j 0),(.str ⟨#[]⟩)] [])⟩,⟨N,N,t (.agg 3) (s 4) (s 123)⟩,⟨S 5,N,v (m (c (I j 10)))⟩]
abbrev corollaryref16_Fold_r36:List aA:=[⟨S 124,N,v (m (s 8))⟩,⟨S 125,N,v (.build [(I j 0),(I j 0),(.str ⟨#[]⟩)] [(0,F,(c (I j 1))),(1,F,(s 124))])⟩,⟨N,N,t (.agg 3) (s 4) (s 125)⟩,⟨S 5,N,v (m (c (I j 0)))⟩]
def corollaryref16_Fold:LFn:=⟨(Q (O g5r0) (Q (Q (O g5r1) (C (s 19) (Q (O g5r2) .ret) Z)) (Q (Q (O g5r3) (C (s 23) (Q (O g5r4) .ret) Z)) (Q (Q (O g5r5) (K 0 (R g5l0))) (Q (D 13 corollaryref16_Fold_r10 g5r10t) (Q (Q (O corollaryref16_Fold_r11) (K 2 (R corollaryref16_Fold_l2))) (Q (Q (O corollaryref16_Fold_r28) (C (s 109) (Q (O corollaryref16_Fold_r29) .ret) Z)) (Q (Q (O corollaryref16_Fold_r30) (C (s 112) (Q (O corollaryref16_Fold_r31) .ret) Z)) (Q (Q (O corollaryref16_Fold_r32) (C (s 115) (O corollaryref16_Fold_r33) Z)) (Q (Q (O corollaryref16_Fold_r34) (C (s 122) (Q (O corollaryref16_Fold_r35) .ret) Z)) (Q (O corollaryref16_Fold_r36) .ret))))))))))),126,[.cell 4 (.agg 3),.slot 5]⟩
theorem corollaryref16_Fold_low:aG Try.prog 8=some corollaryref16_Fold:=by kernel_rfl
abbrev g6r0:List aA:=[⟨S 2,N,v (m (c (I j 0)))⟩]
abbrev g6r1:List aA:=[⟨S 5,N,v (m (s 0))⟩,⟨S 6,N,v (e false (.iface true) (s 5) (c .nilIface))⟩]
abbrev g6r2:List aA:=[⟨S 2,N,v (m (c (I j 0)))⟩]
abbrev g6r3:List aA:=[⟨S 8,N,v (m (s 0))⟩,⟨S 9,N,v (.asrt 46 (I j 0) (s 8))⟩,⟨S 7,N,v (m (s 9))⟩,⟨S 10,N,v (q (s 7) 0)⟩,⟨S 11,N,v (q (s 7) 1)⟩,⟨S 3,N,v (m (s 10))⟩,⟨S 4,N,v (m (s 11))⟩]
abbrev g6r4:List aA:=[⟨S 12,N,v (m (s 4))⟩,⟨S 13,N,v (m (s 12))⟩,⟨S 14,S (13,true),v (m (s 3))⟩,⟨S 15,S (13,true),v (b .neq (s 14) (c (I j 0)))⟩,⟨S 16,N,v (p (s 13) (s 15) (c (.bool false)))⟩]
abbrev g6r5:List aA:=[⟨S 17,N,v (m (s 3))⟩,⟨S 2,N,v (m (s 17))⟩]
abbrev g6r6:List aA:=[⟨S 2,N,v (m (c (I j (-1))))⟩]
def corollarynum_Num:LFn:=⟨(Q (O g6r0) (Q (Q (O g6r1) (C (s 6) (Q (O g6r2) .ret) Z)) (Q (Q (O g6r3) (Q (O g6r4) (C (s 16) (Q (O g6r5) .ret) Z))) (Q (O g6r6) .ret)))),18,[.slot 2]⟩
theorem corollarynum_Num_low:aG Try.prog 9=some corollarynum_Num:=by kernel_rfl
abbrev g8r0:List aA:=[⟨S 6,N,v (m (c (.sl F .nil [])))⟩,⟨S 7,N,v (m (c .nilIface))⟩]
abbrev g8r1:List aA:=[⟨S 17,N,v (m (s 0))⟩,⟨S 18,N,v (b .lss (s 17) (c (I j 0)))⟩,⟨S 19,N,v (m (s 18))⟩,⟨S 20,S (19,false),v (m (s 0))⟩,⟨S 21,S (19,false),v (b .gtr (s 20) (c (I j 4)))⟩,⟨S 22,N,v (p (s 19) (c (.bool true)) (s 21))⟩]
abbrev g8r2:List aA:=[⟨S 23,N,v (.mkif 46 (c (I j 1)))⟩,⟨S 6,N,v (m (c (.sl F .nil [])))⟩,⟨S 7,N,v (m (s 23))⟩]
abbrev g8r3:List aA:=[⟨S 24,N,v (m (s 2))⟩,⟨S 25,N,k 25 [s 24,(c (.fn (.func 14) [] []))]⟩,⟨S 8,N,v (m (s 25))⟩]
abbrev g8r4:List aA:=[⟨S 26,N,v (m (s 8))⟩,⟨S 27,N,v (w (s 26))⟩,⟨S 28,N,v (m (c (I j 0)))⟩]
abbrev g8r5:List aA:=[⟨S 29,N,v (b .lss (s 28) (s 27))⟩]
abbrev g8r6:List aA:=[⟨S 30,N,v (m (s 28))⟩,⟨S 31,N,v (i F (s 26) (s 28))⟩,⟨S 32,N,v (l F (s 31))⟩,⟨S 9,N,v (m (s 30))⟩,⟨S 10,N,v (m (s 32))⟩]
abbrev g8r7:List aA:=[⟨S 33,N,v (m (s 0))⟩,⟨S 34,N,v (b .gtr (s 33) (c (I j 0)))⟩,⟨S 35,N,v (m (s 34))⟩,⟨S 36,S (35,true),v (m (s 1))⟩,⟨S 37,S (35,true),v (b .lss (s 36) (c (I j 0)))⟩,⟨S 38,S (35,true),v (m (s 37))⟩,⟨S 39,S (38,false),v (m (s 1))⟩,⟨S 40,S (38,false),v (m (s 10))⟩,⟨S 41,S (38,false),v (w (s 40))⟩,⟨S 42,S (38,false),v (b .geq (s 39) (s 41))⟩,⟨S 43,S (35,true),v (p (s 38) (c (.bool true)) (s 42))⟩,⟨S 44,N,v (p (s 35) (s 43) (c (.bool false)))⟩]
abbrev g8r8:List aA:=[⟨S 45,N,v (.mkif 46 (c (I j 1)))⟩,⟨S 6,N,v (m (c (.sl F .nil [])))⟩,⟨S 7,N,v (m (s 45))⟩]
abbrev g8r9:List aA:=[⟨S 46,N,v (m (s 8))⟩,⟨S 47,N,v (m (s 9))⟩,⟨S 48,N,v (m (s 10))⟩,⟨S 49,N,k 26 [s 48]⟩,⟨S 50,N,v (i F (s 46) (s 47))⟩,⟨N,N,t F (s 50) (s 49)⟩]
abbrev g8r10:List aA:=[⟨S 51,N,v (b .add (s 28) (c (I j 1)))⟩,⟨S 28,N,v (m (s 51))⟩]
abbrev g8l0:aK:=(Q (O g8r5) (Q (C (s 29) Z (X 0)) (Q (K 1 (Q (O g8r6) (Q (Q (O g8r7) (C (s 44) (Q (O g8r8) .ret) Z)) (O g8r9)))) (O g8r10))))
abbrev g8r11:List aA:=[⟨S 52,N,v (m (s 0))⟩,⟨S 53,N,v (b .eql (s 52) (c (I j 0)))⟩]
abbrev g8r12:List aA:=[⟨S 54,N,v (m (s 8))⟩,⟨S 6,N,v (m (s 54))⟩,⟨S 7,N,v (m (c .nilIface))⟩]
abbrev g8r13:List aA:=[⟨S 11,N,v (m (c (.sl F .nil [])))⟩]
abbrev g8r14:List aA:=[⟨S 55,N,v (m (s 8))⟩,⟨S 56,N,v (w (s 55))⟩,⟨S 57,N,v (b .gtr (s 56) (c (I j 0)))⟩]
abbrev g8r15:List aA:=[⟨S 58,N,v (m (s 8))⟩,⟨S 59,N,v (i F (s 58) (c (I j 0)))⟩,⟨S 60,N,v (l F (s 59))⟩,⟨S 61,N,v (m (s 1))⟩,⟨S 62,N,k 27 [s 60,s 61]⟩,⟨S 12,N,v (m (s 62))⟩]
abbrev g8r16:List aA:=[⟨S 64,N,v (m (s 8))⟩,⟨S 65,N,v (m (s 1))⟩,⟨S 66,N,v (m (s 12))⟩,⟨S 67,N,k 28 [s 64,s 65,s 66]⟩,⟨S 63,N,v (m (s 67))⟩,⟨S 68,N,v (q (s 63) 0)⟩,⟨S 69,N,v (q (s 63) 1)⟩,⟨S 13,N,v (m (s 68))⟩,⟨S 14,N,v (m (s 69))⟩]
abbrev g8r17:List aA:=[⟨S 71,N,v (m (s 0))⟩,⟨S 72,N,v (m (s 13))⟩,⟨S 73,N,k 7 [s 71,s 72]⟩,⟨S 70,N,v (m (s 73))⟩,⟨S 74,N,v (q (s 70) 0)⟩,⟨S 75,N,v (q (s 70) 1)⟩,⟨S 15,N,x (.agg 3) (c (.agg [(I j 0),(I j 0),(.str ⟨#[]⟩)]))⟩,⟨N,N,t (.agg 3) (s 15) (s 74)⟩,⟨S 16,N,v (m (s 75))⟩]
abbrev g8r18:List aA:=[⟨S 76,N,v (m (s 16))⟩,⟨S 77,N,v (e true (.iface true) (s 76) (c .nilIface))⟩]
abbrev g8r19:List aA:=[⟨S 78,N,v (m (s 16))⟩,⟨S 6,N,v (m (c (.sl F .nil [])))⟩,⟨S 7,N,v (m (s 78))⟩]
abbrev g8r20:List aA:=[⟨S 79,N,v (m (s 11))⟩,⟨S 80,N,v (m (s 12))⟩,⟨S 81,N,v (m (s 1))⟩,⟨S 82,N,v (l (.agg 3) (s 15))⟩,⟨S 83,N,y (.agg 3) [s 82]⟩,⟨S 84,N,k 29 [s 80,s 81,s 83]⟩,⟨S 85,N,y F [s 84]⟩,⟨S 86,N,a F 24 (s 79) (s 85)⟩,⟨S 11,N,v (m (s 86))⟩]
abbrev g8r21:List aA:=[⟨S 87,N,v (m (s 14))⟩,⟨S 8,N,v (m (s 87))⟩]
abbrev g8l1:aK:=(Q (Q (O g8r14) (C (s 57) Z (X 2))) (K 3 (Q (O g8r15) (Q (O g8r16) (Q (O g8r17) (Q (Q (O g8r18) (C (s 77) (Q (O g8r19) .ret) Z)) (Q (O g8r20) (O g8r21))))))))
abbrev g8r22:List aA:=[⟨S 88,N,v (m (s 11))⟩,⟨S 89,N,k 25 [s 88,(c (.fn (.func 14) [] []))]⟩,⟨S 6,N,v (m (s 89))⟩,⟨S 7,N,v (m (c .nilIface))⟩]
def agg_Group:LFn:=⟨(Q (O g8r0) (Q (Q (O g8r1) (C (s 22) (Q (O g8r2) .ret) Z)) (Q (O g8r3) (Q (Q (O g8r4) (K 0 (R g8l0))) (Q (Q (O g8r11) (C (s 53) (Q (O g8r12) .ret) Z)) (Q (O g8r13) (Q (K 2 (R g8l1)) (Q (O g8r22) .ret)))))))),90,[.slot 6,.slot 7]⟩
theorem agg_Group_low:aG Try.prog 11=some agg_Group:=by kernel_rfl
abbrev g9r0:List aA:=[⟨S 4,N,v (m (c (.bool false)))⟩]
abbrev g9r1:List aA:=[⟨S 6,N,v (m (s 0))⟩,⟨S 7,N,v (w (s 6))⟩,⟨S 8,N,v (m (s 1))⟩,⟨S 9,N,v (w (s 8))⟩,⟨S 10,N,v (b .neq (s 7) (s 9))⟩]
abbrev g9r2:List aA:=[⟨S 4,N,v (m (c (.bool false)))⟩]
abbrev g9r3:List aA:=[⟨S 11,N,v (m (s 0))⟩,⟨S 12,N,v (w (s 11))⟩,⟨S 13,N,v (m (c (I j 0)))⟩]
abbrev g9r4:List aA:=[⟨S 14,N,v (b .lss (s 13) (s 12))⟩]
abbrev g9r5:List aA:=[⟨S 15,N,v (m (s 13))⟩,⟨S 5,N,v (m (s 15))⟩]
abbrev g9r6:List (aA×List Nat):=[(⟨S 16,N,v (m (s 0))⟩,[]),(⟨S 17,N,v (m (s 5))⟩,[]),(⟨S 18,N,v (i F (s 16) (s 17))⟩,[0,1]),(⟨S 19,N,v (l F (s 18))⟩,[0,1,2]),(⟨S 20,N,v (m (s 1))⟩,[]),(⟨S 21,N,v (m (s 5))⟩,[]),(⟨S 22,N,v (i F (s 20) (s 21))⟩,[4,5]),(⟨S 23,N,v (l F (s 22))⟩,[4,5,6]),(⟨S 24,N,k 30 [s 19,s 23]⟩,[0,1,2,3,4,5,6,7]),(⟨S 25,N,v (.not (s 24))⟩,[0,1,2,3,4,5,6,7,8])]
abbrev g9r6t:List aA:=[]
abbrev g9r7:List aA:=[⟨S 4,N,v (m (c (.bool false)))⟩]
abbrev g9r8:List aA:=[⟨S 26,N,v (b .add (s 13) (c (I j 1)))⟩,⟨S 13,N,v (m (s 26))⟩]
abbrev g9l0:aK:=(Q (O g9r4) (Q (C (s 14) Z (X 0)) (Q (K 1 (Q (O g9r5) (Q (D 10 g9r6 g9r6t) (C (s 25) (Q (O g9r7) .ret) Z)))) (O g9r8))))
abbrev g9r9:List aA:=[⟨S 4,N,v (m (c (.bool true)))⟩]
def corollarynum_Tuples:LFn:=⟨(Q (O g9r0) (Q (Q (O g9r1) (C (s 10) (Q (O g9r2) .ret) Z)) (Q (Q (O g9r3) (K 0 (R g9l0))) (Q (O g9r9) .ret)))),27,[.slot 4]⟩
theorem corollarynum_Tuples_low:aG Try.prog 12=some corollarynum_Tuples:=by kernel_rfl
abbrev g11r0:List aA:=[⟨S 4,N,v (m (c (I j 0)))⟩]
abbrev g11r1:List aA:=[⟨S 5,N,v (m (s 0))⟩,⟨S 6,N,v (m (s 1))⟩,⟨S 7,N,k 32 [s 5,s 6,(c (.fn (.func 21) [] []))]⟩,⟨S 4,N,v (m (s 7))⟩]
def tuple_Compare:LFn:=⟨(Q (O g11r0) (Q (O g11r1) .ret)),8,[.slot 4]⟩
theorem tuple_Compare_low:aG Try.prog 14=some tuple_Compare:=by kernel_rfl
abbrev g12r0:List aA:=[⟨S 4,N,v (m (c (.sl (.agg 3) .nil [])))⟩]
abbrev g12r1:List aA:=[⟨S 5,N,v (m (s 0))⟩,⟨S 6,N,v (.build [(I j 0),(I j 0),(.str ⟨#[]⟩)] [(0,F,(c (I j 1))),(1,F,(s 5))])⟩,⟨S 7,N,v (m (s 1))⟩,⟨S 8,N,v (.build [(I j 0),(I j 0),(.str ⟨#[]⟩)] [(0,F,(c (I j 1))),(1,F,(s 7))])⟩,⟨S 9,N,y (.agg 3) [s 6,s 8]⟩,⟨S 4,N,v (m (s 9))⟩]
def corollarylaw16_alive_1:LFn:=⟨(Q (O g12r0) (Q (O g12r1) .ret)),10,[.slot 4]⟩
theorem corollarylaw16_alive_1_low:aG Try.prog 15=some corollarylaw16_alive_1:=by kernel_rfl
abbrev g13r0:List aA:=[⟨S 1,N,x (.agg 3) (s 0)⟩,⟨S 2,N,v (m (c (.bool false)))⟩]
abbrev g13r1:List aA:=[⟨S 3,N,v (l (.agg 3) (s 1))⟩,⟨S 4,N,k 17 [s 3]⟩,⟨S 5,N,v (.not (s 4))⟩,⟨S 2,N,v (m (s 5))⟩]
def agg_Fold_1:LFn:=⟨(Q (O g13r0) (Q (O g13r1) .ret)),6,[.slot 2]⟩
theorem agg_Fold_1_low:aG Try.prog 16=some agg_Fold_1:=by kernel_rfl
abbrev g14r0:List aA:=[⟨S 1,N,x (.agg 3) (s 0)⟩,⟨S 2,N,v (m (c (.bool false)))⟩]
abbrev g14r1:List aA:=[⟨S 3,N,v (f 0 (s 1))⟩,⟨S 4,N,v (l F (s 3))⟩]
abbrev g14r2:List aA:=[⟨S 6,N,v (b .eql (s 4) (c (I j 1)))⟩,⟨S 5,N,v (m (s 6))⟩]
abbrev g14r3:List aA:=[⟨S 7,N,v (f 2 (s 1))⟩,⟨S 8,N,v (l F (s 7))⟩,⟨S 9,N,v (b .eql (s 8) (c (.str ⟨#[]⟩)))⟩,⟨S 10,N,v (m (s 9))⟩,⟨S 11,S (10,true),v (f 1 (s 1))⟩,⟨S 12,S (10,true),v (l F (s 11))⟩,⟨S 13,S (10,true),k 33 [s 12]⟩,⟨S 14,N,v (p (s 10) (s 13) (c (.bool false)))⟩,⟨S 2,N,v (m (s 14))⟩]
abbrev g14r4:List aA:=[⟨S 16,N,v (b .eql (s 4) (c (I j 2)))⟩,⟨S 15,N,v (m (s 16))⟩]
abbrev g14r5:List aA:=[⟨S 17,N,v (f 1 (s 1))⟩,⟨S 18,N,v (l F (s 17))⟩,⟨S 19,N,v (b .eql (s 18) (c (I j 0)))⟩,⟨S 20,N,v (m (s 19))⟩,⟨S 21,S (20,true),v (f 2 (s 1))⟩,⟨S 22,S (20,true),v (l F (s 21))⟩,⟨S 23,S (20,true),k 34 [s 22]⟩,⟨S 24,N,v (p (s 20) (s 23) (c (.bool false)))⟩,⟨S 2,N,v (m (s 24))⟩]
abbrev g14r6:List aA:=[⟨S 2,N,v (m (c (.bool false)))⟩]
def value_Right:LFn:=⟨(Q (O g14r0) (Q (Q (O g14r1) (K 0 (Q (O g14r2) (C (s 5) (Q (O g14r3) .ret) (Q (O g14r4) (C (s 15) (Q (O g14r5) .ret) Z)))))) (Q (O g14r6) .ret))),25,[.slot 2]⟩
theorem value_Right_low:aG Try.prog 17=some value_Right:=by kernel_rfl
abbrev g15r0:List aA:=[⟨S 1,N,x (.agg 3) (s 0)⟩,⟨S 2,N,v (m (c (.bool false)))⟩]
abbrev g15r1:List aA:=[⟨S 3,N,v (f 0 (s 1))⟩,⟨S 4,N,v (l F (s 3))⟩,⟨S 5,N,v (b .neq (s 4) (c (I j 1)))⟩,⟨S 2,N,v (m (s 5))⟩]
def agg_Fold_2:LFn:=⟨(Q (O g15r0) (Q (O g15r1) .ret)),6,[.slot 2]⟩
theorem agg_Fold_2_low:aG Try.prog 18=some agg_Fold_2:=by kernel_rfl
abbrev g18r0:List aA:=[⟨S 2,N,x (.agg 3) (s 0)⟩,⟨S 3,N,x (.agg 3) (s 1)⟩,⟨S 4,N,v (m (c (I j 0)))⟩]
abbrev g18r1:List (aA×List Nat):=[(⟨S 5,N,v (f 0 (s 2))⟩,[]),(⟨S 6,N,v (l F (s 5))⟩,[0]),(⟨S 7,N,v (f 0 (s 3))⟩,[]),(⟨S 8,N,v (l F (s 7))⟩,[2]),(⟨S 9,N,k 41 [s 6,s 8]⟩,[0,1,2,3]),(⟨S 10,N,v (f 1 (s 2))⟩,[]),(⟨S 11,N,v (l F (s 10))⟩,[5]),(⟨S 12,N,v (f 1 (s 3))⟩,[]),(⟨S 13,N,v (l F (s 12))⟩,[7]),(⟨S 14,N,k 42 [s 11,s 13]⟩,[0,1,2,3,4,5,6,7,8]),(⟨S 15,N,v (f 2 (s 2))⟩,[]),(⟨S 16,N,v (l F (s 15))⟩,[10]),(⟨S 17,N,v (f 2 (s 3))⟩,[]),(⟨S 18,N,v (l F (s 17))⟩,[12]),(⟨S 19,N,k 43 [s 16,s 18]⟩,[0,1,2,3,4,5,6,7,8,9,10,11,12,13]),(⟨S 20,N,y F [s 9,s 14,s 19]⟩,[0,1,2,3,4,5,6,7,8,9,10,11,12,13,14]),(⟨S 21,N,k 40 [s 20]⟩,[0,1,2,3,4,5,6,7,8,9,10,11,12,13,14,15]),(⟨S 4,N,v (m (s 21))⟩,[0,1,2,3,4,5,6,7,8,9,10,11,12,13,14,15,16])]
abbrev g18r1t:List aA:=[]
def value_Compare:LFn:=⟨(Q (O g18r0) (Q (D 18 g18r1 g18r1t) .ret)),22,[.slot 4]⟩
theorem value_Compare_low:aG Try.prog 21=some value_Compare:=by kernel_rfl
abbrev g19r0:List aA:=[⟨S 2,N,x (.agg 3) (c (.agg [(I j 0),(I j 0),(.str ⟨#[]⟩)]))⟩,⟨S 3,N,v (m (c .nilIface))⟩]
abbrev g19r1:List aA:=[⟨S 4,N,v (m (s 0))⟩,⟨S 5,N,k 33 [s 4]⟩,⟨S 6,N,v (.not (s 5))⟩]
abbrev g19r2:List aA:=[⟨S 7,N,v (.build [(I j 0),(I j 0),(.str ⟨#[]⟩)] [])⟩,⟨S 8,N,v (.mkif 46 (c (I j 10)))⟩,⟨N,N,t (.agg 3) (s 2) (s 7)⟩,⟨S 3,N,v (m (s 8))⟩]
abbrev g19r3:List aA:=[⟨S 9,N,v (m (s 0))⟩,⟨S 10,N,v (.build [(I j 0),(I j 0),(.str ⟨#[]⟩)] [(0,F,(c (I j 1))),(1,F,(s 9))])⟩,⟨N,N,t (.agg 3) (s 2) (s 10)⟩,⟨S 3,N,v (m (c .nilIface))⟩]
def value_Of:LFn:=⟨(Q (O g19r0) (Q (Q (O g19r1) (C (s 6) (Q (O g19r2) .ret) Z)) (Q (O g19r3) .ret))),11,[.cell 2 (.agg 3),.slot 3]⟩
theorem value_Of_low:aG Try.prog 22=some value_Of:=by kernel_rfl
abbrev g20r0:List aA:=[⟨S 1,N,x (.agg 3) (s 0)⟩,⟨S 2,N,v (m (c (.bool false)))⟩]
abbrev g20r1:List aA:=[⟨S 3,N,v (f 0 (s 1))⟩,⟨S 4,N,v (l F (s 3))⟩,⟨S 5,N,v (b .eql (s 4) (c (I j 1)))⟩]
abbrev g20r2:List aA:=[⟨S 6,N,v (f 2 (s 1))⟩,⟨S 7,N,v (l F (s 6))⟩,⟨S 8,N,v (.slen (s 7))⟩,⟨S 9,N,v (b .eql (s 8) (c (I j 0)))⟩,⟨S 10,N,v (m (s 9))⟩,⟨S 11,S (10,true),v (f 1 (s 1))⟩,⟨S 12,S (10,true),v (l F (s 11))⟩,⟨S 13,S (10,true),v (b .geq (s 12) (c (I j (-2147483647))))⟩,⟨S 14,N,v (p (s 10) (s 13) (c (.bool false)))⟩,⟨S 15,N,v (m (s 14))⟩,⟨S 16,S (15,true),v (f 1 (s 1))⟩,⟨S 17,S (15,true),v (l F (s 16))⟩,⟨S 18,S (15,true),v (b .leq (s 17) (c (I j 2147483647)))⟩,⟨S 19,N,v (p (s 15) (s 18) (c (.bool false)))⟩,⟨S 2,N,v (m (s 19))⟩]
abbrev g20r3:List aA:=[⟨S 20,N,v (f 0 (s 1))⟩,⟨S 21,N,v (l F (s 20))⟩,⟨S 22,N,v (b .eql (s 21) (c (I j 2)))⟩,⟨S 23,N,v (m (s 22))⟩,⟨S 24,S (23,true),v (f 1 (s 1))⟩,⟨S 25,S (23,true),v (l F (s 24))⟩,⟨S 26,S (23,true),v (b .eql (s 25) (c (I j 0)))⟩,⟨S 27,N,v (p (s 23) (s 26) (c (.bool false)))⟩,⟨S 28,N,v (m (s 27))⟩,⟨S 29,S (28,true),v (f 2 (s 1))⟩,⟨S 30,S (28,true),v (l F (s 29))⟩,⟨S 31,S (28,true),k 44 [s 30]⟩,⟨S 32,N,v (p (s 28) (s 31) (c (.bool false)))⟩,⟨S 2,N,v (m (s 32))⟩]
def corollaryref01_Right:LFn:=⟨(Q (O g20r0) (Q (Q (O g20r1) (C (s 5) (Q (O g20r2) .ret) Z)) (Q (O g20r3) .ret))),33,[.slot 2]⟩
theorem corollaryref01_Right_low:aG Try.prog 23=some corollaryref01_Right:=by kernel_rfl
abbrev g21r0:List aA:=[⟨S 2,N,x (.agg 3) (s 0)⟩,⟨S 3,N,x (.agg 3) (s 1)⟩,⟨S 4,N,v (m (c (.bool false)))⟩]
abbrev g21r1:List aA:=[⟨S 5,N,v (f 0 (s 2))⟩,⟨S 6,N,v (l F (s 5))⟩,⟨S 7,N,v (f 0 (s 3))⟩,⟨S 8,N,v (l F (s 7))⟩,⟨S 9,N,v (b .neq (s 6) (s 8))⟩]
abbrev g21r2:List aA:=[⟨S 10,N,v (f 0 (s 2))⟩,⟨S 11,N,v (l F (s 10))⟩,⟨S 12,N,v (f 0 (s 3))⟩,⟨S 13,N,v (l F (s 12))⟩,⟨S 14,N,v (b .lss (s 11) (s 13))⟩,⟨S 4,N,v (m (s 14))⟩]
abbrev g21r3:List aA:=[⟨S 15,N,v (f 1 (s 2))⟩,⟨S 16,N,v (l F (s 15))⟩,⟨S 17,N,v (f 1 (s 3))⟩,⟨S 18,N,v (l F (s 17))⟩,⟨S 19,N,v (b .neq (s 16) (s 18))⟩]
abbrev g21r4:List aA:=[⟨S 20,N,v (f 1 (s 2))⟩,⟨S 21,N,v (l F (s 20))⟩,⟨S 22,N,v (f 1 (s 3))⟩,⟨S 23,N,v (l F (s 22))⟩,⟨S 24,N,v (b .lss (s 21) (s 23))⟩,⟨S 4,N,v (m (s 24))⟩]
abbrev g21r5:List aA:=[⟨S 25,N,v (f 2 (s 2))⟩,⟨S 26,N,v (l F (s 25))⟩,⟨S 27,N,v (f 2 (s 3))⟩,⟨S 28,N,v (l F (s 27))⟩,⟨S 29,N,v (b .lss (s 26) (s 28))⟩,⟨S 4,N,v (m (s 29))⟩]
def corollaryref01_Less:LFn:=⟨(Q (O g21r0) (Q (Q (O g21r1) (C (s 9) (Q (O g21r2) .ret) Z)) (Q (Q (O g21r3) (C (s 19) (Q (O g21r4) .ret) Z)) (Q (O g21r5) .ret)))),30,[.slot 4]⟩
theorem corollaryref01_Less_low:aG Try.prog 24=some corollaryref01_Less:=by kernel_rfl
abbrev g23r0:List aA:=[⟨S 2,N,v (m (c (.sl (.agg 3) .nil [])))⟩]
abbrev g23r1:List aA:=[⟨S 3,N,v (m (s 0))⟩,⟨S 4,N,k 49 [s 3]⟩,⟨S 2,N,v (m (s 4))⟩]
def tuple_Copy:LFn:=⟨(Q (O g23r0) (Q (O g23r1) .ret)),5,[.slot 2]⟩
theorem tuple_Copy_low:aG Try.prog 26=some tuple_Copy:=by kernel_rfl
abbrev g24r0:List aA:=[⟨S 4,N,v (m (c (.sl (.agg 3) .nil [])))⟩]
abbrev g24r1:List aA:=[⟨S 5,N,v (m (s 0))⟩,⟨S 6,N,k 26 [s 5]⟩,⟨S 7,N,v (m (s 1))⟩,⟨S 8,N,v (m (s 1))⟩,⟨S 9,N,v (b .add (s 8) (c (I j 1)))⟩,⟨S 10,N,k 50 [s 6,s 7,s 9]⟩,⟨S 4,N,v (m (s 10))⟩]
def agg_without:LFn:=⟨(Q (O g24r0) (Q (O g24r1) .ret)),11,[.slot 4]⟩
theorem agg_without_low:aG Try.prog 27=some agg_without:=by kernel_rfl
abbrev g25r0:List aA:=[⟨S 6,N,v (m (c (.sl (.agg 3) .nil [])))⟩,⟨S 7,N,v (m (c (.sl F .nil [])))⟩]
abbrev g25r1:List aA:=[⟨S 10,N,v (m (s 0))⟩,⟨S 11,N,v (w (s 10))⟩,⟨S 12,N,v (m (c (I j 0)))⟩]
abbrev g25r2:List aA:=[⟨S 13,N,v (b .lss (s 12) (s 11))⟩]
abbrev g25r3:List aA:=[⟨S 14,N,v (i F (s 10) (s 12))⟩,⟨S 15,N,v (l F (s 14))⟩,⟨S 9,N,v (m (s 15))⟩]
abbrev g25r4:List aA:=[⟨S 16,N,v (m (s 9))⟩,⟨S 17,N,v (m (s 1))⟩,⟨S 18,N,k 27 [s 16,s 17]⟩,⟨S 19,N,v (m (s 2))⟩,⟨S 20,N,k 14 [s 18,s 19]⟩,⟨S 21,N,v (b .eql (s 20) (c (I j 0)))⟩]
abbrev g25r5:List aA:=[⟨S 22,N,v (m (s 6))⟩,⟨S 23,N,v (m (s 9))⟩,⟨S 24,N,v (m (s 1))⟩,⟨S 25,N,v (i (.agg 3) (s 23) (s 24))⟩,⟨S 26,N,v (l (.agg 3) (s 25))⟩,⟨S 27,N,y (.agg 3) [s 26]⟩,⟨S 28,N,a (.agg 3) 32 (s 22) (s 27)⟩,⟨S 6,N,v (m (s 28))⟩]
abbrev g25r6:List aA:=[⟨S 29,N,v (m (s 7))⟩,⟨S 30,N,v (m (s 9))⟩,⟨S 31,N,y F [s 30]⟩,⟨S 32,N,a F 24 (s 29) (s 31)⟩,⟨S 7,N,v (m (s 32))⟩]
abbrev g25r7:List aA:=[⟨S 33,N,v (b .add (s 12) (c (I j 1)))⟩,⟨S 12,N,v (m (s 33))⟩]
abbrev g25l0:aK:=(Q (O g25r2) (Q (C (s 13) Z (X 0)) (Q (K 1 (Q (O g25r3) (Q (O g25r4) (C (s 21) (O g25r5) (O g25r6))))) (O g25r7))))
abbrev g25r8:List aA:=[⟨S 34,N,v (m (s 6))⟩,⟨S 35,N,v (m (s 7))⟩,⟨S 6,N,v (m (s 34))⟩,⟨S 7,N,v (m (s 35))⟩]
def agg_part:LFn:=⟨(Q (O g25r0) (Q (Q (O g25r1) (K 0 (R g25l0))) (Q (O g25r8) .ret))),36,[.slot 6,.slot 7]⟩
theorem agg_part_low:aG Try.prog 28=some agg_part:=by kernel_rfl
abbrev g26r0:List aA:=[⟨S 4,N,v (m (c (.bool false)))⟩]
abbrev g26r1:List aA:=[⟨S 6,N,v (m (s 0))⟩,⟨S 7,N,v (w (s 6))⟩,⟨S 8,N,v (m (s 1))⟩,⟨S 9,N,v (w (s 8))⟩,⟨S 10,N,v (b .neq (s 7) (s 9))⟩]
abbrev g26r2:List aA:=[⟨S 4,N,v (m (c (.bool false)))⟩]
abbrev g26r3:List aA:=[⟨S 11,N,v (m (s 0))⟩,⟨S 12,N,v (w (s 11))⟩,⟨S 13,N,v (m (c (I j 0)))⟩]
abbrev g26r4:List aA:=[⟨S 14,N,v (b .lss (s 13) (s 12))⟩]
abbrev g26r5:List aA:=[⟨S 15,N,v (m (s 13))⟩,⟨S 5,N,v (m (s 15))⟩]
abbrev g26r6:List (aA×List Nat):=[(⟨S 16,N,v (m (s 0))⟩,[]),(⟨S 17,N,v (m (s 5))⟩,[]),(⟨S 18,N,v (i (.agg 3) (s 16) (s 17))⟩,[0,1]),(⟨S 19,N,v (l (.agg 3) (s 18))⟩,[0,1,2]),(⟨S 20,N,v (m (s 1))⟩,[]),(⟨S 21,N,v (m (s 5))⟩,[]),(⟨S 22,N,v (i (.agg 3) (s 20) (s 21))⟩,[4,5]),(⟨S 23,N,v (l (.agg 3) (s 22))⟩,[4,5,6]),(⟨S 24,N,v (e true (.plain (.agg 3) [.int,.int,.str]) (s 19) (s 23))⟩,[0,1,2,3,4,5,6,7])]
abbrev g26r6t:List aA:=[]
abbrev g26r7:List aA:=[⟨S 4,N,v (m (c (.bool false)))⟩]
abbrev g26r8:List aA:=[⟨S 25,N,v (b .add (s 13) (c (I j 1)))⟩,⟨S 13,N,v (m (s 25))⟩]
abbrev g26l0:aK:=(Q (O g26r4) (Q (C (s 14) Z (X 0)) (Q (K 1 (Q (O g26r5) (Q (D 9 g26r6 g26r6t) (C (s 24) (Q (O g26r7) .ret) Z)))) (O g26r8))))
abbrev g26r9:List aA:=[⟨S 4,N,v (m (c (.bool true)))⟩]
def corollarynum_Tuple:LFn:=⟨(Q (O g26r0) (Q (Q (O g26r1) (C (s 10) (Q (O g26r2) .ret) Z)) (Q (Q (O g26r3) (K 0 (R g26l0))) (Q (O g26r9) .ret)))),26,[.slot 4]⟩
theorem corollarynum_Tuple_low:aG Try.prog 30=some corollarynum_Tuple:=by kernel_rfl
abbrev g28r0:List aA:=[⟨S 6,N,v (m (c (I j 0)))⟩]
abbrev g28r1:List aA:=[⟨S 11,N,v (m (s 0))⟩,⟨S 12,N,v (w (s 11))⟩,⟨S 13,N,v (m (c (I j 0)))⟩]
abbrev g28r2:List aA:=[⟨S 14,N,v (b .lss (s 13) (s 12))⟩]
abbrev g28r3:List aA:=[⟨S 15,N,v (m (s 13))⟩,⟨S 16,N,v (i (.agg 3) (s 11) (s 13))⟩,⟨S 17,N,v (l (.agg 3) (s 16))⟩,⟨S 8,N,x (.agg 3) (c (.agg [(I j 0),(I j 0),(.str ⟨#[]⟩)]))⟩,⟨S 7,N,v (m (s 15))⟩,⟨N,N,t (.agg 3) (s 8) (s 17)⟩]
abbrev g28r4:List aA:=[⟨S 18,N,v (m (s 7))⟩,⟨S 19,N,v (m (s 1))⟩,⟨S 20,N,v (w (s 19))⟩,⟨S 21,N,v (b .geq (s 18) (s 20))⟩]
abbrev g28r5:List aA:=[⟨S 6,N,v (m (c (I j 1)))⟩]
abbrev g28r6:List aA:=[⟨S 22,N,v (m (s 1))⟩,⟨S 23,N,v (m (s 7))⟩,⟨S 24,N,v (i (.agg 3) (s 22) (s 23))⟩,⟨S 25,N,v (l (.agg 3) (s 24))⟩,⟨S 9,N,x (.agg 3) (c (.agg [(I j 0),(I j 0),(.str ⟨#[]⟩)]))⟩,⟨N,N,t (.agg 3) (s 9) (s 25)⟩]
abbrev g28r7:List aA:=[⟨S 26,N,v (m (s 2))⟩,⟨S 27,N,v (l (.agg 3) (s 8))⟩,⟨S 28,N,v (l (.agg 3) (s 9))⟩,⟨S 29,N,.callv (s 26) [s 27,s 28]⟩,⟨S 10,N,v (m (s 29))⟩]
abbrev g28r8:List aA:=[⟨S 30,N,v (m (s 10))⟩,⟨S 31,N,v (b .neq (s 30) (c (I j 0)))⟩]
abbrev g28r9:List aA:=[⟨S 32,N,v (m (s 10))⟩,⟨S 6,N,v (m (s 32))⟩]
abbrev g28r10:List aA:=[⟨S 33,N,v (b .add (s 13) (c (I j 1)))⟩,⟨S 13,N,v (m (s 33))⟩]
abbrev g28l0:aK:=(Q (O g28r2) (Q (C (s 14) Z (X 0)) (Q (K 1 (Q (O g28r3) (Q (Q (O g28r4) (C (s 21) (Q (O g28r5) .ret) Z)) (Q (O g28r6) (Q (O g28r7) (Q (O g28r8) (C (s 31) (Q (O g28r9) .ret) Z))))))) (O g28r10))))
abbrev g28r11:List aA:=[⟨S 34,N,v (m (s 0))⟩,⟨S 35,N,v (w (s 34))⟩,⟨S 36,N,v (m (s 1))⟩,⟨S 37,N,v (w (s 36))⟩,⟨S 38,N,v (b .lss (s 35) (s 37))⟩]
abbrev g28r12:List aA:=[⟨S 6,N,v (m (c (I j (-1))))⟩]
abbrev g28r13:List aA:=[⟨S 6,N,v (m (c (I j 0)))⟩]
def slices_CompareFunc_api_Tuple_api_Tuple_api_Value_api_Value:LFn:=⟨(Q (O g28r0) (Q (Q (O g28r1) (K 0 (R g28l0))) (Q (Q (O g28r11) (C (s 38) (Q (O g28r12) .ret) Z)) (Q (O g28r13) .ret)))),39,[.slot 6]⟩
theorem slices_CompareFunc_api_Tuple_api_Tuple_api_Value_api_Value_low:aG Try.prog 32=some slices_CompareFunc_api_Tuple_api_Tuple_api_Value_api_Value:=by kernel_rfl
abbrev g29r0:List aA:=[⟨S 2,N,v (m (c (.bool false)))⟩]
abbrev g29r1:List aA:=[⟨S 3,N,v (m (s 0))⟩,⟨S 4,N,v (b .geq (s 3) (c (I j (-2147483647))))⟩,⟨S 5,N,v (m (s 4))⟩,⟨S 6,S (5,true),v (m (s 0))⟩,⟨S 7,S (5,true),v (b .leq (s 6) (c (I j 2147483647)))⟩,⟨S 8,N,v (p (s 5) (s 7) (c (.bool false)))⟩,⟨S 2,N,v (m (s 8))⟩]
def value_bounded:LFn:=⟨(Q (O g29r0) (Q (O g29r1) .ret)),9,[.slot 2]⟩
theorem value_bounded_low:aG Try.prog 33=some value_bounded:=by kernel_rfl
abbrev g30r0:List aA:=[⟨S 2,N,v (m (c (.bool false)))⟩]
abbrev g30r1:List aA:=[⟨S 3,N,v (m (c (.fn (.func 53) [] [])))⟩]
abbrev g30r2:List aA:=[⟨S 4,N,v (m (s 0))⟩,⟨S 5,N,v (b .neq (s 4) (c (.str ⟨#[]⟩)))⟩,⟨S 6,N,v (m (s 5))⟩,⟨S 7,S (6,true),v (m (s 0))⟩,⟨S 8,S (6,true),v (.slen (s 7))⟩,⟨S 9,S (6,true),v (b .leq (s 8) (c (I j 32)))⟩,⟨S 10,N,v (p (s 6) (s 9) (c (.bool false)))⟩,⟨S 11,N,v (m (s 10))⟩,⟨S 12,S (11,true),v (m (s 0))⟩,⟨S 13,S (11,true),v (.sidx (s 12) (c (I j 0)))⟩,⟨S 14,S (11,true),k 54 [s 13]⟩,⟨S 15,N,v (p (s 11) (s 14) (c (.bool false)))⟩,⟨S 16,N,v (m (s 15))⟩,⟨S 17,S (16,true),v (m (s 0))⟩,⟨S 18,S (16,true),v (m (s 3))⟩,⟨S 19,S (16,true),k 55 [s 17,s 18]⟩,⟨S 20,S (16,true),v (.not (s 19))⟩,⟨S 21,N,v (p (s 16) (s 20) (c (.bool false)))⟩,⟨S 2,N,v (m (s 21))⟩]
def value_Name:LFn:=⟨(Q (O g30r0) (Q (O g30r1) (Q (O g30r2) .ret))),22,[.slot 2]⟩
theorem value_Name_low:aG Try.prog 34=some value_Name:=by kernel_rfl
abbrev g35r0:List aA:=[⟨S 3,N,x (.agg 3) (s 0)⟩,⟨S 4,N,x (.agg 3) (s 1)⟩,⟨S 5,N,v (m (c (.bool false)))⟩]
abbrev g35r1:List aA:=[⟨S 6,N,v (l F (s 2))⟩,⟨S 7,N,v (l (.agg 3) (s 3))⟩,⟨S 8,N,v (l (.agg 3) (s 4))⟩,⟨S 9,N,.callv (s 6) [s 7,s 8]⟩,⟨S 10,N,v (b .eql (s 9) (c (I j 0)))⟩,⟨S 5,N,v (m (s 10))⟩]
def agg_set_api_Value_1:LFn:=⟨(Q (O g35r0) (Q (O g35r1) .ret)),11,[.slot 5]⟩
theorem agg_set_api_Value_1_low:aG Try.prog 39=some agg_set_api_Value_1:=by kernel_rfl
abbrev g39r0:List aA:=[⟨S 4,N,v (m (c (I j 0)))⟩]
abbrev g39r1:List aA:=[⟨S 7,N,v (m (s 0))⟩,⟨S 8,N,k 61 [s 7]⟩,⟨S 5,N,v (m (s 8))⟩]
abbrev g39r2:List aA:=[⟨S 9,N,v (m (s 1))⟩,⟨S 10,N,k 61 [s 9]⟩,⟨S 6,N,v (m (s 10))⟩]
abbrev g39r3:List aA:=[⟨S 11,N,v (m (s 5))⟩]
abbrev g39r4:List aA:=[⟨S 12,N,v (m (s 6))⟩]
abbrev g39r5:List aA:=[⟨S 4,N,v (m (c (I j 0)))⟩]
abbrev g39r6:List aA:=[⟨S 4,N,v (m (c (I j (-1))))⟩]
abbrev g39r7:List aA:=[⟨S 13,N,v (m (s 6))⟩]
abbrev g39r8:List aA:=[⟨S 4,N,v (m (c (I j 1)))⟩]
abbrev g39r9:List aA:=[⟨S 14,N,v (m (s 0))⟩,⟨S 15,N,v (m (s 1))⟩,⟨S 16,N,v (b .lss (s 14) (s 15))⟩]
abbrev g39r10:List aA:=[⟨S 4,N,v (m (c (I j (-1))))⟩]
abbrev g39r11:List aA:=[⟨S 17,N,v (m (s 0))⟩,⟨S 18,N,v (m (s 1))⟩,⟨S 19,N,v (b .gtr (s 17) (s 18))⟩]
abbrev g39r12:List aA:=[⟨S 4,N,v (m (c (I j 1)))⟩]
abbrev g39r13:List aA:=[⟨S 4,N,v (m (c (I j 0)))⟩]
def cmp_Compare_string:LFn:=⟨(Q (O g39r0) (Q (O g39r1) (Q (O g39r2) (Q (Q (O g39r3) (C (s 11) (Q (Q (O g39r4) (C (s 12) (Q (O g39r5) .ret) Z)) (Q (O g39r6) .ret)) Z)) (Q (Q (O g39r7) (C (s 13) (Q (O g39r8) .ret) Z)) (Q (Q (O g39r9) (C (s 16) (Q (O g39r10) .ret) Z)) (Q (Q (O g39r11) (C (s 19) (Q (O g39r12) .ret) Z)) (Q (O g39r13) .ret)))))))),20,[.slot 4]⟩
theorem cmp_Compare_string_low:aG Try.prog 43=some cmp_Compare_string:=by kernel_rfl
abbrev g40r0:List aA:=[⟨S 2,N,v (m (c (.bool false)))⟩]
abbrev g40r1:List aA:=[⟨S 3,N,v (m (c (I j 0)))⟩]
abbrev g40r2:List aA:=[⟨S 6,N,v (m (s 3))⟩,⟨S 7,N,v (m (s 0))⟩,⟨S 8,N,v (.slen (s 7))⟩,⟨S 9,N,v (b .lss (s 6) (s 8))⟩]
abbrev g40r3:List aA:=[⟨S 12,N,v (m (s 0))⟩,⟨S 13,N,v (m (s 3))⟩,⟨S 14,N,v (.sidx (s 12) (s 13))⟩,⟨S 4,N,v (m (s 14))⟩]
abbrev g40r4:List aA:=[⟨S 15,N,v (m (s 4))⟩,⟨S 16,N,v (b .geq (s 15) (c (.int .u8 97)))⟩,⟨S 17,N,v (m (s 16))⟩,⟨S 18,S (17,true),v (m (s 4))⟩,⟨S 19,S (17,true),v (b .leq (s 18) (c (.int .u8 122)))⟩,⟨S 20,N,v (p (s 17) (s 19) (c (.bool false)))⟩,⟨S 5,N,v (m (s 20))⟩]
abbrev g40r5:List aA:=[⟨S 21,N,v (m (s 5))⟩,⟨S 22,N,v (.not (s 21))⟩,⟨S 23,N,v (m (s 22))⟩,⟨S 24,S (23,true),v (m (s 3))⟩,⟨S 25,S (23,true),v (b .eql (s 24) (c (I j 0)))⟩,⟨S 26,S (23,true),v (m (s 25))⟩,⟨S 27,S (26,false),v (m (s 4))⟩,⟨S 28,S (26,false),v (b .geq (s 27) (c (.int .u8 48)))⟩,⟨S 29,S (26,false),v (m (s 28))⟩,⟨S 30,S (29,true),v (m (s 4))⟩,⟨S 31,S (29,true),v (b .leq (s 30) (c (.int .u8 57)))⟩,⟨S 32,S (26,false),v (p (s 29) (s 31) (c (.bool false)))⟩,⟨S 33,S (26,false),v (.not (s 32))⟩,⟨S 34,S (26,false),v (m (s 33))⟩,⟨S 35,S (34,true),v (m (s 4))⟩,⟨S 36,S (34,true),v (b .neq (s 35) (c (.int .u8 95)))⟩,⟨S 37,S (26,false),v (p (s 34) (s 36) (c (.bool false)))⟩,⟨S 38,S (23,true),v (p (s 26) (c (.bool true)) (s 37))⟩,⟨S 39,N,v (p (s 23) (s 38) (c (.bool false)))⟩]
abbrev g40r6:List aA:=[⟨S 2,N,v (m (c (.bool false)))⟩]
abbrev g40r7:List aA:=[⟨S 10,N,v (m (s 3))⟩,⟨S 11,N,v (b .add (s 10) (c (I j 1)))⟩,⟨S 3,N,v (m (s 11))⟩]
abbrev g40l0:aK:=(Q (Q (O g40r2) (C (s 9) Z (X 0))) (Q (K 1 (Q (O g40r3) (Q (O g40r4) (Q (O g40r5) (C (s 39) (Q (O g40r6) .ret) Z))))) (O g40r7)))
abbrev g40r8:List aA:=[⟨S 40,N,v (m (s 0))⟩,⟨S 41,N,v (.slen (s 40))⟩,⟨S 42,N,v (b .geq (s 41) (c (I j 1)))⟩,⟨S 43,N,v (m (s 42))⟩,⟨S 44,S (43,true),v (m (s 0))⟩,⟨S 45,S (43,true),v (.slen (s 44))⟩,⟨S 46,S (43,true),v (b .leq (s 45) (c (I j 32)))⟩,⟨S 47,N,v (p (s 43) (s 46) (c (.bool false)))⟩,⟨S 2,N,v (m (s 47))⟩]
def corollaryref01_Name:LFn:=⟨(Q (O g40r0) (Q (Q (O g40r1) (K 0 (R g40l0))) (Q (O g40r8) .ret))),48,[.slot 2]⟩
theorem corollaryref01_Name_low:aG Try.prog 44=some corollaryref01_Name:=by kernel_rfl
abbrev g44r0:List aA:=[⟨S 5,N,v (m (c (.bool false)))⟩]
abbrev g44r1:List aA:=[⟨S 6,N,v (l F (s 2))⟩,⟨S 7,N,v (m (s 0))⟩,⟨S 8,N,v (m (s 1))⟩,⟨S 9,N,.callv (s 6) [s 7,s 8]⟩,⟨S 10,N,v (b .eql (s 9) (c (I j 0)))⟩,⟨S 5,N,v (m (s 10))⟩]
def agg_set_api_Tuple_1:LFn:=⟨(Q (O g44r0) (Q (O g44r1) .ret)),11,[.slot 5]⟩
theorem agg_set_api_Tuple_1_low:aG Try.prog 48=some agg_set_api_Tuple_1:=by kernel_rfl
abbrev g48r0:List aA:=[⟨S 2,N,v (m (c (.bool false)))⟩]
abbrev g48r1:List aA:=[⟨S 3,N,v (m (s 0))⟩,⟨S 4,N,v (b .geq (s 3) (c (.int .i32 97)))⟩,⟨S 5,N,v (m (s 4))⟩,⟨S 6,S (5,true),v (m (s 0))⟩,⟨S 7,S (5,true),v (b .leq (s 6) (c (.int .i32 122)))⟩,⟨S 8,N,v (p (s 5) (s 7) (c (.bool false)))⟩,⟨S 9,N,v (m (s 8))⟩,⟨S 10,S (9,false),v (m (s 0))⟩,⟨S 11,S (9,false),v (b .geq (s 10) (c (.int .i32 48)))⟩,⟨S 12,S (9,false),v (m (s 11))⟩,⟨S 13,S (12,true),v (m (s 0))⟩,⟨S 14,S (12,true),v (b .leq (s 13) (c (.int .i32 57)))⟩,⟨S 15,S (9,false),v (p (s 12) (s 14) (c (.bool false)))⟩,⟨S 16,N,v (p (s 9) (c (.bool true)) (s 15))⟩,⟨S 17,N,v (m (s 16))⟩,⟨S 18,S (17,false),v (m (s 0))⟩,⟨S 19,S (17,false),v (b .eql (s 18) (c (.int .i32 95)))⟩,⟨S 20,N,v (p (s 17) (c (.bool true)) (s 19))⟩,⟨S 21,N,v (.not (s 20))⟩,⟨S 2,N,v (m (s 21))⟩]
def value_Name_1:LFn:=⟨(Q (O g48r0) (Q (O g48r1) .ret)),22,[.slot 2]⟩
theorem value_Name_1_low:aG Try.prog 53=some value_Name_1:=by kernel_rfl
abbrev g49r0:List aA:=[⟨S 2,N,v (m (c (.bool false)))⟩]
abbrev g49r1:List aA:=[⟨S 3,N,v (m (s 0))⟩,⟨S 4,N,v (b .geq (s 3) (c (.int .u8 97)))⟩,⟨S 5,N,v (m (s 4))⟩,⟨S 6,S (5,true),v (m (s 0))⟩,⟨S 7,S (5,true),v (b .leq (s 6) (c (.int .u8 122)))⟩,⟨S 8,N,v (p (s 5) (s 7) (c (.bool false)))⟩,⟨S 2,N,v (m (s 8))⟩]
def value_letter:LFn:=⟨(Q (O g49r0) (Q (O g49r1) .ret)),9,[.slot 2]⟩
theorem value_letter_low:aG Try.prog 54=some value_letter:=by kernel_rfl
abbrev g56r0:List aA:=[⟨S 2,N,v (m (c (.bool false)))⟩]
abbrev g56r1:List aA:=[⟨S 3,N,v (m (s 0))⟩,⟨S 4,N,v (m (s 0))⟩,⟨S 5,N,v (b .neq (s 3) (s 4))⟩,⟨S 2,N,v (m (s 5))⟩]
def cmp_isNaN_string:LFn:=⟨(Q (O g56r0) (Q (O g56r1) .ret)),6,[.slot 2]⟩
theorem cmp_isNaN_string_low:aG Try.prog 61=some cmp_isNaN_string:=by kernel_rfl
end L
end Go.Proofs.Ytemjhgboialjpaa
