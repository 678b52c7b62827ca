/-
The functions of the code,lowered:printed by a program,checked by the kernel. No conditions.
-/
import Derived.Test.YtecepaehmojpgaaGreatKcb
import Derived.Test.YtecepaehmojpgaaGreatProg
namespace Go.Proofs.YtecepaehmojpgaaGreat
open Go.RowKit
open aL renaming slot→s,const→c
open bD renaming move→m,load→l,fldA→f,bin→b,eq→e,idxA→i,pick→p,ext→q,nilCheck→n,len→w
open LOp renaming val→v,call→k,box→x,bslice→y,append→a,store→t
open bE renaming seq→Q,ops→O,cond→C,block→K,loop→R,skip→Z,exit→X,draw→D
open Sh renaming leaf→F
open V renaming int→I
open Go.IntKind renaming i64→j
open Option renaming some→S,none→N
namespace L
abbrev g0r0:List aA:=[⟨S 3,N,x (.agg 2) (s 0)⟩,⟨S 6,N,v (m (c (.bool false)))⟩]
abbrev g0r1:List aA:=[⟨S 11,N,k 7 []⟩,⟨S 12,N,v (.not (s 11))⟩]
abbrev g0r2:List aA:=[⟨S 6,N,v (m (c (.bool false)))⟩]
abbrev g0r3:List aA:=[⟨S 13,N,v (l (.agg 2) (s 3))⟩,⟨S 14,N,v (m (s 1))⟩,⟨S 15,N,v (m (s 2))⟩,⟨S 16,N,k 8 [s 13,s 14,s 15]⟩]
abbrev g0r4:List aA:=[⟨S 6,N,v (m (c (.bool true)))⟩]
abbrev g0r5:List aA:=[⟨S 18,N,v (l (.agg 2) (s 3))⟩,⟨S 19,N,v (m (s 1))⟩,⟨S 20,N,k 9 [s 18,(c (I j 4)),s 19]⟩,⟨S 17,N,v (m (s 20))⟩,⟨S 21,N,v (q (s 17) 0)⟩,⟨S 22,N,v (q (s 17) 1)⟩,⟨S 7,N,v (m (s 21))⟩,⟨S 8,N,v (m (s 22))⟩]
abbrev g0r6:List aA:=[⟨S 23,N,v (m (s 8))⟩,⟨S 24,N,v (e true (.iface true) (s 23) (c .nilIface))⟩]
abbrev g0r7:List aA:=[⟨S 25,N,v (m (s 7))⟩,⟨S 26,N,v (e false .ptr (s 25) (c .nilPtr))⟩,⟨S 6,N,v (m (s 26))⟩]
abbrev g0r8:List aA:=[⟨S 27,N,v (m (s 2))⟩,⟨S 28,N,v (w (s 27))⟩,⟨S 29,N,v (m (c (I j 0)))⟩]
abbrev g0r9:List aA:=[⟨S 30,N,v (b .lss (s 29) (s 28))⟩]
abbrev g0r10:List aA:=[⟨S 31,N,v (i (.agg 7) (s 27) (s 29))⟩,⟨S 32,N,v (l (.agg 7) (s 31))⟩,⟨S 10,N,x (.agg 7) (c (.agg [(.bool false),(I j 0),(I j 0),(I j 0),(I j 0),(I j 0),(.sl (.agg 3) .nil [])]))⟩,⟨N,N,t (.agg 7) (s 10) (s 32)⟩]
abbrev g0r11:List aA:=[⟨S 33,N,v (f 0 (s 10))⟩,⟨S 34,N,v (l F (s 33))⟩]
abbrev corollarylaw24_FrontSafe_r12:List aA:=[⟨S 35,N,v (m (s 7))⟩,⟨S 36,N,v (f 1 (s 10))⟩,⟨S 37,N,v (l F (s 36))⟩,⟨S 38,N,v (f 2 (s 10))⟩,⟨S 39,N,v (l F (s 38))⟩,⟨S 40,N,k 10 [s 35,s 37,s 39]⟩,⟨S 8,N,v (m (s 40))⟩]
abbrev corollarylaw24_FrontSafe_r13:List aA:=[⟨S 41,N,v (m (s 7))⟩,⟨S 42,N,v (f 1 (s 10))⟩,⟨S 43,N,v (l F (s 42))⟩,⟨S 44,N,v (f 3 (s 10))⟩,⟨S 45,N,v (l (.agg 3) (s 44))⟩,⟨S 46,N,v (f 6 (s 10))⟩,⟨S 47,N,v (l F (s 46))⟩,⟨S 48,N,k 11 [s 41,s 43,s 45,s 47]⟩,⟨S 8,N,v (m (s 48))⟩]
abbrev g0r14:List aA:=[⟨S 49,N,v (m (s 8))⟩,⟨S 50,N,v (e false (.iface true) (s 49) (c .nilIface))⟩,⟨S 51,N,v (m (s 50))⟩,⟨S 52,S (51,true),v (m (s 7))⟩,⟨S 53,S (51,true),k 12 [s 52]⟩,⟨S 54,S (51,true),v (.not (s 53))⟩,⟨S 55,N,v (p (s 51) (s 54) (c (.bool false)))⟩]
abbrev g0r15:List aA:=[⟨S 6,N,v (m (c (.bool false)))⟩]
abbrev g0r16:List aA:=[⟨S 56,N,v (b .add (s 29) (c (I j 1)))⟩,⟨S 29,N,v (m (s 56))⟩]
abbrev corollarylaw24_FrontSafe_l0:bE:=(Q (O g0r9) (Q (C (s 30) Z (X 0)) (Q (K 1 (Q (O g0r10) (Q (Q (O g0r11) (C (s 34) (O corollarylaw24_FrontSafe_r12) (O corollarylaw24_FrontSafe_r13))) (Q (O g0r14) (C (s 55) (Q (O g0r15) .ret) Z))))) (O g0r16))))
abbrev g0r17:List aA:=[⟨S 57,N,v (m (s 7))⟩,⟨S 58,N,k 12 [s 57]⟩,⟨S 6,N,v (m (s 58))⟩]
def corollarylaw24_FrontSafe:LFn:=⟨(Q (O g0r0) (Q (Q (O g0r1) (C (s 12) (Q (O g0r2) .ret) Z)) (Q (Q (O g0r3) (C (s 16) (Q (O g0r4) .ret) Z)) (Q (O g0r5) (Q (Q (O g0r6) (C (s 24) (Q (O g0r7) .ret) Z)) (Q (Q (O g0r8) (K 0 (R corollarylaw24_FrontSafe_l0))) (Q (O g0r17) .ret))))))),59,[.slot 6]⟩
theorem corollarylaw24_FrontSafe_low:aH Tryz.prog 3=some corollarylaw24_FrontSafe:=by kernel_rfl
abbrev g1r0:List aA:=[⟨S 3,N,x (.agg 2) (s 0)⟩,⟨S 6,N,v (m (c (.bool false)))⟩]
abbrev g1r1:List aA:=[⟨S 14,N,k 7 []⟩,⟨S 15,N,v (.not (s 14))⟩]
abbrev g1r2:List aA:=[⟨S 6,N,v (m (c (.bool false)))⟩]
abbrev g1r3:List aA:=[⟨S 16,N,v (l (.agg 2) (s 3))⟩,⟨S 17,N,v (m (s 1))⟩,⟨S 18,N,v (m (s 2))⟩,⟨S 19,N,k 8 [s 16,s 17,s 18]⟩]
abbrev g1r4:List aA:=[⟨S 6,N,v (m (c (.bool true)))⟩]
abbrev g1r5:List aA:=[⟨S 21,N,v (l (.agg 2) (s 3))⟩,⟨S 22,N,v (m (s 1))⟩,⟨S 23,N,k 9 [s 21,(c (I j 3)),s 22]⟩,⟨S 20,N,v (m (s 23))⟩,⟨S 24,N,v (q (s 20) 0)⟩,⟨S 25,N,v (q (s 20) 1)⟩,⟨S 7,N,v (m (s 24))⟩,⟨S 8,N,v (m (s 25))⟩]
abbrev g1r6:List aA:=[⟨S 26,N,v (m (s 8))⟩,⟨S 27,N,v (e true (.iface true) (s 26) (c .nilIface))⟩]
abbrev g1r7:List aA:=[⟨S 28,N,v (m (s 7))⟩,⟨S 29,N,v (e false .ptr (s 28) (c .nilPtr))⟩,⟨S 6,N,v (m (s 29))⟩]
abbrev corollarylaw24_FrontSettles_r8:List aA:=[⟨S 30,N,v (m (s 2))⟩,⟨S 31,N,v (w (s 30))⟩,⟨S 32,N,v (m (c (I j 0)))⟩]
abbrev g1r9:List aA:=[⟨S 33,N,v (b .lss (s 32) (s 31))⟩]
abbrev g1r10:List aA:=[⟨S 34,N,v (i (.agg 7) (s 30) (s 32))⟩,⟨S 35,N,v (l (.agg 7) (s 34))⟩,⟨S 10,N,x (.agg 7) (c (.agg [(.bool false),(I j 0),(I j 0),(I j 0),(I j 0),(I j 0),(.sl (.agg 3) .nil [])]))⟩,⟨N,N,t (.agg 7) (s 10) (s 35)⟩]
abbrev g1r11:List aA:=[⟨S 36,N,v (f 0 (s 10))⟩,⟨S 37,N,v (l F (s 36))⟩,⟨S 38,N,v (.not (s 37))⟩]
abbrev corollarylaw24_FrontSettles_r12:List aA:=[⟨S 39,N,v (m (s 7))⟩,⟨S 40,N,v (f 1 (s 10))⟩,⟨S 41,N,v (l F (s 40))⟩,⟨S 42,N,v (f 3 (s 10))⟩,⟨S 43,N,v (l (.agg 3) (s 42))⟩,⟨S 44,N,v (f 6 (s 10))⟩,⟨S 45,N,v (l F (s 44))⟩,⟨S 46,N,k 11 [s 39,s 41,s 43,s 45]⟩,⟨S 8,N,v (m (s 46))⟩]
abbrev g1r13:List aA:=[⟨S 47,N,v (m (s 8))⟩,⟨S 48,N,v (e true (.iface true) (s 47) (c .nilIface))⟩,⟨S 49,N,v (m (s 48))⟩,⟨S 50,S (49,true),v (m (s 8))⟩,⟨S 51,S (49,true),k 25 [s 50]⟩,⟨S 52,S (49,true),v (b .lss (s 51) (c (I j 1)))⟩,⟨S 53,N,v (p (s 49) (s 52) (c (.bool false)))⟩]
abbrev g1r14:List aA:=[⟨S 6,N,v (m (c (.bool false)))⟩]
abbrev g1r15:List aA:=[⟨S 54,N,v (b .add (s 32) (c (I j 1)))⟩,⟨S 32,N,v (m (s 54))⟩]
abbrev corollarylaw24_FrontSettles_l0:bE:=(Q (O g1r9) (Q (C (s 33) Z (X 0)) (Q (K 1 (Q (O g1r10) (Q (Q (O g1r11) (C (s 38) (O corollarylaw24_FrontSettles_r12) Z)) (Q (O g1r13) (C (s 53) (Q (O g1r14) .ret) Z))))) (O g1r15))))
abbrev corollarylaw24_FrontSettles_r16:List aA:=[⟨S 55,N,v (m (c (I j 0)))⟩]
abbrev g1r17:List aA:=[⟨S 56,N,v (b .lss (s 55) (c (I j 3)))⟩]
abbrev g1r18:List aA:=[⟨S 57,N,v (m (s 55))⟩,⟨S 11,N,v (m (s 57))⟩]
abbrev g1r19:List aA:=[⟨S 58,N,v (m (c (I j 0)))⟩]
abbrev g1r20:List aA:=[⟨S 59,N,v (b .lss (s 58) (c (I j 3)))⟩]
abbrev g1r21:List aA:=[⟨S 60,N,v (m (s 58))⟩,⟨S 12,N,v (m (s 60))⟩]
abbrev g1r22:List aA:=[⟨S 61,N,v (m (s 7))⟩,⟨S 62,N,v (m (s 11))⟩,⟨S 63,N,v (m (s 12))⟩,⟨S 64,N,k 26 [s 61,s 62,s 63]⟩,⟨S 65,N,v (m (c (I j 0)))⟩]
abbrev g1r23:List aA:=[⟨S 66,N,v (b .lss (s 65) (s 64))⟩]
abbrev g1r24:List aA:=[⟨S 67,N,v (m (s 7))⟩,⟨S 68,N,v (m (s 11))⟩,⟨S 69,N,v (m (s 12))⟩,⟨S 70,N,k 10 [s 67,s 68,s 69]⟩,⟨S 71,N,v (e true (.iface true) (s 70) (c .nilIface))⟩]
abbrev g1r25:List aA:=[⟨S 6,N,v (m (c (.bool false)))⟩]
abbrev g1r26:List aA:=[⟨S 72,N,v (b .add (s 65) (c (I j 1)))⟩,⟨S 65,N,v (m (s 72))⟩]
abbrev g1l1:bE:=(Q (O g1r23) (Q (C (s 66) Z (X 6)) (Q (K 7 (Q (O g1r24) (C (s 71) (Q (O g1r25) .ret) Z))) (O g1r26))))
abbrev g1r27:List aA:=[⟨S 73,N,v (b .add (s 58) (c (I j 1)))⟩,⟨S 58,N,v (m (s 73))⟩]
abbrev g1l2:bE:=(Q (O g1r20) (Q (C (s 59) Z (X 4)) (Q (K 5 (Q (O g1r21) (Q (O g1r22) (K 6 (R g1l1))))) (O g1r27))))
abbrev g1r28:List aA:=[⟨S 74,N,v (b .add (s 55) (c (I j 1)))⟩,⟨S 55,N,v (m (s 74))⟩]
abbrev corollarylaw24_FrontSettles_l3:bE:=(Q (O g1r17) (Q (C (s 56) Z (X 2)) (Q (K 3 (Q (O g1r18) (Q (O g1r19) (K 4 (R g1l2))))) (O g1r28))))
abbrev corollarylaw24_FrontSettles_r29:List aA:=[⟨S 75,N,v (m (c (I j 0)))⟩]
abbrev g1r30:List aA:=[⟨S 76,N,v (b .lss (s 75) (c (I j 3)))⟩]
abbrev g1r31:List aA:=[⟨S 77,N,v (m (s 75))⟩,⟨S 13,N,v (m (s 77))⟩]
abbrev g1r32:List aA:=[⟨S 78,N,v (m (s 7))⟩,⟨S 79,N,v (m (s 13))⟩,⟨S 80,N,k 28 [s 78,s 79]⟩,⟨S 81,N,v (m (s 7))⟩,⟨S 82,N,k 19 [s 81]⟩,⟨S 83,N,k 27 [s 80,s 82]⟩,⟨S 84,N,v (.not (s 83))⟩]
abbrev g1r33:List aA:=[⟨S 6,N,v (m (c (.bool false)))⟩]
abbrev g1r34:List aA:=[⟨S 85,N,v (b .add (s 75) (c (I j 1)))⟩,⟨S 75,N,v (m (s 85))⟩]
abbrev corollarylaw24_FrontSettles_l4:bE:=(Q (O g1r30) (Q (C (s 76) Z (X 8)) (Q (K 9 (Q (O g1r31) (Q (O g1r32) (C (s 84) (Q (O g1r33) .ret) Z)))) (O g1r34))))
abbrev corollarylaw24_FrontSettles_r35:List aA:=[⟨S 86,N,v (m (s 7))⟩,⟨S 87,N,k 17 [s 86]⟩,⟨S 6,N,v (m (s 87))⟩]
def corollarylaw24_FrontSettles:LFn:=⟨(Q (O g1r0) (Q (Q (O g1r1) (C (s 15) (Q (O g1r2) .ret) Z)) (Q (Q (O g1r3) (C (s 19) (Q (O g1r4) .ret) Z)) (Q (O g1r5) (Q (Q (O g1r6) (C (s 27) (Q (O g1r7) .ret) Z)) (Q (Q (O corollarylaw24_FrontSettles_r8) (K 0 (R corollarylaw24_FrontSettles_l0))) (Q (Q (O corollarylaw24_FrontSettles_r16) (K 2 (R corollarylaw24_FrontSettles_l3))) (Q (Q (O corollarylaw24_FrontSettles_r29) (K 8 (R corollarylaw24_FrontSettles_l4))) (Q (O corollarylaw24_FrontSettles_r35) .ret))))))))),88,[.slot 6]⟩
theorem corollarylaw24_FrontSettles_low:aH Tryz.prog 5=some corollarylaw24_FrontSettles:=by kernel_rfl
abbrev g3r0:List aA:=[⟨S 0,N,v (m (c (.bool false)))⟩]
abbrev g3r1:List aA:=[⟨S 8,N,k 34 []⟩,⟨S 7,N,v (m (s 8))⟩,⟨S 9,N,v (q (s 7) 0)⟩,⟨S 10,N,v (q (s 7) 1)⟩,⟨S 11,N,v (q (s 7) 2)⟩,⟨S 12,N,v (q (s 7) 3)⟩,⟨S 2,N,x (.agg 3) (c (.agg [(I j 0),(I j 0),(I j 0)]))⟩,⟨S 3,N,x (.agg 3) (c (.agg [(I j 0),(I j 0),(I j 0)]))⟩,⟨S 1,N,v (m (s 9))⟩,⟨N,N,t (.agg 3) (s 2) (s 10)⟩,⟨N,N,t (.agg 3) (s 3) (s 11)⟩,⟨S 4,N,v (m (s 12))⟩]
abbrev g3r2:List aA:=[⟨S 13,N,v (m (s 4))⟩,⟨S 14,N,v (.not (s 13))⟩,⟨S 15,N,v (m (s 14))⟩,⟨S 16,S (15,false),v (m (s 1))⟩,⟨S 17,S (15,false),v (l (.agg 3) (s 2))⟩,⟨S 18,S (15,false),v (l (.agg 3) (s 3))⟩,⟨S 19,S (15,false),y (.agg 3) [s 18]⟩,⟨S 20,S (15,false),k 11 [s 16,(c (I j 0)),s 17,s 19]⟩,⟨S 21,S (15,false),v (e true (.iface true) (s 20) (c .nilIface))⟩,⟨S 22,N,v (p (s 15) (c (.bool true)) (s 21))⟩,⟨S 23,N,v (m (s 22))⟩,⟨S 24,S (23,false),v (m (s 1))⟩,⟨S 25,S (23,false),k 26 [s 24,(c (I j 0)),(c (I j 1))]⟩,⟨S 26,S (23,false),v (b .neq (s 25) (c (I j 1)))⟩,⟨S 27,N,v (p (s 23) (c (.bool true)) (s 26))⟩]
abbrev g3r3:List aA:=[⟨S 0,N,v (m (c (.bool false)))⟩]
abbrev g3r4:List aA:=[⟨S 28,N,v (m (s 1))⟩,⟨S 29,N,k 20 [s 28,(c (I j 1))]⟩,⟨S 5,N,v (m (s 29))⟩]
abbrev g3r5:List aA:=[⟨S 30,N,v (m (s 1))⟩,⟨S 31,N,k 10 [s 30,(c (I j 0)),(c (I j 1))]⟩,⟨S 32,N,v (e true (.iface true) (s 31) (c .nilIface))⟩,⟨S 33,N,v (m (s 32))⟩,⟨S 34,S (33,false),v (m (s 1))⟩,⟨S 35,S (33,false),k 17 [s 34]⟩,⟨S 36,S (33,false),v (.not (s 35))⟩,⟨S 37,N,v (p (s 33) (c (.bool true)) (s 36))⟩]
abbrev g3r6:List aA:=[⟨S 0,N,v (m (c (.bool false)))⟩]
abbrev g3r7:List aA:=[⟨S 38,N,v (m (s 1))⟩,⟨S 39,N,k 20 [s 38,(c (I j 1))]⟩,⟨S 6,N,v (m (s 39))⟩]
abbrev g3r8:List (aA×List Nat):=[(⟨S 40,N,v (m (s 5))⟩,[]),(⟨S 41,N,v (w (s 40))⟩,[0]),(⟨S 42,N,v (b .eql (s 41) (c (I j 2)))⟩,[0,1]),(⟨S 43,N,v (m (s 42))⟩,[0,1,2]),(⟨S 44,S (43,true),v (m (s 6))⟩,[0,1,2,3]),(⟨S 45,S (43,true),v (w (s 44))⟩,[0,1,2,3,4]),(⟨S 46,S (43,true),v (b .eql (s 45) (c (I j 2)))⟩,[0,1,2,3,4,5]),(⟨S 47,N,v (p (s 43) (s 46) (c (.bool false)))⟩,[0,1,2,3,4,5,6]),(⟨S 48,N,v (m (s 47))⟩,[0,1,2,3,4,5,6,7]),(⟨S 49,S (48,true),v (m (s 5))⟩,[0,1,2,3,4,5,6,7,8]),(⟨S 50,S (48,true),v (i F (s 49) (c (I j 1)))⟩,[0,1,2,3,4,5,6,7,8,9]),(⟨S 51,S (48,true),v (l F (s 50))⟩,[0,1,2,3,4,5,6,7,8,9,10]),(⟨S 52,S (48,true),v (w (s 51))⟩,[0,1,2,3,4,5,6,7,8,9,10,11]),(⟨S 53,S (48,true),v (b .eql (s 52) (c (I j 1)))⟩,[0,1,2,3,4,5,6,7,8,9,10,11,12]),(⟨S 54,N,v (p (s 48) (s 53) (c (.bool false)))⟩,[0,1,2,3,4,5,6,7,8,9,10,11,12,13]),(⟨S 55,N,v (m (s 54))⟩,[0,1,2,3,4,5,6,7,8,9,10,11,12,13,14]),(⟨S 56,S (55,true),v (m (s 6))⟩,[0,1,2,3,4,5,6,7,8,9,10,11,12,13,14,15]),(⟨S 57,S (55,true),v (i F (s 56) (c (I j 1)))⟩,[0,1,2,3,4,5,6,7,8,9,10,11,12,13,14,15,16]),(⟨S 58,S (55,true),v (l F (s 57))⟩,[0,1,2,3,4,5,6,7,8,9,10,11,12,13,14,15,16,17]),(⟨S 59,S (55,true),v (w (s 58))⟩,[0,1,2,3,4,5,6,7,8,9,10,11,12,13,14,15,16,17,18]),(⟨S 60,S (55,true),v (b .eql (s 59) (c (I j 1)))⟩,[0,1,2,3,4,5,6,7,8,9,10,11,12,13,14,15,16,17,18,19]),(⟨S 61,N,v (p (s 55) (s 60) (c (.bool false)))⟩,[0,1,2,3,4,5,6,7,8,9,10,11,12,13,14,15,16,17,18,19,20]),(⟨S 62,N,v (m (s 61))⟩,[0,1,2,3,4,5,6,7,8,9,10,11,12,13,14,15,16,17,18,19,20,21]),(⟨S 63,S (62,true),v (m (s 5))⟩,[0,1,2,3,4,5,6,7,8,9,10,11,12,13,14,15,16,17,18,19,20,21,22]),(⟨S 64,S (62,true),v (i F (s 63) (c (I j 1)))⟩,[0,1,2,3,4,5,6,7,8,9,10,11,12,13,14,15,16,17,18,19,20,21,22,23]),(⟨S 65,S (62,true),v (l F (s 64))⟩,[0,1,2,3,4,5,6,7,8,9,10,11,12,13,14,15,16,17,18,19,20,21,22,23,24]),(⟨S 66,S (62,true),v (i (.agg 2) (s 65) (c (I j 0)))⟩,[0,1,2,3,4,5,6,7,8,9,10,11,12,13,14,15,16,17,18,19,20,21,22,23,24,25]),(⟨S 67,S (62,true),v (l (.agg 2) (s 66))⟩,[0,1,2,3,4,5,6,7,8,9,10,11,12,13,14,15,16,17,18,19,20,21,22,23,24,25,26]),(⟨S 68,S (62,true),v (f 1 (s 3))⟩,[0,1,2,3,4,5,6,7,8,9,10,11,12,13,14,15,16,17,18,19,20,21,22]),(⟨S 69,S (62,true),v (l (.agg 2) (s 68))⟩,[0,1,2,3,4,5,6,7,8,9,10,11,12,13,14,15,16,17,18,19,20,21,22,28]),(⟨S 70,S (62,true),v (e false (.plain (.agg 2) [.int,.int]) (s 67) (s 69))⟩,[0,1,2,3,4,5,6,7,8,9,10,11,12,13,14,15,16,17,18,19,20,21,22,23,24,25,26,27,28,29]),(⟨S 71,N,v (p (s 62) (s 70) (c (.bool false)))⟩,[0,1,2,3,4,5,6,7,8,9,10,11,12,13,14,15,16,17,18,19,20,21,22,23,24,25,26,27,28,29,30]),(⟨S 72,N,v (m (s 71))⟩,[0,1,2,3,4,5,6,7,8,9,10,11,12,13,14,15,16,17,18,19,20,21,22,23,24,25,26,27,28,29,30,31]),(⟨S 73,S (72,true),v (m (s 6))⟩,[0,1,2,3,4,5,6,7,8,9,10,11,12,13,14,15,16,17,18,19,20,21,22,23,24,25,26,27,28,29,30,31,32]),(⟨S 74,S (72,true),v (i F (s 73) (c (I j 1)))⟩,[0,1,2,3,4,5,6,7,8,9,10,11,12,13,14,15,16,17,18,19,20,21,22,23,24,25,26,27,28,29,30,31,32,33]),(⟨S 75,S (72,true),v (l F (s 74))⟩,[0,1,2,3,4,5,6,7,8,9,10,11,12,13,14,15,16,17,18,19,20,21,22,23,24,25,26,27,28,29,30,31,32,33,34]),(⟨S 76,S (72,true),v (i (.agg 2) (s 75) (c (I j 0)))⟩,[0,1,2,3,4,5,6,7,8,9,10,11,12,13,14,15,16,17,18,19,20,21,22,23,24,25,26,27,28,29,30,31,32,33,34,35]),(⟨S 77,S (72,true),v (l (.agg 2) (s 76))⟩,[0,1,2,3,4,5,6,7,8,9,10,11,12,13,14,15,16,17,18,19,20,21,22,23,24,25,26,27,28,29,30,31,32,33,34,35,36]),(⟨S 78,S (72,true),v (f 1 (s 3))⟩,[0,1,2,3,4,5,6,7,8,9,10,11,12,13,14,15,16,17,18,19,20,21,22,23,24,25,26,27,28,29,30,31,32]),(⟨S 79,S (72,true),v (l (.agg 2) (s 78))⟩,[0,1,2,3,4,5,6,7,8,9,10,11,12,13,14,15,16,17,18,19,20,21,22,23,24,25,26,27,28,29,30,31,32,38]),(⟨S 80,S (72,true),v (e false (.plain (.agg 2) [.int,.int]) (s 77) (s 79))⟩,[0,1,2,3,4,5,6,7,8,9,10,11,12,13,14,15,16,17,18,19,20,21,22,23,24,25,26,27,28,29,30,31,32,33,34,35,36,37,38,39]),(⟨S 81,N,v (p (s 72) (s 80) (c (.bool false)))⟩,[0,1,2,3,4,5,6,7,8,9,10,11,12,13,14,15,16,17,18,19,20,21,22,23,24,25,26,27,28,29,30,31,32,33,34,35,36,37,38,39,40]),(⟨S 82,N,v (m (s 81))⟩,[0,1,2,3,4,5,6,7,8,9,10,11,12,13,14,15,16,17,18,19,20,21,22,23,24,25,26,27,28,29,30,31,32,33,34,35,36,37,38,39,40,41]),(⟨S 83,S (82,true),v (m (s 6))⟩,[0,1,2,3,4,5,6,7,8,9,10,11,12,13,14,15,16,17,18,19,20,21,22,23,24,25,26,27,28,29,30,31,32,33,34,35,36,37,38,39,40,41,42]),(⟨S 84,S (82,true),v (i F (s 83) (c (I j 0)))⟩,[0,1,2,3,4,5,6,7,8,9,10,11,12,13,14,15,16,17,18,19,20,21,22,23,24,25,26,27,28,29,30,31,32,33,34,35,36,37,38,39,40,41,42,43]),(⟨S 85,S (82,true),v (l F (s 84))⟩,[0,1,2,3,4,5,6,7,8,9,10,11,12,13,14,15,16,17,18,19,20,21,22,23,24,25,26,27,28,29,30,31,32,33,34,35,36,37,38,39,40,41,42,43,44]),(⟨S 86,S (82,true),v (w (s 85))⟩,[0,1,2,3,4,5,6,7,8,9,10,11,12,13,14,15,16,17,18,19,20,21,22,23,24,25,26,27,28,29,30,31,32,33,34,35,36,37,38,39,40,41,42,43,44,45]),(⟨S 87,S (82,true),v (b .eql (s 86) (c (I j 0)))⟩,[0,1,2,3,4,5,6,7,8,9,10,11,12,13,14,15,16,17,18,19,20,21,22,23,24,25,26,27,28,29,30,31,32,33,34,35,36,37,38,39,40,41,42,43,44,45,46]),(⟨S 88,N,v (p (s 82) (s 87) (c (.bool false)))⟩,[0,1,2,3,4,5,6,7,8,9,10,11,12,13,14,15,16,17,18,19,20,21,22,23,24,25,26,27,28,29,30,31,32,33,34,35,36,37,38,39,40,41,42,43,44,45,46,47]),(⟨S 0,N,v (m (s 88))⟩,[0,1,2,3,4,5,6,7,8,9,10,11,12,13,14,15,16,17,18,19,20,21,22,23,24,25,26,27,28,29,30,31,32,33,34,35,36,37,38,39,40,41,42,43,44,45,46,47,48])]
abbrev g3r8t:List aA:=[]
def corollarylaw24_alive:LFn:=⟨(Q (O g3r0) (Q (O g3r1) (Q (Q (O g3r2) (C (s 27) (Q (O g3r3) .ret) Z)) (Q (O g3r4) (Q (Q (O g3r5) (C (s 37) (Q (O g3r6) .ret) Z)) (Q (O g3r7) (Q (D 50 g3r8 g3r8t) .ret))))))),89,[.slot 0]⟩
theorem corollarylaw24_alive_low:aH Tryz.prog 7=some corollarylaw24_alive:=by kernel_rfl
abbrev g4r0:List aA:=[⟨S 3,N,x (.agg 2) (s 0)⟩,⟨S 6,N,v (m (c (.bool false)))⟩]
abbrev g4r1:List aA:=[⟨S 9,N,v (l (.agg 2) (s 3))⟩,⟨S 10,N,k 13 [s 9]⟩,⟨S 11,N,v (m (s 10))⟩,⟨S 12,S (11,false),v (m (s 1))⟩,⟨S 13,S (11,false),v (w (s 12))⟩,⟨S 14,S (11,false),v (b .gtr (s 13) (c (I j 10)))⟩,⟨S 15,N,v (p (s 11) (c (.bool true)) (s 14))⟩,⟨S 16,N,v (m (s 15))⟩,⟨S 17,S (16,false),v (m (s 2))⟩,⟨S 18,S (16,false),v (w (s 17))⟩,⟨S 19,S (16,false),v (b .gtr (s 18) (c (I j 30)))⟩,⟨S 20,N,v (p (s 16) (c (.bool true)) (s 19))⟩]
abbrev g4r2:List aA:=[⟨S 6,N,v (m (c (.bool true)))⟩]
abbrev g4r3:List aA:=[⟨S 21,N,v (m (s 2))⟩,⟨S 22,N,v (w (s 21))⟩,⟨S 23,N,v (m (c (I j 0)))⟩]
abbrev g4r4:List aA:=[⟨S 24,N,v (b .lss (s 23) (s 22))⟩]
abbrev g4r5:List aA:=[⟨S 25,N,v (i (.agg 7) (s 21) (s 23))⟩,⟨S 26,N,v (l (.agg 7) (s 25))⟩,⟨S 8,N,x (.agg 7) (c (.agg [(.bool false),(I j 0),(I j 0),(I j 0),(I j 0),(I j 0),(.sl (.agg 3) .nil [])]))⟩,⟨N,N,t (.agg 7) (s 8) (s 26)⟩]
abbrev g4r6:List aA:=[⟨S 27,N,v (f 6 (s 8))⟩,⟨S 28,N,v (l F (s 27))⟩,⟨S 29,N,v (w (s 28))⟩,⟨S 30,N,v (b .gtr (s 29) (c (I j 6)))⟩]
abbrev g4r7:List aA:=[⟨S 6,N,v (m (c (.bool true)))⟩]
abbrev g4r8:List aA:=[⟨S 31,N,v (b .add (s 23) (c (I j 1)))⟩,⟨S 23,N,v (m (s 31))⟩]
abbrev g4l0:bE:=(Q (O g4r4) (Q (C (s 24) Z (X 0)) (Q (K 1 (Q (O g4r5) (Q (O g4r6) (C (s 30) (Q (O g4r7) .ret) Z)))) (O g4r8))))
abbrev g4r9:List aA:=[⟨S 6,N,v (m (c (.bool false)))⟩]
def corollarylaw24_large:LFn:=⟨(Q (O g4r0) (Q (Q (O g4r1) (C (s 20) (Q (O g4r2) .ret) Z)) (Q (Q (O g4r3) (K 0 (R g4l0))) (Q (O g4r9) .ret)))),32,[.slot 6]⟩
theorem corollarylaw24_large_low:aH Tryz.prog 8=some corollarylaw24_large:=by kernel_rfl
abbrev g5r0:List aA:=[⟨S 3,N,x (.agg 2) (s 0)⟩,⟨S 6,N,v (m (c .nilPtr))⟩,⟨S 7,N,v (m (c .nilIface))⟩]
abbrev g5r1:List aA:=[⟨S 13,N,v (l (.agg 2) (s 3))⟩,⟨S 14,N,k 35 [s 13]⟩,⟨S 12,N,v (m (s 14))⟩,⟨S 15,N,v (q (s 12) 0)⟩,⟨S 16,N,v (q (s 12) 1)⟩,⟨S 8,N,v (m (s 15))⟩,⟨S 9,N,v (m (s 16))⟩]
abbrev g5r2:List aA:=[⟨S 18,N,v (m (s 9))⟩,⟨S 19,N,v (e true (.iface true) (s 18) (c .nilIface))⟩,⟨S 17,N,v (m (s 19))⟩]
abbrev g5r3:List aA:=[⟨S 20,N,v (.mkif 64 (c (I j 2)))⟩,⟨S 6,N,v (m (c .nilPtr))⟩,⟨S 7,N,v (m (s 20))⟩]
abbrev g5r4:List aA:=[⟨S 22,N,v (m (s 1))⟩,⟨S 23,N,v (b .lss (s 22) (c (I j 1)))⟩,⟨S 24,N,v (m (s 23))⟩,⟨S 25,S (24,false),v (m (s 1))⟩,⟨S 26,S (24,false),v (b .gtr (s 25) (c (I j 17)))⟩,⟨S 27,N,v (p (s 24) (c (.bool true)) (s 26))⟩,⟨S 21,N,v (m (s 27))⟩]
abbrev g5r5:List aA:=[⟨S 28,N,v (.mkif 64 (c (I j 1)))⟩,⟨S 6,N,v (m (c .nilPtr))⟩,⟨S 7,N,v (m (s 28))⟩]
abbrev g5r6:List aA:=[⟨S 29,N,v (m (s 8))⟩,⟨S 30,N,v (m (s 2))⟩,⟨S 31,N,k 37 [s 30,(c (I j 1))]⟩,⟨S 32,N,k 36 [s 29,s 31]⟩,⟨S 10,N,v (m (s 32))⟩]
abbrev g5r7:List aA:=[⟨S 33,N,v (m (s 10))⟩,⟨S 34,N,v (e true (.iface true) (s 33) (c .nilIface))⟩]
abbrev g5r8:List aA:=[⟨S 35,N,v (m (s 10))⟩,⟨S 6,N,v (m (c .nilPtr))⟩,⟨S 7,N,v (m (s 35))⟩]
abbrev g5r9:List aA:=[⟨S 36,N,v (l (.agg 2) (s 3))⟩,⟨S 37,N,k 38 [s 36]⟩,⟨S 38,N,v (m (s 8))⟩,⟨S 39,N,.mp (.mk)⟩,⟨S 40,N,v (.build [(.sl F .nil []),.nilPtr,(.sl F .nil []),.nilMap] [(0,F,(s 37)),(1,F,(s 38)),(3,F,(s 39))])⟩,⟨S 41,N,x (.agg 4) (s 40)⟩,⟨S 11,N,v (m (s 41))⟩]
abbrev g5r10:List aA:=[⟨S 42,N,v (m (s 1))⟩,⟨S 43,N,v (m (c (I j 0)))⟩]
abbrev g5r11:List aA:=[⟨S 44,N,v (b .lss (s 43) (s 42))⟩]
abbrev front_New_r12:List (aA×List Nat):=[(⟨S 45,N,v (m (s 11))⟩,[]),(⟨S 46,N,v (m (s 11))⟩,[]),(⟨S 47,N,v (n (s 46))⟩,[1]),(⟨S 48,N,v (f 2 (s 47))⟩,[1,2]),(⟨S 49,N,v (l F (s 48))⟩,[1,2,3]),(⟨S 50,N,v (m (s 8))⟩,[]),(⟨S 51,N,k 39 [s 50]⟩,[5]),(⟨S 52,N,y F [s 51]⟩,[5,6]),(⟨S 53,N,a F 8 (s 49) (s 52)⟩,[1,2,3,4,5,6,7]),(⟨S 54,N,v (n (s 45))⟩,[0,1,2,3,4,5,6,7,8]),(⟨S 55,N,v (f 2 (s 54))⟩,[0,1,2,3,4,5,6,7,8,9])]
abbrev front_New_r12t:List aA:=[⟨N,N,t F (s 55) (s 53)⟩]
abbrev g5r13:List aA:=[⟨S 56,N,v (b .add (s 43) (c (I j 1)))⟩,⟨S 43,N,v (m (s 56))⟩]
abbrev front_New_l0:bE:=(Q (O g5r11) (Q (C (s 44) Z (X 1)) (Q (K 2 (D 11 front_New_r12 front_New_r12t)) (O g5r13))))
abbrev g5r14:List aA:=[⟨S 57,N,v (m (s 11))⟩,⟨S 6,N,v (m (s 57))⟩,⟨S 7,N,v (m (c .nilIface))⟩]
def front_New:LFn:=⟨(Q (O g5r0) (Q (O g5r1) (Q (K 0 (Q (O g5r2) (C (s 17) (Q (O g5r3) .ret) (Q (O g5r4) (C (s 21) (Q (O g5r5) .ret) Z))))) (Q (Q (O g5r6) (Q (O g5r7) (C (s 34) (Q (O g5r8) .ret) Z))) (Q (O g5r9) (Q (Q (O g5r10) (K 1 (R front_New_l0))) (Q (O g5r14) .ret))))))),58,[.slot 6,.slot 7]⟩
theorem front_New_low:aH Tryz.prog 9=some front_New:=by kernel_rfl
abbrev g6r0:List aA:=[⟨S 6,N,v (m (c .nilIface))⟩]
abbrev g6r1:List aA:=[⟨S 10,N,v (m (s 0))⟩,⟨S 11,N,v (e false .ptr (s 10) (c .nilPtr))⟩,⟨S 9,N,v (m (s 11))⟩]
abbrev g6r2:List aA:=[⟨S 12,N,v (.mkif 64 (c (I j 13)))⟩,⟨S 6,N,v (m (s 12))⟩]
abbrev g6r3:List aA:=[⟨S 14,N,v (m (s 0))⟩,⟨S 15,N,v (m (s 1))⟩,⟨S 16,N,k 40 [s 14,s 15]⟩,⟨S 17,N,v (.not (s 16))⟩,⟨S 18,N,v (m (s 17))⟩,⟨S 19,S (18,false),v (m (s 0))⟩,⟨S 20,S (18,false),v (m (s 2))⟩,⟨S 21,S (18,false),k 40 [s 19,s 20]⟩,⟨S 22,S (18,false),v (.not (s 21))⟩,⟨S 23,N,v (p (s 18) (c (.bool true)) (s 22))⟩,⟨S 24,N,v (m (s 23))⟩,⟨S 25,S (24,false),v (m (s 1))⟩,⟨S 26,S (24,false),v (m (s 2))⟩,⟨S 27,S (24,false),v (b .eql (s 25) (s 26))⟩,⟨S 28,N,v (p (s 24) (c (.bool true)) (s 27))⟩,⟨S 13,N,v (m (s 28))⟩]
abbrev g6r4:List aA:=[⟨S 29,N,v (.mkif 64 (c (I j 1)))⟩,⟨S 6,N,v (m (s 29))⟩]
abbrev g6r5:List aA:=[⟨S 30,N,v (m (s 1))⟩,⟨S 31,N,v (m (s 2))⟩,⟨S 32,N,v (.build [(I j 0),(I j 0)] [(0,F,(s 30)),(1,F,(s 31))])⟩,⟨S 7,N,x (.agg 2) (c (.agg [(I j 0),(I j 0)]))⟩,⟨N,N,t (.agg 2) (s 7) (s 32)⟩]
abbrev g6r6:List (aA×List Nat):=[(⟨S 33,N,v (m (s 0))⟩,[]),(⟨S 34,N,v (n (s 33))⟩,[0]),(⟨S 35,N,v (f 3 (s 34))⟩,[0,1]),(⟨S 36,N,v (l F (s 35))⟩,[0,1,2]),(⟨S 37,N,v (l (.agg 2) (s 7))⟩,[]),(⟨S 38,N,v (.mget (.agg 2) [.int,.int] (.sl F .nil []) false (s 36) (s 37))⟩,[0,1,2,3,4]),(⟨S 39,N,v (w (s 38))⟩,[0,1,2,3,4,5]),(⟨S 40,N,v (b .eql (s 39) (c (I j 0)))⟩,[0,1,2,3,4,5,6])]
abbrev g6r6t:List aA:=[]
abbrev g6r7:List aA:=[⟨S 41,N,v (.mkif 64 (c (I j 13)))⟩,⟨S 6,N,v (m (s 41))⟩]
abbrev g6r8:List (aA×List Nat):=[(⟨S 42,N,v (m (s 0))⟩,[]),(⟨S 43,N,v (n (s 42))⟩,[0]),(⟨S 44,N,v (f 3 (s 43))⟩,[0,1]),(⟨S 45,N,v (l F (s 44))⟩,[0,1,2]),(⟨S 46,N,v (l (.agg 2) (s 7))⟩,[]),(⟨S 47,N,v (.mget (.agg 2) [.int,.int] (.sl F .nil []) false (s 45) (s 46))⟩,[0,1,2,3,4]),(⟨S 48,N,v (i F (s 47) (c (I j 0)))⟩,[0,1,2,3,4,5]),(⟨S 49,N,v (l F (s 48))⟩,[0,1,2,3,4,5,6]),(⟨S 8,N,v (m (s 49))⟩,[0,1,2,3,4,5,6,7])]
abbrev g6r8t:List aA:=[]
abbrev g6r9:List (aA×List Nat):=[(⟨S 50,N,v (m (s 0))⟩,[]),(⟨S 51,N,v (n (s 50))⟩,[0]),(⟨S 52,N,v (f 3 (s 51))⟩,[0,1]),(⟨S 53,N,v (l F (s 52))⟩,[0,1,2]),(⟨S 54,N,v (l (.agg 2) (s 7))⟩,[]),(⟨S 55,N,v (m (s 0))⟩,[]),(⟨S 56,N,v (n (s 55))⟩,[5]),(⟨S 57,N,v (f 3 (s 56))⟩,[5,6]),(⟨S 58,N,v (l F (s 57))⟩,[5,6,7]),(⟨S 59,N,v (l (.agg 2) (s 7))⟩,[]),(⟨S 60,N,v (.mget (.agg 2) [.int,.int] (.sl F .nil []) false (s 58) (s 59))⟩,[5,6,7,8,9]),(⟨S 61,N,v (.slc F (s 60) (.some (c (I j 1))) .none .none)⟩,[5,6,7,8,9,10])]
abbrev g6r9t:List aA:=[⟨N,N,.mp (.put (.agg 2) [.int,.int] (s 53) (s 54) (s 61))⟩]
abbrev g6r10:List (aA×List Nat):=[(⟨S 62,N,v (m (s 0))⟩,[]),(⟨S 63,N,v (n (s 62))⟩,[0]),(⟨S 64,N,v (f 3 (s 63))⟩,[0,1]),(⟨S 65,N,v (l F (s 64))⟩,[0,1,2]),(⟨S 66,N,v (l (.agg 2) (s 7))⟩,[]),(⟨S 67,N,v (.mget (.agg 2) [.int,.int] (.sl F .nil []) false (s 65) (s 66))⟩,[0,1,2,3,4]),(⟨S 68,N,v (w (s 67))⟩,[0,1,2,3,4,5]),(⟨S 69,N,v (b .eql (s 68) (c (I j 0)))⟩,[0,1,2,3,4,5,6])]
abbrev g6r10t:List aA:=[]
abbrev g6r11:List (aA×List Nat):=[(⟨S 70,N,v (m (s 0))⟩,[]),(⟨S 71,N,v (n (s 70))⟩,[0]),(⟨S 72,N,v (f 3 (s 71))⟩,[0,1]),(⟨S 73,N,v (l F (s 72))⟩,[0,1,2]),(⟨S 74,N,v (l (.agg 2) (s 7))⟩,[])]
abbrev g6r11t:List aA:=[⟨N,N,.mp (.del (.agg 2) [.int,.int] (s 73) (s 74))⟩]
abbrev front_World_Deliver_r12:List aA:=[⟨S 75,N,v (m (s 0))⟩,⟨S 76,N,v (n (s 75))⟩,⟨S 77,N,v (f 2 (s 76))⟩,⟨S 78,N,v (l F (s 77))⟩,⟨S 79,N,v (m (s 2))⟩,⟨S 80,N,v (i F (s 78) (s 79))⟩,⟨S 81,N,v (l F (s 80))⟩,⟨S 82,N,v (m (s 8))⟩,⟨S 83,N,k 36 [s 81,s 82]⟩,⟨S 6,N,v (m (s 83))⟩]
def front_World_Deliver:LFn:=⟨(Q (O g6r0) (Q (K 0 (Q (O g6r1) (C (s 9) (Q (O g6r2) .ret) (Q (O g6r3) (C (s 13) (Q (O g6r4) .ret) Z))))) (Q (O g6r5) (Q (Q (D 8 g6r6 g6r6t) (C (s 40) (Q (O g6r7) .ret) Z)) (Q (D 9 g6r8 g6r8t) (Q (D 12 g6r9 g6r9t) (Q (Q (D 8 g6r10 g6r10t) (C (s 69) (D 5 g6r11 g6r11t) Z)) (Q (O front_World_Deliver_r12) .ret)))))))),84,[.slot 6]⟩
theorem front_World_Deliver_low:aH Tryz.prog 10=some front_World_Deliver:=by kernel_rfl
abbrev g7r0:List aA:=[⟨S 4,N,x F (s 0)⟩,⟨S 6,N,x (.agg 3) (s 2)⟩,⟨S 8,N,v (m (c .nilIface))⟩]
abbrev g7r1:List aA:=[⟨S 15,N,v (l F (s 4))⟩,⟨S 16,N,v (e false .ptr (s 15) (c .nilPtr))⟩]
abbrev g7r2:List aA:=[⟨S 17,N,v (.mkif 64 (c (I j 13)))⟩,⟨S 8,N,v (m (s 17))⟩]
abbrev g7r3:List aA:=[⟨S 18,N,v (.mkfn (.func 41) [] [s 4,s 6])⟩,⟨S 9,N,v (m (s 18))⟩]
abbrev g7r4:List aA:=[⟨S 20,N,v (l F (s 4))⟩,⟨S 21,N,v (m (s 1))⟩,⟨S 22,N,k 40 [s 20,s 21]⟩,⟨S 23,N,v (.not (s 22))⟩,⟨S 19,N,v (m (s 23))⟩]
abbrev g7r5:List aA:=[⟨S 24,N,v (.mkif 64 (c (I j 1)))⟩,⟨S 8,N,v (m (s 24))⟩]
abbrev g7r6:List (aA×List Nat):=[(⟨S 26,N,v (l F (s 4))⟩,[]),(⟨S 27,N,v (n (s 26))⟩,[0]),(⟨S 28,N,v (f 1 (s 27))⟩,[0,1]),(⟨S 29,N,v (l F (s 28))⟩,[0,1,2]),(⟨S 30,N,v (l (.agg 3) (s 6))⟩,[]),(⟨S 31,N,k 43 [s 29,s 30]⟩,[0,1,2,3,4]),(⟨S 32,N,v (b .lss (s 31) (c (I j 1)))⟩,[0,1,2,3,4,5]),(⟨S 25,N,v (m (s 32))⟩,[0,1,2,3,4,5,6])]
abbrev g7r6t:List aA:=[]
abbrev g7r7:List aA:=[⟨S 33,N,v (.mkif 64 (c (I j 13)))⟩,⟨S 8,N,v (m (s 33))⟩]
abbrev g7r8:List aA:=[⟨S 35,N,v (m (s 3))⟩,⟨S 36,N,v (m (s 9))⟩,⟨S 37,N,k 44 [s 35,s 36]⟩,⟨S 34,N,v (m (s 37))⟩]
abbrev g7r9:List aA:=[⟨S 38,N,v (.mkif 64 (c (I j 2)))⟩,⟨S 8,N,v (m (s 38))⟩]
abbrev g7r10:List aA:=[⟨S 40,N,v (l F (s 4))⟩,⟨S 41,N,v (m (s 1))⟩,⟨S 42,N,k 45 [s 40,s 41]⟩,⟨S 39,N,v (m (s 42))⟩]
abbrev g7r11:List aA:=[⟨S 43,N,v (.mkif 64 (c (I j 11)))⟩,⟨S 8,N,v (m (s 43))⟩]
abbrev front_World_Do_r12:List (aA×List Nat):=[(⟨S 44,N,v (m (s 3))⟩,[]),(⟨S 45,N,k 37 [s 44,(c (I j 1))]⟩,[0]),(⟨S 46,N,v (l (.agg 3) (s 6))⟩,[]),(⟨S 47,N,v (.build [(I j 0),(I j 0),(I j 0),(I j 0)] [(0,(.agg 3),(s 46)),(3,F,(c (I j (-1))))])⟩,[2]),(⟨S 48,N,y (.agg 4) [s 47]⟩,[2,3]),(⟨S 49,N,a (.agg 4) 32 (s 45) (s 48)⟩,[0,1,2,3,4]),(⟨S 10,N,v (m (s 49))⟩,[0,1,2,3,4,5])]
abbrev front_World_Do_r12t:List aA:=[]
abbrev front_World_Do_r13:List aA:=[⟨S 50,N,v (l F (s 4))⟩,⟨S 51,N,v (n (s 50))⟩,⟨S 52,N,v (f 1 (s 51))⟩,⟨S 53,N,v (l F (s 52))⟩,⟨S 54,N,v (m (s 10))⟩,⟨S 55,N,k 36 [s 53,s 54]⟩,⟨S 11,N,v (m (s 55))⟩]
abbrev front_World_Do_r14:List aA:=[⟨S 56,N,v (m (s 11))⟩,⟨S 57,N,v (e true (.iface true) (s 56) (c .nilIface))⟩]
abbrev front_World_Do_r15:List aA:=[⟨S 58,N,v (m (s 11))⟩,⟨S 8,N,v (m (s 58))⟩]
abbrev front_World_Do_r16:List aA:=[⟨S 59,N,v (l F (s 4))⟩,⟨S 60,N,v (n (s 59))⟩,⟨S 61,N,v (f 2 (s 60))⟩,⟨S 62,N,v (l F (s 61))⟩,⟨S 63,N,v (w (s 62))⟩,⟨S 64,N,v (m (c (I j 0)))⟩]
abbrev g7r17:List aA:=[⟨S 65,N,v (b .lss (s 64) (s 63))⟩]
abbrev g7r18:List aA:=[⟨S 66,N,v (m (s 64))⟩,⟨S 67,N,v (i F (s 62) (s 64))⟩,⟨S 68,N,v (l F (s 67))⟩,⟨S 12,N,v (m (s 66))⟩,⟨S 13,N,v (m (s 68))⟩]
abbrev g7r19:List aA:=[⟨S 69,N,v (m (s 12))⟩,⟨S 70,N,v (m (s 1))⟩,⟨S 71,N,v (b .neq (s 69) (s 70))⟩]
abbrev g7r20:List (aA×List Nat):=[(⟨S 72,N,v (l F (s 4))⟩,[]),(⟨S 73,N,v (n (s 72))⟩,[0]),(⟨S 74,N,v (f 3 (s 73))⟩,[0,1]),(⟨S 75,N,v (l F (s 74))⟩,[0,1,2]),(⟨S 76,N,v (m (s 1))⟩,[]),(⟨S 77,N,v (m (s 12))⟩,[]),(⟨S 78,N,v (.build [(I j 0),(I j 0)] [(0,F,(s 76)),(1,F,(s 77))])⟩,[4,5]),(⟨S 79,N,v (l F (s 4))⟩,[]),(⟨S 80,N,v (n (s 79))⟩,[7]),(⟨S 81,N,v (f 3 (s 80))⟩,[7,8]),(⟨S 82,N,v (l F (s 81))⟩,[7,8,9]),(⟨S 83,N,v (m (s 1))⟩,[]),(⟨S 84,N,v (m (s 12))⟩,[]),(⟨S 85,N,v (.build [(I j 0),(I j 0)] [(0,F,(s 83)),(1,F,(s 84))])⟩,[11,12]),(⟨S 86,N,v (.mget (.agg 2) [.int,.int] (.sl F .nil []) false (s 82) (s 85))⟩,[7,8,9,10,11,12,13]),(⟨S 87,N,v (m (s 10))⟩,[]),(⟨S 88,N,y F [s 87]⟩,[15]),(⟨S 89,N,a F 24 (s 86) (s 88)⟩,[7,8,9,10,11,12,13,14,15,16])]
abbrev g7r20t:List aA:=[⟨N,N,.mp (.put (.agg 2) [.int,.int] (s 75) (s 78) (s 89))⟩]
abbrev g7r21:List aA:=[⟨S 90,N,v (m (s 13))⟩,⟨S 91,N,v (m (s 10))⟩,⟨S 92,N,k 36 [s 90,s 91]⟩,⟨S 14,N,v (m (s 92))⟩]
abbrev g7r22:List aA:=[⟨S 93,N,v (m (s 14))⟩,⟨S 94,N,v (e true (.iface true) (s 93) (c .nilIface))⟩]
abbrev g7r23:List aA:=[⟨S 95,N,v (m (s 14))⟩,⟨S 8,N,v (m (s 95))⟩]
abbrev g7r24:List aA:=[⟨S 96,N,v (b .add (s 64) (c (I j 1)))⟩,⟨S 64,N,v (m (s 96))⟩]
abbrev front_World_Do_l0:bE:=(Q (O g7r17) (Q (C (s 65) Z (X 1)) (Q (K 2 (Q (O g7r18) (Q (Q (O g7r19) (C (s 71) (Q (D 18 g7r20 g7r20t) (X 2)) Z)) (Q (O g7r21) (Q (O g7r22) (C (s 94) (Q (O g7r23) .ret) Z)))))) (O g7r24))))
abbrev front_World_Do_r25:List aA:=[⟨S 8,N,v (m (c .nilIface))⟩]
def front_World_Do:LFn:=⟨(Q (O g7r0) (Q (Q (O g7r1) (C (s 16) (Q (O g7r2) .ret) Z)) (Q (O g7r3) (Q (K 0 (Q (O g7r4) (C (s 19) (Q (O g7r5) .ret) (Q (D 8 g7r6 g7r6t) (C (s 25) (Q (O g7r7) .ret) (Q (O g7r8) (C (s 34) (Q (O g7r9) .ret) (Q (O g7r10) (C (s 39) (Q (O g7r11) .ret) Z))))))))) (Q (D 7 front_World_Do_r12 front_World_Do_r12t) (Q (Q (O front_World_Do_r13) (Q (O front_World_Do_r14) (C (s 57) (Q (O front_World_Do_r15) .ret) Z))) (Q (Q (O front_World_Do_r16) (K 1 (R front_World_Do_l0))) (Q (O front_World_Do_r25) .ret)))))))),97,[.slot 8]⟩
theorem front_World_Do_low:aH Tryz.prog 11=some front_World_Do:=by kernel_rfl
abbrev g8r0:List aA:=[⟨S 2,N,v (m (c (.bool false)))⟩]
abbrev g8r1:List aA:=[⟨S 7,N,v (m (s 0))⟩,⟨S 8,N,k 19 [s 7]⟩,⟨S 9,N,k 46 [s 8]⟩,⟨S 3,N,v (m (s 9))⟩]
abbrev g8r2:List aA:=[⟨S 10,N,v (m (s 0))⟩,⟨S 11,N,k 18 [s 10]⟩,⟨S 12,N,v (m (c (I j 0)))⟩]
abbrev g8r3:List aA:=[⟨S 13,N,v (b .lss (s 12) (s 11))⟩]
abbrev g8r4:List aA:=[⟨S 14,N,v (m (s 12))⟩,⟨S 4,N,v (m (s 14))⟩]
abbrev g8r5:List aA:=[⟨S 15,N,v (m (s 0))⟩,⟨S 16,N,v (m (s 4))⟩,⟨S 17,N,k 20 [s 15,s 16]⟩,⟨S 5,N,v (m (s 17))⟩]
abbrev g8r6:List aA:=[⟨S 18,N,v (m (s 5))⟩,⟨S 19,N,v (w (s 18))⟩,⟨S 20,N,v (m (s 3))⟩,⟨S 21,N,v (w (s 20))⟩,⟨S 22,N,v (b .neq (s 19) (s 21))⟩]
abbrev g8r7:List aA:=[⟨S 2,N,v (m (c (.bool false)))⟩]
abbrev g8r8:List aA:=[⟨S 23,N,v (m (s 5))⟩,⟨S 24,N,v (w (s 23))⟩,⟨S 25,N,v (m (c (I j 0)))⟩]
abbrev g8r9:List aA:=[⟨S 26,N,v (b .lss (s 25) (s 24))⟩]
abbrev g8r10:List aA:=[⟨S 27,N,v (m (s 25))⟩,⟨S 6,N,v (m (s 27))⟩]
abbrev g8r11:List (aA×List Nat):=[(⟨S 28,N,v (m (s 5))⟩,[]),(⟨S 29,N,v (m (s 6))⟩,[]),(⟨S 30,N,v (i F (s 28) (s 29))⟩,[0,1]),(⟨S 31,N,v (l F (s 30))⟩,[0,1,2]),(⟨S 32,N,v (m (s 3))⟩,[]),(⟨S 33,N,v (m (s 6))⟩,[]),(⟨S 34,N,v (i F (s 32) (s 33))⟩,[4,5]),(⟨S 35,N,v (l F (s 34))⟩,[4,5,6]),(⟨S 36,N,k 47 [s 31,s 35]⟩,[0,1,2,3,4,5,6,7]),(⟨S 37,N,v (.not (s 36))⟩,[0,1,2,3,4,5,6,7,8])]
abbrev g8r11t:List aA:=[]
abbrev g8r12:List aA:=[⟨S 2,N,v (m (c (.bool false)))⟩]
abbrev g8r13:List aA:=[⟨S 38,N,v (b .add (s 25) (c (I j 1)))⟩,⟨S 25,N,v (m (s 38))⟩]
abbrev g8l0:bE:=(Q (O g8r9) (Q (C (s 26) Z (X 2)) (Q (K 3 (Q (O g8r10) (Q (D 10 g8r11 g8r11t) (C (s 37) (Q (O g8r12) .ret) Z)))) (O g8r13))))
abbrev g8r14:List aA:=[⟨S 39,N,v (b .add (s 12) (c (I j 1)))⟩,⟨S 12,N,v (m (s 39))⟩]
abbrev g8l1:bE:=(Q (O g8r3) (Q (C (s 13) Z (X 0)) (Q (K 1 (Q (O g8r4) (Q (O g8r5) (Q (Q (O g8r6) (C (s 22) (Q (O g8r7) .ret) Z)) (Q (O g8r8) (K 2 (R g8l0))))))) (O g8r14))))
abbrev g8r15:List aA:=[⟨S 2,N,v (m (c (.bool true)))⟩]
def corollarylaw24_safe:LFn:=⟨(Q (O g8r0) (Q (O g8r1) (Q (Q (O g8r2) (K 0 (R g8l1))) (Q (O g8r15) .ret)))),40,[.slot 2]⟩
theorem corollarylaw24_safe_low:aH Tryz.prog 12=some corollarylaw24_safe:=by kernel_rfl
abbrev g9r0:List aA:=[⟨S 1,N,x (.agg 2) (s 0)⟩,⟨S 2,N,v (m (c (.bool false)))⟩]
abbrev g9r1:List aA:=[⟨S 3,N,v (f 0 (s 1))⟩,⟨S 4,N,v (l F (s 3))⟩,⟨S 5,N,v (b .gtr (s 4) (c (I j 14)))⟩,⟨S 6,N,v (m (s 5))⟩,⟨S 7,S (6,true),v (f 0 (s 1))⟩,⟨S 8,S (6,true),v (l F (s 7))⟩,⟨S 9,S (6,true),v (b .leq (s 8) (c (I j 200)))⟩,⟨S 10,N,v (p (s 6) (s 9) (c (.bool false)))⟩,⟨S 11,N,v (m (s 10))⟩,⟨S 12,S (11,false),v (f 1 (s 1))⟩,⟨S 13,S (11,false),v (l F (s 12))⟩,⟨S 14,S (11,false),v (w (s 13))⟩,⟨S 15,S (11,false),v (b .gtr (s 14) (c (I j 40)))⟩,⟨S 16,N,v (p (s 11) (c (.bool true)) (s 15))⟩,⟨S 2,N,v (m (s 16))⟩]
def corollarylaw22_Large:LFn:=⟨(Q (O g9r0) (Q (O g9r1) .ret)),17,[.slot 2]⟩
theorem corollarylaw22_Large_low:aH Tryz.prog 13=some corollarylaw22_Large:=by kernel_rfl
abbrev g13r0:List aA:=[⟨S 2,N,v (m (c (.bool false)))⟩]
abbrev g13r1:List aA:=[⟨S 3,N,v (m (s 0))⟩,⟨S 4,N,v (e false .ptr (s 3) (c .nilPtr))⟩,⟨S 5,N,v (m (s 4))⟩,⟨S 6,S (5,false),v (m (s 0))⟩,⟨S 7,S (5,false),v (n (s 6))⟩,⟨S 8,S (5,false),v (f 3 (s 7))⟩,⟨S 9,S (5,false),v (l F (s 8))⟩,⟨S 10,S (5,false),v (.mlen (s 9))⟩,⟨S 11,S (5,false),v (b .eql (s 10) (c (I j 0)))⟩,⟨S 12,N,v (p (s 5) (c (.bool true)) (s 11))⟩,⟨S 2,N,v (m (s 12))⟩]
def front_World_Settled:LFn:=⟨(Q (O g13r0) (Q (O g13r1) .ret)),13,[.slot 2]⟩
theorem front_World_Settled_low:aH Tryz.prog 17=some front_World_Settled:=by kernel_rfl
abbrev g14r0:List aA:=[⟨S 2,N,v (m (c (I j 0)))⟩]
abbrev g14r1:List aA:=[⟨S 3,N,v (m (s 0))⟩,⟨S 4,N,v (e false .ptr (s 3) (c .nilPtr))⟩]
abbrev g14r2:List aA:=[⟨S 2,N,v (m (c (I j 0)))⟩]
abbrev g14r3:List aA:=[⟨S 5,N,v (m (s 0))⟩,⟨S 6,N,v (n (s 5))⟩,⟨S 7,N,v (f 2 (s 6))⟩,⟨S 8,N,v (l F (s 7))⟩,⟨S 9,N,v (w (s 8))⟩,⟨S 2,N,v (m (s 9))⟩]
def front_World_Members:LFn:=⟨(Q (O g14r0) (Q (Q (O g14r1) (C (s 4) (Q (O g14r2) .ret) Z)) (Q (O g14r3) .ret))),10,[.slot 2]⟩
theorem front_World_Members_low:aH Tryz.prog 18=some front_World_Members:=by kernel_rfl
abbrev g15r0:List aA:=[⟨S 2,N,v (m (c .nilPtr))⟩]
abbrev g15r1:List aA:=[⟨S 3,N,v (m (s 0))⟩,⟨S 4,N,v (e false .ptr (s 3) (c .nilPtr))⟩]
abbrev g15r2:List aA:=[⟨S 2,N,v (m (c .nilPtr))⟩]
abbrev g15r3:List aA:=[⟨S 5,N,v (m (s 0))⟩,⟨S 6,N,v (n (s 5))⟩,⟨S 7,N,v (f 1 (s 6))⟩,⟨S 8,N,v (l F (s 7))⟩,⟨S 9,N,k 39 [s 8]⟩,⟨S 2,N,v (m (s 9))⟩]
def front_World_Truth:LFn:=⟨(Q (O g15r0) (Q (Q (O g15r1) (C (s 4) (Q (O g15r2) .ret) Z)) (Q (O g15r3) .ret))),10,[.slot 2]⟩
theorem front_World_Truth_low:aH Tryz.prog 19=some front_World_Truth:=by kernel_rfl
abbrev g16r0:List aA:=[⟨S 4,N,v (m (c (.sl F .nil [])))⟩]
abbrev g16r1:List aA:=[⟨S 5,N,v (m (s 0))⟩,⟨S 6,N,v (m (s 1))⟩,⟨S 7,N,k 40 [s 5,s 6]⟩,⟨S 8,N,v (.not (s 7))⟩]
abbrev g16r2:List aA:=[⟨S 4,N,v (m (c (.sl F .nil [])))⟩]
abbrev g16r3:List aA:=[⟨S 9,N,v (m (s 0))⟩,⟨S 10,N,v (n (s 9))⟩,⟨S 11,N,v (f 2 (s 10))⟩,⟨S 12,N,v (l F (s 11))⟩,⟨S 13,N,v (m (s 1))⟩,⟨S 14,N,v (i F (s 12) (s 13))⟩,⟨S 15,N,v (l F (s 14))⟩,⟨S 16,N,k 46 [s 15]⟩,⟨S 4,N,v (m (s 16))⟩]
def front_World_Fronts:LFn:=⟨(Q (O g16r0) (Q (Q (O g16r1) (C (s 8) (Q (O g16r2) .ret) Z)) (Q (O g16r3) .ret))),17,[.slot 4]⟩
theorem front_World_Fronts_low:aH Tryz.prog 20=some front_World_Fronts:=by kernel_rfl
abbrev g21r0:List aA:=[⟨S 2,N,v (m (c (I j 0)))⟩]
abbrev g21r1:List aA:=[⟨S 5,N,v (m (s 0))⟩,⟨S 6,N,v (e false (.iface true) (s 5) (c .nilIface))⟩]
abbrev g21r2:List aA:=[⟨S 2,N,v (m (c (I j 0)))⟩]
abbrev g21r3:List aA:=[⟨S 8,N,v (m (s 0))⟩,⟨S 9,N,v (.asrt 64 (I j 0) (s 8))⟩,⟨S 7,N,v (m (s 9))⟩,⟨S 10,N,v (q (s 7) 0)⟩,⟨S 11,N,v (q (s 7) 1)⟩,⟨S 3,N,v (m (s 10))⟩,⟨S 4,N,v (m (s 11))⟩]
abbrev g21r4:List aA:=[⟨S 12,N,v (m (s 4))⟩,⟨S 13,N,v (m (s 12))⟩,⟨S 14,S (13,true),v (m (s 3))⟩,⟨S 15,S (13,true),v (b .neq (s 14) (c (I j 0)))⟩,⟨S 16,N,v (p (s 13) (s 15) (c (.bool false)))⟩]
abbrev g21r5:List aA:=[⟨S 17,N,v (m (s 3))⟩,⟨S 2,N,v (m (s 17))⟩]
abbrev g21r6:List aA:=[⟨S 2,N,v (m (c (I j (-1))))⟩]
def corollarynum_Num:LFn:=⟨(Q (O g21r0) (Q (Q (O g21r1) (C (s 6) (Q (O g21r2) .ret) Z)) (Q (Q (O g21r3) (Q (O g21r4) (C (s 16) (Q (O g21r5) .ret) Z))) (Q (O g21r6) .ret)))),18,[.slot 2]⟩
theorem corollarynum_Num_low:aH Tryz.prog 25=some corollarynum_Num:=by kernel_rfl
abbrev g22r0:List aA:=[⟨S 6,N,v (m (c (I j 0)))⟩]
abbrev g22r1:List aA:=[⟨S 7,N,v (m (s 0))⟩,⟨S 8,N,v (e false .ptr (s 7) (c .nilPtr))⟩]
abbrev g22r2:List aA:=[⟨S 6,N,v (m (c (I j 0)))⟩]
abbrev g22r3:List aA:=[⟨S 9,N,v (m (s 0))⟩,⟨S 10,N,v (n (s 9))⟩,⟨S 11,N,v (f 3 (s 10))⟩,⟨S 12,N,v (l F (s 11))⟩,⟨S 13,N,v (m (s 1))⟩,⟨S 14,N,v (m (s 2))⟩,⟨S 15,N,v (.build [(I j 0),(I j 0)] [(0,F,(s 13)),(1,F,(s 14))])⟩,⟨S 16,N,v (.mget (.agg 2) [.int,.int] (.sl F .nil []) false (s 12) (s 15))⟩,⟨S 17,N,v (w (s 16))⟩,⟨S 6,N,v (m (s 17))⟩]
def front_World_Waiting:LFn:=⟨(Q (O g22r0) (Q (Q (O g22r1) (C (s 8) (Q (O g22r2) .ret) Z)) (Q (O g22r3) .ret))),18,[.slot 6]⟩
theorem front_World_Waiting_low:aH Tryz.prog 26=some front_World_Waiting:=by kernel_rfl
abbrev g23r0:List aA:=[⟨S 4,N,v (m (c (.bool false)))⟩]
abbrev g23r1:List aA:=[⟨S 5,N,v (m (s 0))⟩,⟨S 6,N,v (e false .ptr (s 5) (c .nilPtr))⟩,⟨S 7,N,v (m (s 6))⟩,⟨S 8,S (7,false),v (m (s 1))⟩,⟨S 9,S (7,false),v (e false .ptr (s 8) (c .nilPtr))⟩,⟨S 10,N,v (p (s 7) (c (.bool true)) (s 9))⟩]
abbrev g23r2:List aA:=[⟨S 4,N,v (m (c (.bool false)))⟩]
abbrev g23r3:List (aA×List Nat):=[(⟨S 11,N,v (m (s 0))⟩,[]),(⟨S 12,N,v (n (s 11))⟩,[0]),(⟨S 13,N,v (f 0 (s 12))⟩,[0,1]),(⟨S 14,N,v (f 0 (s 13))⟩,[0,1,2]),(⟨S 15,N,v (l F (s 14))⟩,[0,1,2,3]),(⟨S 16,N,v (m (s 1))⟩,[]),(⟨S 17,N,v (n (s 16))⟩,[5]),(⟨S 18,N,v (f 0 (s 17))⟩,[5,6]),(⟨S 19,N,v (f 0 (s 18))⟩,[5,6,7]),(⟨S 20,N,v (l F (s 19))⟩,[5,6,7,8]),(⟨S 21,N,v (b .eql (s 15) (s 20))⟩,[0,1,2,3,4,5,6,7,8,9]),(⟨S 22,N,v (m (s 21))⟩,[0,1,2,3,4,5,6,7,8,9,10]),(⟨S 23,S (22,true),v (m (s 0))⟩,[0,1,2,3,4,5,6,7,8,9,10,11]),(⟨S 24,S (22,true),v (n (s 23))⟩,[0,1,2,3,4,5,6,7,8,9,10,11,12]),(⟨S 25,S (22,true),v (f 0 (s 24))⟩,[0,1,2,3,4,5,6,7,8,9,10,11,12,13]),(⟨S 26,S (22,true),v (f 1 (s 25))⟩,[0,1,2,3,4,5,6,7,8,9,10,11,12,13,14]),(⟨S 27,S (22,true),v (l F (s 26))⟩,[0,1,2,3,4,5,6,7,8,9,10,11,12,13,14,15]),(⟨S 28,S (22,true),v (m (s 1))⟩,[0,1,2,3,4,5,6,7,8,9,10,11]),(⟨S 29,S (22,true),v (n (s 28))⟩,[0,1,2,3,4,5,6,7,8,9,10,11,17]),(⟨S 30,S (22,true),v (f 0 (s 29))⟩,[0,1,2,3,4,5,6,7,8,9,10,11,17,18]),(⟨S 31,S (22,true),v (f 1 (s 30))⟩,[0,1,2,3,4,5,6,7,8,9,10,11,17,18,19]),(⟨S 32,S (22,true),v (l F (s 31))⟩,[0,1,2,3,4,5,6,7,8,9,10,11,17,18,19,20]),(⟨S 33,S (22,true),k 57 [s 27,s 32]⟩,[0,1,2,3,4,5,6,7,8,9,10,11,12,13,14,15,16,17,18,19,20,21]),(⟨S 34,N,v (p (s 22) (s 33) (c (.bool false)))⟩,[0,1,2,3,4,5,6,7,8,9,10,11,12,13,14,15,16,17,18,19,20,21,22]),(⟨S 35,N,v (m (s 34))⟩,[0,1,2,3,4,5,6,7,8,9,10,11,12,13,14,15,16,17,18,19,20,21,22,23]),(⟨S 36,S (35,true),v (m (s 0))⟩,[0,1,2,3,4,5,6,7,8,9,10,11,12,13,14,15,16,17,18,19,20,21,22,23,24]),(⟨S 37,S (35,true),v (n (s 36))⟩,[0,1,2,3,4,5,6,7,8,9,10,11,12,13,14,15,16,17,18,19,20,21,22,23,24,25]),(⟨S 38,S (35,true),v (f 3 (s 37))⟩,[0,1,2,3,4,5,6,7,8,9,10,11,12,13,14,15,16,17,18,19,20,21,22,23,24,25,26]),(⟨S 39,S (35,true),v (l F (s 38))⟩,[0,1,2,3,4,5,6,7,8,9,10,11,12,13,14,15,16,17,18,19,20,21,22,23,24,25,26,27]),(⟨S 40,S (35,true),v (m (s 1))⟩,[0,1,2,3,4,5,6,7,8,9,10,11,12,13,14,15,16,17,18,19,20,21,22,23,24]),(⟨S 41,S (35,true),v (n (s 40))⟩,[0,1,2,3,4,5,6,7,8,9,10,11,12,13,14,15,16,17,18,19,20,21,22,23,24,29]),(⟨S 42,S (35,true),v (f 3 (s 41))⟩,[0,1,2,3,4,5,6,7,8,9,10,11,12,13,14,15,16,17,18,19,20,21,22,23,24,29,30]),(⟨S 43,S (35,true),v (l F (s 42))⟩,[0,1,2,3,4,5,6,7,8,9,10,11,12,13,14,15,16,17,18,19,20,21,22,23,24,29,30,31]),(⟨S 44,S (35,true),k 58 [s 39,s 43]⟩,[0,1,2,3,4,5,6,7,8,9,10,11,12,13,14,15,16,17,18,19,20,21,22,23,24,25,26,27,28,29,30,31,32]),(⟨S 45,N,v (p (s 35) (s 44) (c (.bool false)))⟩,[0,1,2,3,4,5,6,7,8,9,10,11,12,13,14,15,16,17,18,19,20,21,22,23,24,25,26,27,28,29,30,31,32,33]),(⟨S 4,N,v (m (s 45))⟩,[0,1,2,3,4,5,6,7,8,9,10,11,12,13,14,15,16,17,18,19,20,21,22,23,24,25,26,27,28,29,30,31,32,33,34])]
abbrev g23r3t:List aA:=[]
def count_Same:LFn:=⟨(Q (O g23r0) (Q (Q (O g23r1) (C (s 10) (Q (O g23r2) .ret) Z)) (Q (D 36 g23r3 g23r3t) .ret))),46,[.slot 4]⟩
theorem count_Same_low:aH Tryz.prog 27=some count_Same:=by kernel_rfl
abbrev g24r0:List aA:=[⟨S 4,N,v (m (c .nilPtr))⟩]
abbrev g24r1:List aA:=[⟨S 5,N,v (m (s 0))⟩,⟨S 6,N,v (m (s 1))⟩,⟨S 7,N,k 40 [s 5,s 6]⟩,⟨S 8,N,v (.not (s 7))⟩]
abbrev g24r2:List aA:=[⟨S 4,N,v (m (c .nilPtr))⟩]
abbrev g24r3:List aA:=[⟨S 9,N,v (m (s 0))⟩,⟨S 10,N,v (n (s 9))⟩,⟨S 11,N,v (f 2 (s 10))⟩,⟨S 12,N,v (l F (s 11))⟩,⟨S 13,N,v (m (s 1))⟩,⟨S 14,N,v (i F (s 12) (s 13))⟩,⟨S 15,N,v (l F (s 14))⟩,⟨S 16,N,k 39 [s 15]⟩,⟨S 4,N,v (m (s 16))⟩]
def front_World_View:LFn:=⟨(Q (O g24r0) (Q (Q (O g24r1) (C (s 8) (Q (O g24r2) .ret) Z)) (Q (O g24r3) .ret))),17,[.slot 4]⟩
theorem front_World_View_low:aH Tryz.prog 28=some front_World_View:=by kernel_rfl
abbrev g30r0:List aA:=[⟨S 0,N,v (m (c .nilPtr))⟩,⟨S 1,N,x (.agg 3) (c (.agg [(I j 0),(I j 0),(I j 0)]))⟩,⟨S 2,N,x (.agg 3) (c (.agg [(I j 0),(I j 0),(I j 0)]))⟩,⟨S 3,N,v (m (c (.bool false)))⟩]
abbrev g30r1:List aA:=[⟨S 11,N,v (.build [(I j 0),(I j 0),(.bool false),(I j 0)] [(0,F,(c (I j 0))),(1,F,(c (I j 1)))])⟩,⟨S 12,N,y (.agg 4) [s 11]⟩,⟨S 13,N,k 62 [(c (I j 2)),s 12]⟩,⟨S 10,N,v (m (s 13))⟩,⟨S 14,N,v (q (s 10) 0)⟩,⟨S 15,N,v (q (s 10) 1)⟩,⟨S 4,N,x (.agg 2) (c (.agg [(I j 0),(.sl (.agg 4) .nil [])]))⟩,⟨N,N,t (.agg 2) (s 4) (s 14)⟩,⟨S 5,N,v (m (s 15))⟩]
abbrev g30r2:List aA:=[⟨S 16,N,v (.build [(I j 0),(I j 0)] [(0,F,(c (I j 1)))])⟩,⟨S 17,N,v (.build [(I j 0),(I j 0),(I j 0)] [(1,(.agg 2),(s 16))])⟩,⟨S 6,N,x (.agg 3) (c (.agg [(I j 0),(I j 0),(I j 0)]))⟩,⟨N,N,t (.agg 3) (s 6) (s 17)⟩]
abbrev g30r3:List aA:=[⟨S 18,N,v (.build [(I j 0),(I j 0)] [(0,F,(c (I j 1)))])⟩,⟨S 19,N,v (.build [(I j 0),(I j 0),(I j 0)] [(0,F,(c (I j 1))),(1,(.agg 2),(s 18))])⟩,⟨S 7,N,x (.agg 3) (c (.agg [(I j 0),(I j 0),(I j 0)]))⟩,⟨N,N,t (.agg 3) (s 7) (s 19)⟩]
abbrev g30r4:List aA:=[⟨S 21,N,v (l (.agg 2) (s 4))⟩,⟨S 22,N,v (l (.agg 3) (s 6))⟩,⟨S 23,N,y (.agg 3) [s 22]⟩,⟨S 24,N,k 9 [s 21,(c (I j 2)),s 23]⟩,⟨S 20,N,v (m (s 24))⟩,⟨S 25,N,v (q (s 20) 0)⟩,⟨S 26,N,v (q (s 20) 1)⟩,⟨S 8,N,v (m (s 25))⟩,⟨S 9,N,v (m (s 26))⟩]
abbrev corollarylaw24_begun_r5:List (aA×List Nat):=[(⟨S 27,N,v (m (s 8))⟩,[]),(⟨S 28,N,v (l (.agg 3) (s 6))⟩,[]),(⟨S 29,N,v (l (.agg 3) (s 7))⟩,[]),(⟨S 30,N,v (m (s 5))⟩,[]),(⟨S 31,N,v (e false (.iface true) (s 30) (c .nilIface))⟩,[3]),(⟨S 32,N,v (m (s 31))⟩,[3,4]),(⟨S 33,S (32,true),v (m (s 9))⟩,[3,4,5]),(⟨S 34,S (32,true),v (e false (.iface true) (s 33) (c .nilIface))⟩,[3,4,5,6]),(⟨S 35,N,v (p (s 32) (s 34) (c (.bool false)))⟩,[3,4,5,6,7]),(⟨S 36,N,v (m (s 35))⟩,[3,4,5,6,7,8]),(⟨S 37,S (36,true),v (m (s 8))⟩,[3,4,5,6,7,8,9]),(⟨S 38,S (36,true),v (e true .ptr (s 37) (c .nilPtr))⟩,[3,4,5,6,7,8,9,10]),(⟨S 39,N,v (p (s 36) (s 38) (c (.bool false)))⟩,[3,4,5,6,7,8,9,10,11]),(⟨S 0,N,v (m (s 27))⟩,[0,3,4,5,6,7,8,9]),(⟨N,N,t (.agg 3) (s 1) (s 28)⟩,[0,1,3,4,5,6,7,8,9,13]),(⟨N,N,t (.agg 3) (s 2) (s 29)⟩,[0,1,2,3,4,5,6,7,8,9,13,14]),(⟨S 3,N,v (m (s 39))⟩,[0,1,2,3,4,5,6,7,8,9,10,11,12,13,14,15])]
abbrev corollarylaw24_begun_r5t:List aA:=[]
def corollarylaw24_begun:LFn:=⟨(Q (O g30r0) (Q (O g30r1) (Q (O g30r2) (Q (O g30r3) (Q (O g30r4) (Q (D 18 corollarylaw24_begun_r5 corollarylaw24_begun_r5t) .ret)))))),40,[.slot 0,.cell 1 (.agg 3),.cell 2 (.agg 3),.slot 3]⟩
theorem corollarylaw24_begun_low:aH Tryz.prog 34=some corollarylaw24_begun:=by kernel_rfl
abbrev g31r0:List aA:=[⟨S 1,N,x (.agg 2) (s 0)⟩,⟨S 2,N,v (m (c .nilPtr))⟩,⟨S 3,N,v (m (c .nilIface))⟩]
abbrev g31r1:List aA:=[⟨S 5,N,v (l (.agg 2) (s 1))⟩,⟨S 6,N,k 63 [s 5]⟩,⟨S 7,N,v (.not (s 6))⟩]
abbrev g31r2:List aA:=[⟨S 8,N,v (.mkif 64 (c (I j 2)))⟩,⟨S 2,N,v (m (c .nilPtr))⟩,⟨S 3,N,v (m (s 8))⟩]
abbrev g31r3:List (aA×List Nat):=[(⟨S 9,N,v (f 0 (s 1))⟩,[]),(⟨S 10,N,v (l F (s 9))⟩,[0]),(⟨S 11,N,v (f 1 (s 1))⟩,[]),(⟨S 12,N,v (l F (s 11))⟩,[2]),(⟨S 13,N,k 64 [s 12]⟩,[2,3]),(⟨S 14,N,v (.build [(I j 0),(.sl (.agg 4) .nil [])] [(0,F,(s 10)),(1,F,(s 13))])⟩,[0,1,2,3,4]),(⟨S 4,N,x (.agg 2) (c (.agg [(I j 0),(.sl (.agg 4) .nil [])]))⟩,[])]
abbrev g31r3t:List aA:=[⟨N,N,t (.agg 2) (s 4) (s 14)⟩]
abbrev g31r4:List (aA×List Nat):=[(⟨S 15,N,v (l (.agg 2) (s 4))⟩,[]),(⟨S 16,N,v (l (.agg 2) (s 4))⟩,[]),(⟨S 17,N,k 38 [s 16]⟩,[1]),(⟨S 18,N,.mp (.mk)⟩,[]),(⟨S 19,N,v (.build [(I j 0),(.sl (.agg 4) .nil []),(.sl F .nil []),.nilMap] [(0,(.agg 2),(s 15)),(2,F,(s 17)),(3,F,(s 18))])⟩,[0,1,2,3]),(⟨S 20,N,x (.agg 4) (s 19)⟩,[0,1,2,3,4]),(⟨S 2,N,v (m (s 20))⟩,[0,1,2,3,4,5]),(⟨S 3,N,v (m (c .nilIface))⟩,[0,1,2,3,4,5,6])]
abbrev g31r4t:List aA:=[]
def count_New:LFn:=⟨(Q (O g31r0) (Q (Q (O g31r1) (C (s 7) (Q (O g31r2) .ret) Z)) (Q (D 7 g31r3 g31r3t) (Q (D 8 g31r4 g31r4t) .ret)))),21,[.slot 2,.slot 3]⟩
theorem count_New_low:aH Tryz.prog 35=some count_New:=by kernel_rfl
abbrev g32r0:List aA:=[⟨S 2,N,x F (s 0)⟩,⟨S 4,N,v (m (c .nilIface))⟩]
abbrev g32r1:List aA:=[⟨S 12,N,v (l F (s 2))⟩,⟨S 13,N,v (e false .ptr (s 12) (c .nilPtr))⟩]
abbrev g32r2:List aA:=[⟨S 14,N,v (.mkif 64 (c (I j 13)))⟩,⟨S 4,N,v (m (s 14))⟩]
abbrev g32r3:List aA:=[⟨S 15,N,v (.mkfn (.func 65) [] [s 2])⟩,⟨S 5,N,v (m (s 15))⟩]
abbrev g32r4:List aA:=[⟨S 6,N,v (m (c (.fn (.func 67) [] [])))⟩]
abbrev g32r5:List aA:=[⟨S 17,N,v (m (s 1))⟩,⟨S 18,N,v (m (s 5))⟩,⟨S 19,N,k 69 [s 17,s 18]⟩,⟨S 16,N,v (m (s 19))⟩]
abbrev g32r6:List aA:=[⟨S 20,N,v (.mkif 64 (c (I j 2)))⟩,⟨S 4,N,v (m (s 20))⟩]
abbrev g32r7:List aA:=[⟨S 22,N,v (m (s 1))⟩,⟨S 23,N,v (m (s 6))⟩,⟨S 24,N,k 69 [s 22,s 23]⟩,⟨S 21,N,v (m (s 24))⟩]
abbrev g32r8:List aA:=[⟨S 25,N,v (.mkif 64 (c (I j 1)))⟩,⟨S 4,N,v (m (s 25))⟩]
abbrev g32r9:List aA:=[⟨S 26,N,v (l F (s 2))⟩,⟨S 27,N,v (n (s 26))⟩,⟨S 28,N,v (f 3 (s 27))⟩,⟨S 29,N,v (l F (s 28))⟩,⟨S 30,N,k 70 [s 29]⟩,⟨S 7,N,v (m (s 30))⟩]
abbrev g32r10:List aA:=[⟨S 31,N,v (m (s 1))⟩,⟨S 32,N,v (w (s 31))⟩,⟨S 33,N,v (m (c (I j 0)))⟩]
abbrev g32r11:List aA:=[⟨S 34,N,v (b .lss (s 33) (s 32))⟩]
abbrev g32r12:List aA:=[⟨S 35,N,v (i (.agg 4) (s 31) (s 33))⟩,⟨S 36,N,v (l (.agg 4) (s 35))⟩,⟨S 9,N,x (.agg 4) (c (.agg [(I j 0),(I j 0),(I j 0),(I j 0)]))⟩,⟨N,N,t (.agg 4) (s 9) (s 36)⟩]
abbrev g32r13:List aA:=[⟨S 37,N,v (m (s 7))⟩,⟨S 38,N,v (f 0 (s 9))⟩,⟨S 39,N,v (l (.agg 3) (s 38))⟩,⟨S 40,N,v (f 3 (s 9))⟩,⟨S 41,N,v (l F (s 40))⟩,⟨S 42,N,k 71 [s 37,s 39,s 41]⟩]
abbrev g32r14:List aA:=[⟨S 43,N,v (b .add (s 33) (c (I j 1)))⟩,⟨S 33,N,v (m (s 43))⟩]
abbrev g32l0:bE:=(Q (O g32r11) (Q (C (s 34) Z (X 1)) (Q (K 2 (Q (O g32r12) (O g32r13))) (O g32r14))))
abbrev g32r15:List aA:=[⟨S 44,N,v (m (s 7))⟩,⟨S 45,N,.mp (.rng (s 44))⟩]
abbrev g32r16:List aA:=[⟨S 46,N,.mp (.nxt (s 45))⟩,⟨S 47,N,v (q (s 46) 0)⟩]
abbrev g32r17:List aA:=[⟨S 48,N,.mp (.key (s 45))⟩,⟨S 49,N,v (q (s 48) 1)⟩,⟨S 11,N,v (m (s 49))⟩]
abbrev g32r18:List aA:=[⟨S 50,N,v (m (s 11))⟩,⟨S 51,N,k 68 [s 50]⟩,⟨S 52,N,v (.not (s 51))⟩]
abbrev g32r19:List aA:=[⟨S 53,N,v (.mkif 64 (c (I j 1)))⟩,⟨S 4,N,v (m (s 53))⟩]
abbrev g32l1:bE:=(Q (O g32r16) (Q (C (s 47) Z (X 3)) (K 4 (Q (O g32r17) (Q (O g32r18) (C (s 52) (Q (O g32r19) .ret) Z))))))
abbrev g32r20:List aA:=[⟨S 54,N,v (l F (s 2))⟩,⟨S 55,N,v (m (s 7))⟩,⟨S 56,N,v (n (s 54))⟩,⟨S 57,N,v (f 3 (s 56))⟩,⟨N,N,t F (s 57) (s 55)⟩]
abbrev g32r21:List aA:=[⟨S 4,N,v (m (c .nilIface))⟩]
def count_Counts_Apply:LFn:=⟨(Q (O g32r0) (Q (Q (O g32r1) (C (s 13) (Q (O g32r2) .ret) Z)) (Q (O g32r3) (Q (O g32r4) (Q (K 0 (Q (O g32r5) (C (s 16) (Q (O g32r6) .ret) (Q (O g32r7) (C (s 21) (Q (O g32r8) .ret) Z))))) (Q (O g32r9) (Q (Q (O g32r10) (K 1 (R g32l0))) (Q (Q (O g32r15) (K 3 (R g32l1))) (Q (O g32r20) (Q (O g32r21) .ret)))))))))),58,[.slot 4]⟩
theorem count_Counts_Apply_low:aH Tryz.prog 36=some count_Counts_Apply:=by kernel_rfl
abbrev g33r0:List aA:=[⟨S 4,N,v (m (c (.sl (.agg 4) .nil [])))⟩]
abbrev g33r1:List aA:=[⟨S 5,N,v (m (c (.sl (.agg 4) .nil [])))⟩]
abbrev g33r2:List aA:=[⟨S 8,N,v (m (s 0))⟩,⟨S 9,N,v (w (s 8))⟩,⟨S 10,N,v (m (c (I j 0)))⟩]
abbrev g33r3:List aA:=[⟨S 11,N,v (b .lss (s 10) (s 9))⟩]
abbrev g33r4:List aA:=[⟨S 12,N,v (i (.agg 3) (s 8) (s 10))⟩,⟨S 13,N,v (l (.agg 3) (s 12))⟩,⟨S 7,N,x (.agg 3) (c (.agg [(I j 0),(I j 0),(I j 0)]))⟩,⟨N,N,t (.agg 3) (s 7) (s 13)⟩]
abbrev g33r5:List aA:=[⟨S 14,N,v (m (s 5))⟩,⟨S 15,N,v (l (.agg 3) (s 7))⟩,⟨S 16,N,v (m (s 1))⟩,⟨S 17,N,v (.build [(I j 0),(I j 0),(I j 0),(I j 0)] [(0,(.agg 3),(s 15)),(3,F,(s 16))])⟩,⟨S 18,N,y (.agg 4) [s 17]⟩,⟨S 19,N,a (.agg 4) 32 (s 14) (s 18)⟩,⟨S 5,N,v (m (s 19))⟩]
abbrev g33r6:List aA:=[⟨S 20,N,v (b .add (s 10) (c (I j 1)))⟩,⟨S 10,N,v (m (s 20))⟩]
abbrev g33l0:bE:=(Q (O g33r3) (Q (C (s 11) Z (X 0)) (Q (K 1 (Q (O g33r4) (O g33r5))) (O g33r6))))
abbrev g33r7:List aA:=[⟨S 21,N,v (m (s 5))⟩,⟨S 4,N,v (m (s 21))⟩]
def front_changes:LFn:=⟨(Q (O g33r0) (Q (O g33r1) (Q (Q (O g33r2) (K 0 (R g33l0))) (Q (O g33r7) .ret)))),22,[.slot 4]⟩
theorem front_changes_low:aH Tryz.prog 37=some front_changes:=by kernel_rfl
abbrev g34r0:List aA:=[⟨S 1,N,x (.agg 2) (s 0)⟩,⟨S 2,N,v (m (c (.sl F .nil [])))⟩]
abbrev g34r1:List aA:=[⟨S 5,N,v (l (.agg 2) (s 1))⟩,⟨S 6,N,k 63 [s 5]⟩,⟨S 7,N,v (.not (s 6))⟩]
abbrev g34r2:List aA:=[⟨S 2,N,v (m (c (.sl F .nil [])))⟩]
abbrev g34r3:List aA:=[⟨S 3,N,v (m (c (.sl F .nil [])))⟩]
abbrev g34r4:List aA:=[⟨S 8,N,v (f 0 (s 1))⟩,⟨S 9,N,v (l F (s 8))⟩,⟨S 10,N,v (m (c (I j 0)))⟩]
abbrev g34r5:List aA:=[⟨S 11,N,v (b .lss (s 10) (s 9))⟩]
abbrev g34r6:List aA:=[⟨S 12,N,v (m (s 10))⟩,⟨S 4,N,v (m (s 12))⟩]
abbrev g34r7:List aA:=[⟨S 13,N,v (m (s 3))⟩,⟨S 14,N,v (l (.agg 2) (s 1))⟩,⟨S 15,N,v (m (s 4))⟩,⟨S 16,N,k 72 [s 14,s 15]⟩,⟨S 17,N,y F [s 16]⟩,⟨S 18,N,a F 24 (s 13) (s 17)⟩,⟨S 3,N,v (m (s 18))⟩]
abbrev g34r8:List aA:=[⟨S 19,N,v (b .add (s 10) (c (I j 1)))⟩,⟨S 10,N,v (m (s 19))⟩]
abbrev g34l0:bE:=(Q (O g34r5) (Q (C (s 11) Z (X 0)) (Q (K 1 (Q (O g34r6) (O g34r7))) (O g34r8))))
abbrev g34r9:List aA:=[⟨S 20,N,v (m (s 3))⟩,⟨S 2,N,v (m (s 20))⟩]
def path_All:LFn:=⟨(Q (O g34r0) (Q (Q (O g34r1) (C (s 7) (Q (O g34r2) .ret) Z)) (Q (O g34r3) (Q (Q (O g34r4) (K 0 (R g34l0))) (Q (O g34r9) .ret))))),21,[.slot 2]⟩
theorem path_All_low:aH Tryz.prog 38=some path_All:=by kernel_rfl
abbrev g35r0:List aA:=[⟨S 2,N,v (m (c .nilPtr))⟩]
abbrev g35r1:List aA:=[⟨S 3,N,v (m (s 0))⟩,⟨S 4,N,v (e false .ptr (s 3) (c .nilPtr))⟩]
abbrev g35r2:List aA:=[⟨S 2,N,v (m (c .nilPtr))⟩]
abbrev count_Counts_Copy_r3:List (aA×List Nat):=[(⟨S 5,N,v (m (s 0))⟩,[]),(⟨S 6,N,v (n (s 5))⟩,[0]),(⟨S 7,N,v (f 0 (s 6))⟩,[0,1]),(⟨S 8,N,v (l (.agg 2) (s 7))⟩,[0,1,2]),(⟨S 9,N,v (m (s 0))⟩,[]),(⟨S 10,N,v (n (s 9))⟩,[4]),(⟨S 11,N,v (f 2 (s 10))⟩,[4,5]),(⟨S 12,N,v (l F (s 11))⟩,[4,5,6]),(⟨S 13,N,v (m (s 0))⟩,[]),(⟨S 14,N,v (n (s 13))⟩,[8]),(⟨S 15,N,v (f 3 (s 14))⟩,[8,9]),(⟨S 16,N,v (l F (s 15))⟩,[8,9,10]),(⟨S 17,N,k 70 [s 16]⟩,[8,9,10,11]),(⟨S 18,N,v (.build [(I j 0),(.sl (.agg 4) .nil []),(.sl F .nil []),.nilMap] [(0,(.agg 2),(s 8)),(2,F,(s 12)),(3,F,(s 17))])⟩,[0,1,2,3,4,5,6,7,8,9,10,11,12]),(⟨S 19,N,x (.agg 4) (s 18)⟩,[0,1,2,3,4,5,6,7,8,9,10,11,12,13]),(⟨S 2,N,v (m (s 19))⟩,[0,1,2,3,4,5,6,7,8,9,10,11,12,13,14])]
abbrev g35r3t:List aA:=[]
def count_Counts_Copy:LFn:=⟨(Q (O g35r0) (Q (Q (O g35r1) (C (s 4) (Q (O g35r2) .ret) Z)) (Q (D 16 count_Counts_Copy_r3 g35r3t) .ret))),20,[.slot 2]⟩
theorem count_Counts_Copy_low:aH Tryz.prog 39=some count_Counts_Copy:=by kernel_rfl
abbrev g36r0:List aA:=[⟨S 4,N,v (m (c (.bool false)))⟩]
abbrev g36r1:List aA:=[⟨S 5,N,v (m (s 0))⟩,⟨S 6,N,v (e true .ptr (s 5) (c .nilPtr))⟩,⟨S 7,N,v (m (s 6))⟩,⟨S 8,S (7,true),v (m (s 1))⟩,⟨S 9,S (7,true),v (b .geq (s 8) (c (I j 0)))⟩,⟨S 10,N,v (p (s 7) (s 9) (c (.bool false)))⟩,⟨S 11,N,v (m (s 10))⟩,⟨S 12,S (11,true),v (m (s 1))⟩,⟨S 13,S (11,true),v (m (s 0))⟩,⟨S 14,S (11,true),v (n (s 13))⟩,⟨S 15,S (11,true),v (f 2 (s 14))⟩,⟨S 16,S (11,true),v (l F (s 15))⟩,⟨S 17,S (11,true),v (w (s 16))⟩,⟨S 18,S (11,true),v (b .lss (s 12) (s 17))⟩,⟨S 19,N,v (p (s 11) (s 18) (c (.bool false)))⟩,⟨S 4,N,v (m (s 19))⟩]
def front_World_member:LFn:=⟨(Q (O g36r0) (Q (O g36r1) .ret)),20,[.slot 4]⟩
theorem front_World_member_low:aH Tryz.prog 40=some front_World_member:=by kernel_rfl
abbrev g37r0:List aA:=[⟨S 3,N,x (.agg 3) (s 0)⟩,⟨S 4,N,v (m (c (.bool false)))⟩]
abbrev g37r1:List aA:=[⟨S 5,N,v (l F (s 1))⟩,⟨S 6,N,v (l (.agg 3) (s 2))⟩,⟨S 7,N,v (l (.agg 3) (s 3))⟩,⟨S 8,N,k 42 [s 5,s 6,s 7]⟩,⟨S 9,N,v (.not (s 8))⟩,⟨S 4,N,v (m (s 9))⟩]
def front_World_Do_1:LFn:=⟨(Q (O g37r0) (Q (O g37r1) .ret)),10,[.slot 4]⟩
theorem front_World_Do_1_low:aH Tryz.prog 41=some front_World_Do_1:=by kernel_rfl
abbrev g38r0:List aA:=[⟨S 4,N,x (.agg 3) (s 1)⟩,⟨S 5,N,x (.agg 3) (s 2)⟩,⟨S 6,N,v (m (c (.bool false)))⟩]
abbrev g38r1:List (aA×List Nat):=[(⟨S 7,N,v (f 0 (s 5))⟩,[]),(⟨S 8,N,v (l F (s 7))⟩,[0]),(⟨S 9,N,v (b .lss (s 8) (c (I j 0)))⟩,[0,1]),(⟨S 10,N,v (m (s 9))⟩,[0,1,2]),(⟨S 11,S (10,false),v (f 0 (s 5))⟩,[0,1,2,3]),(⟨S 12,S (10,false),v (l F (s 11))⟩,[0,1,2,3,4]),(⟨S 13,S (10,false),v (m (s 0))⟩,[0,1,2,3]),(⟨S 14,S (10,false),v (n (s 13))⟩,[0,1,2,3,6]),(⟨S 15,S (10,false),v (f 0 (s 14))⟩,[0,1,2,3,6,7]),(⟨S 16,S (10,false),v (l F (s 15))⟩,[0,1,2,3,6,7,8]),(⟨S 17,S (10,false),v (w (s 16))⟩,[0,1,2,3,6,7,8,9]),(⟨S 18,S (10,false),v (b .geq (s 12) (s 17))⟩,[0,1,2,3,4,5,6,7,8,9,10]),(⟨S 19,N,v (p (s 10) (c (.bool true)) (s 18))⟩,[0,1,2,3,4,5,6,7,8,9,10,11]),(⟨S 20,N,v (m (s 19))⟩,[0,1,2,3,4,5,6,7,8,9,10,11,12]),(⟨S 21,S (20,false),v (f 0 (s 4))⟩,[0,1,2,3,4,5,6,7,8,9,10,11,12,13]),(⟨S 22,S (20,false),v (l F (s 21))⟩,[0,1,2,3,4,5,6,7,8,9,10,11,12,13,14]),(⟨S 23,S (20,false),v (b .lss (s 22) (c (I j 0)))⟩,[0,1,2,3,4,5,6,7,8,9,10,11,12,13,14,15]),(⟨S 24,N,v (p (s 20) (c (.bool true)) (s 23))⟩,[0,1,2,3,4,5,6,7,8,9,10,11,12,13,14,15,16]),(⟨S 25,N,v (m (s 24))⟩,[0,1,2,3,4,5,6,7,8,9,10,11,12,13,14,15,16,17]),(⟨S 26,S (25,false),v (f 0 (s 4))⟩,[0,1,2,3,4,5,6,7,8,9,10,11,12,13,14,15,16,17,18]),(⟨S 27,S (25,false),v (l F (s 26))⟩,[0,1,2,3,4,5,6,7,8,9,10,11,12,13,14,15,16,17,18,19]),(⟨S 28,S (25,false),v (m (s 0))⟩,[0,1,2,3,4,5,6,7,8,9,10,11,12,13,14,15,16,17,18]),(⟨S 29,S (25,false),v (n (s 28))⟩,[0,1,2,3,4,5,6,7,8,9,10,11,12,13,14,15,16,17,18,21]),(⟨S 30,S (25,false),v (f 0 (s 29))⟩,[0,1,2,3,4,5,6,7,8,9,10,11,12,13,14,15,16,17,18,21,22]),(⟨S 31,S (25,false),v (l F (s 30))⟩,[0,1,2,3,4,5,6,7,8,9,10,11,12,13,14,15,16,17,18,21,22,23]),(⟨S 32,S (25,false),v (w (s 31))⟩,[0,1,2,3,4,5,6,7,8,9,10,11,12,13,14,15,16,17,18,21,22,23,24]),(⟨S 33,S (25,false),v (b .geq (s 27) (s 32))⟩,[0,1,2,3,4,5,6,7,8,9,10,11,12,13,14,15,16,17,18,19,20,21,22,23,24,25]),(⟨S 34,N,v (p (s 25) (c (.bool true)) (s 33))⟩,[0,1,2,3,4,5,6,7,8,9,10,11,12,13,14,15,16,17,18,19,20,21,22,23,24,25,26])]
abbrev g38r1t:List aA:=[]
abbrev g38r2:List aA:=[⟨S 6,N,v (m (c (.bool false)))⟩]
abbrev g38r3:List (aA×List Nat):=[(⟨S 35,N,v (m (s 0))⟩,[]),(⟨S 36,N,v (n (s 35))⟩,[0]),(⟨S 37,N,v (f 0 (s 36))⟩,[0,1]),(⟨S 38,N,v (l F (s 37))⟩,[0,1,2]),(⟨S 39,N,v (f 0 (s 4))⟩,[]),(⟨S 40,N,v (l F (s 39))⟩,[4]),(⟨S 41,N,v (i F (s 38) (s 40))⟩,[0,1,2,3,4,5]),(⟨S 42,N,v (l F (s 41))⟩,[0,1,2,3,4,5,6]),(⟨S 43,N,v (f 0 (s 5))⟩,[]),(⟨S 44,N,v (l F (s 43))⟩,[8]),(⟨S 45,N,v (i F (s 42) (s 44))⟩,[0,1,2,3,4,5,6,7,8,9]),(⟨S 46,N,v (l F (s 45))⟩,[0,1,2,3,4,5,6,7,8,9,10]),(⟨S 47,N,v (l (.agg 3) (s 4))⟩,[]),(⟨S 48,N,v (l (.agg 3) (s 5))⟩,[]),(⟨S 49,N,k 51 [s 46,s 47,s 48]⟩,[0,1,2,3,4,5,6,7,8,9,10,11,12,13]),(⟨S 6,N,v (m (s 49))⟩,[0,1,2,3,4,5,6,7,8,9,10,11,12,13,14])]
abbrev g38r3t:List aA:=[]
def front_World_makes:LFn:=⟨(Q (O g38r0) (Q (Q (D 28 g38r1 g38r1t) (C (s 34) (Q (O g38r2) .ret) Z)) (Q (D 16 g38r3 g38r3t) .ret))),50,[.slot 6]⟩
theorem front_World_makes_low:aH Tryz.prog 42=some front_World_makes:=by kernel_rfl
abbrev g39r0:List aA:=[⟨S 3,N,x (.agg 3) (s 1)⟩,⟨S 4,N,v (m (c (I j 0)))⟩]
abbrev g39r1:List aA:=[⟨S 5,N,v (m (s 0))⟩,⟨S 6,N,v (e false .ptr (s 5) (c .nilPtr))⟩]
abbrev g39r2:List aA:=[⟨S 4,N,v (m (c (I j 0)))⟩]
abbrev g39r3:List (aA×List Nat):=[(⟨S 7,N,v (m (s 0))⟩,[]),(⟨S 8,N,v (n (s 7))⟩,[0]),(⟨S 9,N,v (f 3 (s 8))⟩,[0,1]),(⟨S 10,N,v (l F (s 9))⟩,[0,1,2]),(⟨S 11,N,v (l (.agg 3) (s 3))⟩,[]),(⟨S 12,N,v (.mget (.agg 3) [.int,.int,.int] (I j 0) false (s 10) (s 11))⟩,[0,1,2,3,4]),(⟨S 4,N,v (m (s 12))⟩,[0,1,2,3,4,5])]
abbrev g39r3t:List aA:=[]
def count_Counts_Get:LFn:=⟨(Q (O g39r0) (Q (Q (O g39r1) (C (s 6) (Q (O g39r2) .ret) Z)) (Q (D 7 g39r3 g39r3t) .ret))),13,[.slot 4]⟩
theorem count_Counts_Get_low:aH Tryz.prog 43=some count_Counts_Get:=by kernel_rfl
abbrev g41r0:List aA:=[⟨S 4,N,v (m (c (.bool false)))⟩]
abbrev g41r1:List aA:=[⟨S 6,N,v (m (s 0))⟩,⟨S 7,N,v (n (s 6))⟩,⟨S 8,N,v (f 2 (s 7))⟩,⟨S 9,N,v (l F (s 8))⟩,⟨S 10,N,v (w (s 9))⟩,⟨S 11,N,v (m (c (I j 0)))⟩]
abbrev g41r2:List aA:=[⟨S 12,N,v (b .lss (s 11) (s 10))⟩]
abbrev g41r3:List aA:=[⟨S 13,N,v (m (s 11))⟩,⟨S 5,N,v (m (s 13))⟩]
abbrev g41r4:List aA:=[⟨S 14,N,v (m (s 0))⟩,⟨S 15,N,v (n (s 14))⟩,⟨S 16,N,v (f 3 (s 15))⟩,⟨S 17,N,v (l F (s 16))⟩,⟨S 18,N,v (m (s 1))⟩,⟨S 19,N,v (m (s 5))⟩,⟨S 20,N,v (.build [(I j 0),(I j 0)] [(0,F,(s 18)),(1,F,(s 19))])⟩,⟨S 21,N,v (.mget (.agg 2) [.int,.int] (.sl F .nil []) false (s 17) (s 20))⟩,⟨S 22,N,v (w (s 21))⟩,⟨S 23,N,v (b .geq (s 22) (c (I j 1000)))⟩]
abbrev g41r5:List aA:=[⟨S 4,N,v (m (c (.bool true)))⟩]
abbrev g41r6:List aA:=[⟨S 24,N,v (b .add (s 11) (c (I j 1)))⟩,⟨S 11,N,v (m (s 24))⟩]
abbrev g41l0:bE:=(Q (O g41r2) (Q (C (s 12) Z (X 0)) (Q (K 1 (Q (O g41r3) (Q (O g41r4) (C (s 23) (Q (O g41r5) .ret) Z)))) (O g41r6))))
abbrev g41r7:List aA:=[⟨S 4,N,v (m (c (.bool false)))⟩]
def front_World_full:LFn:=⟨(Q (O g41r0) (Q (Q (O g41r1) (K 0 (R g41l0))) (Q (O g41r7) .ret))),25,[.slot 4]⟩
theorem front_World_full_low:aH Tryz.prog 45=some front_World_full:=by kernel_rfl
abbrev g42r0:List aA:=[⟨S 2,N,v (m (c (.sl F .nil [])))⟩]
abbrev g42r1:List aA:=[⟨S 6,N,v (m (s 0))⟩,⟨S 7,N,v (e false .ptr (s 6) (c .nilPtr))⟩]
abbrev g42r2:List aA:=[⟨S 2,N,v (m (c (.sl F .nil [])))⟩]
abbrev g42r3:List aA:=[⟨S 3,N,v (m (c (.sl F .nil [])))⟩]
abbrev g42r4:List aA:=[⟨S 8,N,v (m (s 0))⟩,⟨S 9,N,k 74 [s 8]⟩,⟨S 4,N,v (m (s 9))⟩]
abbrev g42r5:List aA:=[⟨S 10,N,v (m (s 0))⟩,⟨S 11,N,v (n (s 10))⟩,⟨S 12,N,v (f 0 (s 11))⟩,⟨S 13,N,v (f 0 (s 12))⟩,⟨S 14,N,v (l F (s 13))⟩,⟨S 15,N,v (m (c (I j 0)))⟩]
abbrev g42r6:List aA:=[⟨S 16,N,v (b .lss (s 15) (s 14))⟩]
abbrev g42r7:List aA:=[⟨S 17,N,v (m (s 15))⟩,⟨S 5,N,v (m (s 17))⟩]
abbrev g42r8:List aA:=[⟨S 18,N,v (m (s 3))⟩,⟨S 19,N,v (m (s 0))⟩,⟨S 20,N,v (m (s 4))⟩,⟨S 21,N,v (m (s 5))⟩,⟨S 22,N,k 75 [s 19,s 20,s 21]⟩,⟨S 23,N,y F [s 22]⟩,⟨S 24,N,a F 24 (s 18) (s 23)⟩,⟨S 3,N,v (m (s 24))⟩]
abbrev g42r9:List aA:=[⟨S 25,N,v (b .add (s 15) (c (I j 1)))⟩,⟨S 15,N,v (m (s 25))⟩]
abbrev g42l0:bE:=(Q (O g42r6) (Q (C (s 16) Z (X 0)) (Q (K 1 (Q (O g42r7) (O g42r8))) (O g42r9))))
abbrev g42r10:List aA:=[⟨S 26,N,v (m (s 3))⟩,⟨S 2,N,v (m (s 26))⟩]
def count_Counts_Fronts:LFn:=⟨(Q (O g42r0) (Q (Q (O g42r1) (C (s 7) (Q (O g42r2) .ret) Z)) (Q (O g42r3) (Q (O g42r4) (Q (Q (O g42r5) (K 0 (R g42l0))) (Q (O g42r10) .ret)))))),27,[.slot 2]⟩
theorem count_Counts_Fronts_low:aH Tryz.prog 46=some count_Counts_Fronts:=by kernel_rfl
abbrev chain_AtMost_r0:List aA:=[⟨S 2,N,x F (s 0)⟩,⟨S 4,N,v (m (c (.bool false)))⟩]
abbrev chain_AtMost_r1:List aA:=[⟨S 5,N,v (m (s 1))⟩,⟨S 6,N,v (.mkfn (.func 77) [] [s 2])⟩,⟨S 7,N,k 76 [s 5,s 6]⟩,⟨S 8,N,v (.not (s 7))⟩,⟨S 4,N,v (m (s 8))⟩]
def chain_AtMost:LFn:=⟨(Q (O chain_AtMost_r0) (Q (O chain_AtMost_r1) .ret)),9,[.slot 4]⟩
theorem chain_AtMost_low:aH Tryz.prog 47=some chain_AtMost:=by kernel_rfl
abbrev g46r0:List aA:=[⟨S 4,N,x (.agg 3) (s 1)⟩,⟨S 5,N,x (.agg 3) (s 2)⟩,⟨S 6,N,v (m (c (.bool false)))⟩]
abbrev g46r1:List aA:=[⟨S 8,N,v (.mkfn (.func 82) [] [s 4,s 5])⟩,⟨S 7,N,v (m (s 8))⟩]
abbrev g46r2:List aA:=[⟨S 9,N,v (l (.agg 3) (s 4))⟩,⟨S 10,N,v (l (.agg 3) (s 5))⟩,⟨S 11,N,v (e true (.plain (.agg 3) [.int,.int,.int]) (s 9) (s 10))⟩,⟨S 12,N,v (m (s 11))⟩,⟨S 13,S (12,true),v (f 1 (s 5))⟩,⟨S 14,S (12,true),v (l (.agg 2) (s 13))⟩,⟨S 15,S (12,true),k 66 [s 14]⟩,⟨S 16,N,v (p (s 12) (s 15) (c (.bool false)))⟩,⟨S 17,N,v (m (s 16))⟩,⟨S 18,S (17,true),v (m (s 0))⟩,⟨S 19,S (17,true),v (m (s 7))⟩,⟨S 20,S (17,true),k 85 [s 18,s 19]⟩,⟨S 21,N,v (p (s 17) (s 20) (c (.bool false)))⟩,⟨S 6,N,v (m (s 21))⟩]
def front_comes:LFn:=⟨(Q (O g46r0) (Q (O g46r1) (Q (O g46r2) .ret))),22,[.slot 6]⟩
theorem front_comes_low:aH Tryz.prog 51=some front_comes:=by kernel_rfl
abbrev g51r0:List aA:=[⟨S 4,N,v (m (c (.bool false)))⟩]
abbrev g51r1:List aA:=[⟨S 9,N,v (m (s 0))⟩,⟨S 10,N,v (.mlen (s 9))⟩,⟨S 11,N,v (m (s 1))⟩,⟨S 12,N,v (.mlen (s 11))⟩,⟨S 13,N,v (b .neq (s 10) (s 12))⟩]
abbrev g51r2:List aA:=[⟨S 4,N,v (m (c (.bool false)))⟩]
abbrev g51r3:List aA:=[⟨S 14,N,v (m (s 0))⟩,⟨S 15,N,.mp (.rng (s 14))⟩]
abbrev g51r4:List aA:=[⟨S 16,N,.mp (.nxt (s 15))⟩,⟨S 17,N,v (q (s 16) 0)⟩]
abbrev g51r5:List aA:=[⟨S 18,N,.mp (.key (s 15))⟩,⟨S 19,N,v (q (s 18) 0)⟩,⟨S 20,N,v (q (s 18) 1)⟩,⟨S 5,N,x (.agg 3) (c (.agg [(I j 0),(I j 0),(I j 0)]))⟩,⟨N,N,t (.agg 3) (s 5) (s 19)⟩,⟨S 6,N,v (m (s 20))⟩]
abbrev g51r6:List aA:=[⟨S 22,N,v (m (s 1))⟩,⟨S 23,N,v (l (.agg 3) (s 5))⟩,⟨S 24,N,v (.mget (.agg 3) [.int,.int,.int] (I j 0) true (s 22) (s 23))⟩,⟨S 21,N,v (m (s 24))⟩,⟨S 25,N,v (q (s 21) 0)⟩,⟨S 26,N,v (q (s 21) 1)⟩,⟨S 7,N,v (m (s 25))⟩,⟨S 8,N,v (m (s 26))⟩]
abbrev g51r7:List aA:=[⟨S 27,N,v (m (s 8))⟩,⟨S 28,N,v (.not (s 27))⟩,⟨S 29,N,v (m (s 28))⟩,⟨S 30,S (29,false),v (m (s 6))⟩,⟨S 31,S (29,false),v (m (s 7))⟩,⟨S 32,S (29,false),v (b .neq (s 30) (s 31))⟩,⟨S 33,N,v (p (s 29) (c (.bool true)) (s 32))⟩]
abbrev g51r8:List aA:=[⟨S 4,N,v (m (c (.bool false)))⟩]
abbrev g51l0:bE:=(Q (O g51r4) (Q (C (s 17) Z (X 0)) (K 1 (Q (O g51r5) (Q (O g51r6) (Q (O g51r7) (C (s 33) (Q (O g51r8) .ret) Z)))))))
abbrev g51r9:List aA:=[⟨S 4,N,v (m (c (.bool true)))⟩]
def maps_Equal_map_count_Stamp_int_map_count_Stamp_int_count_Stamp_int:LFn:=⟨(Q (O g51r0) (Q (Q (O g51r1) (C (s 13) (Q (O g51r2) .ret) Z)) (Q (Q (O g51r3) (K 0 (R g51l0))) (Q (O g51r9) .ret)))),34,[.slot 4]⟩
theorem maps_Equal_map_count_Stamp_int_map_count_Stamp_int_count_Stamp_int_low:aH Tryz.prog 58=some maps_Equal_map_count_Stamp_int_map_count_Stamp_int_count_Stamp_int:=by kernel_rfl
abbrev g55r0:List aA:=[⟨S 2,N,x F (s 0)⟩,⟨S 4,N,x (.agg 2) (c (.agg [(I j 0),(.sl (.agg 4) .nil [])]))⟩,⟨S 5,N,v (m (c .nilIface))⟩]
abbrev g55r1:List aA:=[⟨S 8,N,v (.mkfn (.func 94) [] [s 2])⟩,⟨S 6,N,v (m (s 8))⟩]
abbrev g55r2:List aA:=[⟨S 9,N,v (l F (s 2))⟩,⟨S 10,N,v (b .lss (s 9) (c (I j 0)))⟩,⟨S 11,N,v (m (s 10))⟩,⟨S 12,S (11,false),v (l F (s 2))⟩,⟨S 13,S (11,false),v (b .gtr (s 12) (c (I j 200)))⟩,⟨S 14,N,v (p (s 11) (c (.bool true)) (s 13))⟩,⟨S 15,N,v (m (s 14))⟩,⟨S 16,S (15,false),v (m (s 1))⟩,⟨S 17,S (15,false),v (m (s 6))⟩,⟨S 18,S (15,false),k 96 [s 16,s 17]⟩,⟨S 19,N,v (p (s 15) (c (.bool true)) (s 18))⟩]
abbrev g55r3:List aA:=[⟨S 20,N,v (.build [(I j 0),(.sl (.agg 4) .nil [])] [])⟩,⟨S 21,N,v (.mkif 64 (c (I j 1)))⟩,⟨N,N,t (.agg 2) (s 4) (s 20)⟩,⟨S 5,N,v (m (s 21))⟩]
abbrev g55r4:List aA:=[⟨S 22,N,v (m (s 1))⟩,⟨S 23,N,k 99 [s 22]⟩,⟨S 24,N,k 98 [s 23,(c (.fn (.func 100) [] []))]⟩,⟨S 25,N,k 97 [s 24]⟩,⟨S 7,N,v (m (s 25))⟩]
abbrev path_New_r5:List aA:=[⟨S 26,N,v (m (s 7))⟩,⟨S 27,N,k 101 [s 26]⟩,⟨S 28,N,v (b .gtr (s 27) (c (I j 1048576)))⟩]
abbrev path_New_r6:List aA:=[⟨S 29,N,v (.build [(I j 0),(.sl (.agg 4) .nil [])] [])⟩,⟨S 30,N,v (.mkif 64 (c (I j 1)))⟩,⟨N,N,t (.agg 2) (s 4) (s 29)⟩,⟨S 5,N,v (m (s 30))⟩]
abbrev path_New_r7:List aA:=[⟨S 31,N,v (l F (s 2))⟩,⟨S 32,N,v (m (s 7))⟩,⟨S 33,N,k 102 [s 31,s 32]⟩,⟨S 34,N,v (m (s 33))⟩,⟨S 35,S (34,false),v (l F (s 2))⟩,⟨S 36,S (34,false),v (m (s 7))⟩,⟨S 37,S (34,false),k 103 [s 35,s 36]⟩,⟨S 38,N,v (p (s 34) (c (.bool true)) (s 37))⟩]
abbrev path_New_r8:List aA:=[⟨S 39,N,v (.build [(I j 0),(.sl (.agg 4) .nil [])] [])⟩,⟨S 40,N,v (.mkif 64 (c (I j 9)))⟩,⟨N,N,t (.agg 2) (s 4) (s 39)⟩,⟨S 5,N,v (m (s 40))⟩]
abbrev path_New_r9:List aA:=[⟨S 41,N,v (l F (s 2))⟩,⟨S 42,N,v (m (s 7))⟩,⟨S 43,N,v (.build [(I j 0),(.sl (.agg 4) .nil [])] [(0,F,(s 41)),(1,F,(s 42))])⟩,⟨N,N,t (.agg 2) (s 4) (s 43)⟩,⟨S 5,N,v (m (c .nilIface))⟩]
def path_New:LFn:=⟨(Q (O g55r0) (Q (O g55r1) (Q (Q (O g55r2) (C (s 19) (Q (O g55r3) .ret) Z)) (Q (O g55r4) (Q (Q (O path_New_r5) (C (s 28) (Q (O path_New_r6) .ret) Z)) (Q (Q (O path_New_r7) (C (s 38) (Q (O path_New_r8) .ret) Z)) (Q (O path_New_r9) .ret))))))),44,[.cell 4 (.agg 2),.slot 5]⟩
theorem path_New_low:aH Tryz.prog 62=some path_New:=by kernel_rfl
abbrev g56r0:List aA:=[⟨S 1,N,x (.agg 2) (s 0)⟩,⟨S 2,N,v (m (c (.bool false)))⟩]
abbrev g56r1:List aA:=[⟨S 6,N,v (f 0 (s 1))⟩,⟨S 7,N,v (l F (s 6))⟩,⟨S 8,N,v (f 1 (s 1))⟩,⟨S 9,N,v (l F (s 8))⟩,⟨S 10,N,k 62 [s 7,s 9]⟩,⟨S 5,N,v (m (s 10))⟩,⟨S 11,N,v (q (s 5) 0)⟩,⟨S 12,N,v (q (s 5) 1)⟩,⟨S 3,N,x (.agg 2) (c (.agg [(I j 0),(.sl (.agg 4) .nil [])]))⟩,⟨N,N,t (.agg 2) (s 3) (s 11)⟩,⟨S 4,N,v (m (s 12))⟩]
abbrev g56r2:List aA:=[⟨S 13,N,v (m (s 4))⟩,⟨S 14,N,v (e false (.iface true) (s 13) (c .nilIface))⟩,⟨S 15,N,v (m (s 14))⟩,⟨S 16,S (15,true),v (f 1 (s 3))⟩,⟨S 17,S (15,true),v (l F (s 16))⟩,⟨S 18,S (15,true),v (f 1 (s 1))⟩,⟨S 19,S (15,true),v (l F (s 18))⟩,⟨S 20,S (15,true),k 57 [s 17,s 19]⟩,⟨S 21,N,v (p (s 15) (s 20) (c (.bool false)))⟩,⟨S 2,N,v (m (s 21))⟩]
def path_Right:LFn:=⟨(Q (O g56r0) (Q (O g56r1) (Q (O g56r2) .ret))),22,[.slot 2]⟩
theorem path_Right_low:aH Tryz.prog 63=some path_Right:=by kernel_rfl
abbrev g58r0:List aA:=[⟨S 2,N,x (.agg 4) (s 0)⟩,⟨S 3,N,v (m (c (.bool false)))⟩]
abbrev g58r1:List (aA×List Nat):=[(⟨S 4,N,v (f 0 (s 2))⟩,[]),(⟨S 5,N,v (f 0 (s 4))⟩,[0]),(⟨S 6,N,v (l F (s 5))⟩,[0,1]),(⟨S 7,N,v (b .lss (s 6) (c (I j 0)))⟩,[0,1,2]),(⟨S 8,N,v (m (s 7))⟩,[0,1,2,3]),(⟨S 9,S (8,false),v (f 0 (s 2))⟩,[0,1,2,3,4]),(⟨S 10,S (8,false),v (f 0 (s 9))⟩,[0,1,2,3,4,5]),(⟨S 11,S (8,false),v (l F (s 10))⟩,[0,1,2,3,4,5,6]),(⟨S 12,S (8,false),v (l F (s 1))⟩,[0,1,2,3,4]),(⟨S 13,S (8,false),v (n (s 12))⟩,[0,1,2,3,4,8]),(⟨S 14,S (8,false),v (f 0 (s 13))⟩,[0,1,2,3,4,8,9]),(⟨S 15,S (8,false),v (f 0 (s 14))⟩,[0,1,2,3,4,8,9,10]),(⟨S 16,S (8,false),v (l F (s 15))⟩,[0,1,2,3,4,8,9,10,11]),(⟨S 17,S (8,false),v (b .geq (s 11) (s 16))⟩,[0,1,2,3,4,5,6,7,8,9,10,11,12]),(⟨S 18,N,v (p (s 8) (c (.bool true)) (s 17))⟩,[0,1,2,3,4,5,6,7,8,9,10,11,12,13]),(⟨S 19,N,v (m (s 18))⟩,[0,1,2,3,4,5,6,7,8,9,10,11,12,13,14]),(⟨S 20,S (19,false),v (f 0 (s 2))⟩,[0,1,2,3,4,5,6,7,8,9,10,11,12,13,14,15]),(⟨S 21,S (19,false),v (f 1 (s 20))⟩,[0,1,2,3,4,5,6,7,8,9,10,11,12,13,14,15,16]),(⟨S 22,S (19,false),v (l (.agg 2) (s 21))⟩,[0,1,2,3,4,5,6,7,8,9,10,11,12,13,14,15,16,17]),(⟨S 23,S (19,false),k 66 [s 22]⟩,[0,1,2,3,4,5,6,7,8,9,10,11,12,13,14,15,16,17,18]),(⟨S 24,S (19,false),v (.not (s 23))⟩,[0,1,2,3,4,5,6,7,8,9,10,11,12,13,14,15,16,17,18,19]),(⟨S 25,N,v (p (s 19) (c (.bool true)) (s 24))⟩,[0,1,2,3,4,5,6,7,8,9,10,11,12,13,14,15,16,17,18,19,20]),(⟨S 3,N,v (m (s 25))⟩,[0,1,2,3,4,5,6,7,8,9,10,11,12,13,14,15,16,17,18,19,20,21])]
abbrev g58r1t:List aA:=[]
def count_Counts_Apply_1:LFn:=⟨(Q (O g58r0) (Q (D 23 g58r1 g58r1t) .ret)),26,[.slot 3]⟩
theorem count_Counts_Apply_1_low:aH Tryz.prog 65=some count_Counts_Apply_1:=by kernel_rfl
abbrev stamp_Right_r0:List aA:=[⟨S 1,N,x (.agg 2) (s 0)⟩,⟨S 2,N,v (m (c (.bool false)))⟩]
abbrev stamp_Right_r1:List aA:=[⟨S 3,N,v (f 0 (s 1))⟩,⟨S 4,N,v (l F (s 3))⟩,⟨S 5,N,k 104 [s 4,(c (I j 1048576))]⟩,⟨S 6,N,v (m (s 5))⟩,⟨S 7,S (6,true),v (f 1 (s 1))⟩,⟨S 8,S (6,true),v (l F (s 7))⟩,⟨S 9,S (6,true),k 104 [s 8,(c (I j 1048576))]⟩,⟨S 10,N,v (p (s 6) (s 9) (c (.bool false)))⟩,⟨S 2,N,v (m (s 10))⟩]
def stamp_Right:LFn:=⟨(Q (O stamp_Right_r0) (Q (O stamp_Right_r1) .ret)),11,[.slot 2]⟩
theorem stamp_Right_low:aH Tryz.prog 66=some stamp_Right:=by kernel_rfl
abbrev g59r0:List aA:=[⟨S 1,N,x (.agg 4) (s 0)⟩,⟨S 2,N,v (m (c (.bool false)))⟩]
abbrev g59r1:List aA:=[⟨S 3,N,v (f 3 (s 1))⟩,⟨S 4,N,v (l F (s 3))⟩,⟨S 5,N,k 68 [s 4]⟩,⟨S 6,N,v (.not (s 5))⟩,⟨S 2,N,v (m (s 6))⟩]
def count_Counts_Apply_2:LFn:=⟨(Q (O g59r0) (Q (O g59r1) .ret)),7,[.slot 2]⟩
theorem count_Counts_Apply_2_low:aH Tryz.prog 67=some count_Counts_Apply_2:=by kernel_rfl
abbrev g60r0:List aA:=[⟨S 2,N,v (m (c (.bool false)))⟩]
abbrev g60r1:List aA:=[⟨S 3,N,v (m (s 0))⟩,⟨S 4,N,v (b .geq (s 3) (c (I j (-1000000))))⟩,⟨S 5,N,v (m (s 4))⟩,⟨S 6,S (5,true),v (m (s 0))⟩,⟨S 7,S (5,true),v (b .leq (s 6) (c (I j 1000000)))⟩,⟨S 8,N,v (p (s 5) (s 7) (c (.bool false)))⟩,⟨S 2,N,v (m (s 8))⟩]
def count_within:LFn:=⟨(Q (O g60r0) (Q (O g60r1) .ret)),9,[.slot 2]⟩
theorem count_within_low:aH Tryz.prog 68=some count_within:=by kernel_rfl
abbrev g63r0:List aA:=[⟨S 4,N,x (.agg 3) (s 1)⟩]
abbrev count_add_r1:List (aA×List Nat):=[(⟨S 6,N,v (m (s 0))⟩,[]),(⟨S 7,N,v (l (.agg 3) (s 4))⟩,[]),(⟨S 8,N,v (.mget (.agg 3) [.int,.int,.int] (I j 0) false (s 6) (s 7))⟩,[0,1]),(⟨S 9,N,v (m (s 2))⟩,[]),(⟨S 10,N,v (b .add (s 8) (s 9))⟩,[0,1,2,3]),(⟨S 11,N,.mp (.ent (.agg 3) [.int,.int,.int] (I j 0) (s 6) (s 7))⟩,[0,1,3]),(⟨S 12,N,v (q (s 11) 1)⟩,[0,1,3,5]),(⟨N,N,.mp (.est (s 6) (s 12) (s 10))⟩,[0,1,2,3,4,5,6])]
abbrev g63r1t:List aA:=[]
abbrev g63r2:List aA:=[⟨S 13,N,v (m (s 0))⟩,⟨S 14,N,v (l (.agg 3) (s 4))⟩,⟨S 15,N,v (.mget (.agg 3) [.int,.int,.int] (I j 0) false (s 13) (s 14))⟩,⟨S 16,N,v (b .eql (s 15) (c (I j 0)))⟩]
abbrev g63r3:List aA:=[⟨S 17,N,v (m (s 0))⟩,⟨S 18,N,v (l (.agg 3) (s 4))⟩,⟨N,N,.mp (.del (.agg 3) [.int,.int,.int] (s 17) (s 18))⟩]
def count_add:LFn:=⟨(Q (O g63r0) (Q (D 8 count_add_r1 g63r1t) (Q (O g63r2) (C (s 16) (O g63r3) Z)))),19,[]⟩
theorem count_add_low:aH Tryz.prog 71=some count_add:=by kernel_rfl
abbrev g64r0:List aA:=[⟨S 2,N,x (.agg 2) (s 0)⟩,⟨S 4,N,v (m (c (.sl F .nil [])))⟩]
abbrev g64r1:List aA:=[⟨S 16,N,v (f 0 (s 2))⟩,⟨S 17,N,v (l F (s 16))⟩,⟨S 18,N,.mkz F 24 (s 17) (.sl (.agg 2) .nil [])⟩,⟨S 5,N,v (m (s 18))⟩]
abbrev g64r2:List aA:=[⟨S 19,N,v (m (s 5))⟩,⟨S 20,N,v (m (s 1))⟩,⟨S 21,N,v (.build [(.bool false),(I j 0)] [])⟩,⟨S 22,N,y (.agg 2) [s 21]⟩,⟨S 23,N,v (i F (s 19) (s 20))⟩,⟨N,N,t F (s 23) (s 22)⟩]
abbrev g64r3:List aA:=[⟨S 24,N,v (m (s 1))⟩,⟨S 25,N,y F [s 24]⟩,⟨S 6,N,v (m (s 25))⟩]
abbrev g64r4:List aA:=[⟨S 26,N,v (m (s 6))⟩,⟨S 27,N,v (w (s 26))⟩,⟨S 28,N,v (b .gtr (s 27) (c (I j 0)))⟩]
abbrev g64r5:List aA:=[⟨S 29,N,v (m (s 6))⟩,⟨S 30,N,v (i F (s 29) (c (I j 0)))⟩,⟨S 31,N,v (l F (s 30))⟩,⟨S 7,N,v (m (s 31))⟩]
abbrev g64r6:List aA:=[⟨S 32,N,v (m (s 6))⟩,⟨S 33,N,v (.slc F (s 32) (.some (c (I j 1))) .none .none)⟩,⟨S 6,N,v (m (s 33))⟩]
abbrev g64r7:List aA:=[⟨S 34,N,v (m (s 5))⟩,⟨S 35,N,v (m (s 7))⟩,⟨S 36,N,v (i F (s 34) (s 35))⟩,⟨S 37,N,v (l F (s 36))⟩,⟨S 38,N,k 107 [s 37]⟩,⟨S 8,N,v (m (s 38))⟩]
abbrev g64r8:List aA:=[⟨S 39,N,v (f 1 (s 2))⟩,⟨S 40,N,v (l F (s 39))⟩,⟨S 41,N,v (w (s 40))⟩,⟨S 42,N,v (m (c (I j 0)))⟩]
abbrev g64r9:List aA:=[⟨S 43,N,v (b .lss (s 42) (s 41))⟩]
abbrev g64r10:List aA:=[⟨S 44,N,v (i (.agg 4) (s 40) (s 42))⟩,⟨S 45,N,v (l (.agg 4) (s 44))⟩,⟨S 10,N,x (.agg 4) (c (.agg [(I j 0),(I j 0),(.bool false),(I j 0)]))⟩,⟨N,N,t (.agg 4) (s 10) (s 45)⟩]
abbrev g64r11:List aA:=[⟨S 46,N,v (f 0 (s 10))⟩,⟨S 47,N,v (l F (s 46))⟩,⟨S 48,N,v (m (s 7))⟩,⟨S 49,N,v (b .neq (s 47) (s 48))⟩]
abbrev g64r12:List aA:=[⟨S 50,N,v (m (s 8))⟩,⟨S 51,N,v (w (s 50))⟩,⟨S 52,N,v (m (c (I j 0)))⟩]
abbrev g64r13:List aA:=[⟨S 53,N,v (b .lss (s 52) (s 51))⟩]
abbrev g64r14:List aA:=[⟨S 54,N,v (i (.agg 2) (s 50) (s 52))⟩,⟨S 55,N,v (l (.agg 2) (s 54))⟩,⟨S 12,N,x (.agg 2) (c (.agg [(.bool false),(I j 0)]))⟩,⟨N,N,t (.agg 2) (s 12) (s 55)⟩]
abbrev g64r15:List aA:=[⟨S 57,N,v (l (.agg 2) (s 12))⟩,⟨S 58,N,v (f 2 (s 10))⟩,⟨S 59,N,v (l (.agg 2) (s 58))⟩,⟨S 60,N,k 108 [s 57,s 59]⟩,⟨S 56,N,v (m (s 60))⟩,⟨S 61,N,v (q (s 56) 0)⟩,⟨S 62,N,v (q (s 56) 1)⟩,⟨S 13,N,x (.agg 2) (c (.agg [(.bool false),(I j 0)]))⟩,⟨N,N,t (.agg 2) (s 13) (s 61)⟩,⟨S 14,N,v (m (s 62))⟩]
abbrev g64r16:List aA:=[⟨S 63,N,v (m (s 14))⟩,⟨S 64,N,v (e true (.iface true) (s 63) (c .nilIface))⟩]
abbrev g64r17:List aA:=[⟨S 15,N,v (m (c (.bool false)))⟩]
abbrev g64r18:List (aA×List Nat):=[(⟨S 66,N,v (m (s 5))⟩,[]),(⟨S 67,N,v (f 1 (s 10))⟩,[]),(⟨S 68,N,v (l F (s 67))⟩,[1]),(⟨S 69,N,v (m (s 5))⟩,[]),(⟨S 70,N,v (f 1 (s 10))⟩,[]),(⟨S 71,N,v (l F (s 70))⟩,[4]),(⟨S 72,N,v (i F (s 69) (s 71))⟩,[3,4,5]),(⟨S 73,N,v (l F (s 72))⟩,[3,4,5,6]),(⟨S 74,N,v (l (.agg 2) (s 13))⟩,[]),(⟨S 75,N,.callw 109 [s 73,s 74] [s 67]⟩,[3,4,5,6,7,8]),(⟨S 65,N,v (m (s 75))⟩,[3,4,5,6,7,8,9]),(⟨S 76,N,v (q (s 65) 0)⟩,[3,4,5,6,7,8,9,10]),(⟨S 77,N,v (q (s 65) 1)⟩,[3,4,5,6,7,8,9,10]),(⟨S 78,N,v (i F (s 66) (s 68))⟩,[0,1,2,3,4,5,6,7,8,9,10,11]),(⟨N,N,t F (s 78) (s 76)⟩,[0,1,2,3,4,5,6,7,8,9,10,11,13]),(⟨S 15,N,v (m (s 77))⟩,[0,1,2,3,4,5,6,7,8,9,10,11,12,13,14])]
abbrev g64r18t:List aA:=[]
abbrev g64r19:List aA:=[⟨S 79,N,v (m (s 15))⟩]
abbrev g64r20:List aA:=[⟨S 80,N,v (m (s 6))⟩,⟨S 81,N,v (f 1 (s 10))⟩,⟨S 82,N,v (l F (s 81))⟩,⟨S 83,N,y F [s 82]⟩,⟨S 84,N,a F 8 (s 80) (s 83)⟩,⟨S 6,N,v (m (s 84))⟩]
abbrev g64r21:List aA:=[⟨S 85,N,v (b .add (s 52) (c (I j 1)))⟩,⟨S 52,N,v (m (s 85))⟩]
abbrev g64l0:bE:=(Q (O g64r13) (Q (C (s 53) Z (X 4)) (Q (K 5 (Q (O g64r14) (Q (O g64r15) (Q (Q (O g64r16) (C (s 64) (X 5) Z)) (Q (O g64r17) (Q (D 16 g64r18 g64r18t) (Q (O g64r19) (C (s 79) (O g64r20) Z)))))))) (O g64r21))))
abbrev g64r22:List aA:=[⟨S 86,N,v (b .add (s 42) (c (I j 1)))⟩,⟨S 42,N,v (m (s 86))⟩]
abbrev g64l1:bE:=(Q (O g64r9) (Q (C (s 43) Z (X 2)) (Q (K 3 (Q (O g64r10) (Q (Q (O g64r11) (C (s 49) (X 3) Z)) (Q (O g64r12) (K 4 (R g64l0)))))) (O g64r22))))
abbrev g64l2:bE:=(Q (Q (O g64r4) (C (s 28) Z (X 0))) (K 1 (Q (O g64r5) (Q (O g64r6) (Q (O g64r7) (Q (O g64r8) (K 2 (R g64l1))))))))
abbrev g64r23:List aA:=[⟨S 87,N,v (m (s 5))⟩,⟨S 4,N,v (m (s 87))⟩]
def path_from:LFn:=⟨(Q (O g64r0) (Q (O g64r1) (Q (O g64r2) (Q (O g64r3) (Q (K 0 (R g64l2)) (Q (O g64r23) .ret)))))),88,[.slot 4]⟩
theorem path_from_low:aH Tryz.prog 72=some path_from:=by kernel_rfl
abbrev g66r0:List aA:=[⟨S 2,N,v (m (c (.sl (.agg 3) .nil [])))⟩]
abbrev g66r1:List aA:=[⟨S 3,N,v (m (c (.sl (.agg 3) .nil [])))⟩]
abbrev g66r2:List aA:=[⟨S 6,N,v (m (s 0))⟩,⟨S 7,N,v (n (s 6))⟩,⟨S 8,N,v (f 3 (s 7))⟩,⟨S 9,N,v (l F (s 8))⟩,⟨S 10,N,.mp (.rng (s 9))⟩]
abbrev g66r3:List aA:=[⟨S 11,N,.mp (.nxt (s 10))⟩,⟨S 12,N,v (q (s 11) 0)⟩]
abbrev g66r4:List aA:=[⟨S 13,N,.mp (.key (s 10))⟩,⟨S 14,N,v (q (s 13) 0)⟩,⟨S 15,N,v (q (s 13) 1)⟩,⟨S 4,N,x (.agg 3) (c (.agg [(I j 0),(I j 0),(I j 0)]))⟩,⟨N,N,t (.agg 3) (s 4) (s 14)⟩,⟨S 5,N,v (m (s 15))⟩]
abbrev g66r5:List aA:=[⟨S 16,N,v (m (s 5))⟩,⟨S 17,N,v (b .gtr (s 16) (c (I j 0)))⟩]
abbrev g66r6:List aA:=[⟨S 18,N,v (m (s 3))⟩,⟨S 19,N,v (l (.agg 3) (s 4))⟩,⟨S 20,N,y (.agg 3) [s 19]⟩,⟨S 21,N,a (.agg 3) 24 (s 18) (s 20)⟩,⟨S 3,N,v (m (s 21))⟩]
abbrev g66l0:bE:=(Q (O g66r3) (Q (C (s 12) Z (X 0)) (K 1 (Q (O g66r4) (Q (O g66r5) (C (s 17) (O g66r6) Z))))))
abbrev g66r7:List aA:=[⟨S 22,N,v (m (s 3))⟩,⟨S 2,N,v (m (s 22))⟩]
def count_Counts_active:LFn:=⟨(Q (O g66r0) (Q (O g66r1) (Q (Q (O g66r2) (K 0 (R g66l0))) (Q (O g66r7) .ret)))),23,[.slot 2]⟩
theorem count_Counts_active_low:aH Tryz.prog 74=some count_Counts_active:=by kernel_rfl
abbrev g67r0:List aA:=[⟨S 6,N,v (m (c (.sl (.agg 2) .nil [])))⟩]
abbrev g67r1:List aA:=[⟨S 7,N,v (m (c (.sl (.agg 2) .nil [])))⟩]
abbrev g67r2:List aA:=[⟨S 14,N,v (m (s 1))⟩,⟨S 15,N,v (w (s 14))⟩,⟨S 16,N,v (m (c (I j 0)))⟩]
abbrev g67r3:List aA:=[⟨S 17,N,v (b .lss (s 16) (s 15))⟩]
abbrev g67r4:List aA:=[⟨S 18,N,v (i (.agg 3) (s 14) (s 16))⟩,⟨S 19,N,v (l (.agg 3) (s 18))⟩,⟨S 9,N,x (.agg 3) (c (.agg [(I j 0),(I j 0),(I j 0)]))⟩,⟨N,N,t (.agg 3) (s 9) (s 19)⟩]
abbrev g67r5:List (aA×List Nat):=[(⟨S 20,N,v (m (s 0))⟩,[]),(⟨S 21,N,v (n (s 20))⟩,[0]),(⟨S 22,N,v (f 2 (s 21))⟩,[0,1]),(⟨S 23,N,v (l F (s 22))⟩,[0,1,2]),(⟨S 24,N,v (f 0 (s 9))⟩,[]),(⟨S 25,N,v (l F (s 24))⟩,[4]),(⟨S 26,N,v (i F (s 23) (s 25))⟩,[0,1,2,3,4,5]),(⟨S 27,N,v (l F (s 26))⟩,[0,1,2,3,4,5,6]),(⟨S 28,N,v (m (s 2))⟩,[]),(⟨S 29,N,v (i F (s 27) (s 28))⟩,[0,1,2,3,4,5,6,7,8]),(⟨S 30,N,v (l F (s 29))⟩,[0,1,2,3,4,5,6,7,8,9]),(⟨S 31,N,v (w (s 30))⟩,[0,1,2,3,4,5,6,7,8,9,10]),(⟨S 32,N,v (m (c (I j 0)))⟩,[])]
abbrev g67r5t:List aA:=[]
abbrev g67r6:List aA:=[⟨S 33,N,v (b .lss (s 32) (s 31))⟩]
abbrev g67r7:List aA:=[⟨S 34,N,v (i (.agg 2) (s 30) (s 32))⟩,⟨S 35,N,v (l (.agg 2) (s 34))⟩,⟨S 11,N,x (.agg 2) (c (.agg [(.bool false),(I j 0)]))⟩,⟨N,N,t (.agg 2) (s 11) (s 35)⟩]
abbrev g67r8:List aA:=[⟨S 37,N,v (l (.agg 2) (s 11))⟩,⟨S 38,N,v (f 1 (s 9))⟩,⟨S 39,N,v (l (.agg 2) (s 38))⟩,⟨S 40,N,k 83 [s 37,s 39]⟩,⟨S 36,N,v (m (s 40))⟩,⟨S 41,N,v (q (s 36) 0)⟩,⟨S 42,N,v (q (s 36) 1)⟩,⟨S 12,N,x (.agg 2) (c (.agg [(I j 0),(I j 0)]))⟩,⟨N,N,t (.agg 2) (s 12) (s 41)⟩,⟨S 13,N,v (m (s 42))⟩]
abbrev g67r9:List aA:=[⟨S 43,N,v (m (s 13))⟩,⟨S 44,N,v (e false (.iface true) (s 43) (c .nilIface))⟩]
abbrev g67r10:List aA:=[⟨S 45,N,v (m (s 7))⟩,⟨S 46,N,v (l (.agg 2) (s 12))⟩,⟨S 47,N,y (.agg 2) [s 46]⟩,⟨S 48,N,a (.agg 2) 16 (s 45) (s 47)⟩,⟨S 7,N,v (m (s 48))⟩]
abbrev g67r11:List aA:=[⟨S 49,N,v (b .add (s 32) (c (I j 1)))⟩,⟨S 32,N,v (m (s 49))⟩]
abbrev g67l0:bE:=(Q (O g67r6) (Q (C (s 33) Z (X 2)) (Q (K 3 (Q (O g67r7) (Q (O g67r8) (Q (O g67r9) (C (s 44) (O g67r10) Z))))) (O g67r11))))
abbrev g67r12:List aA:=[⟨S 50,N,v (b .add (s 16) (c (I j 1)))⟩,⟨S 16,N,v (m (s 50))⟩]
abbrev g67l1:bE:=(Q (O g67r3) (Q (C (s 17) Z (X 0)) (Q (K 1 (Q (O g67r4) (Q (D 13 g67r5 g67r5t) (K 2 (R g67l0))))) (O g67r12))))
abbrev g67r13:List aA:=[⟨S 51,N,v (m (s 7))⟩,⟨S 52,N,k 110 [s 51]⟩,⟨S 6,N,v (m (s 52))⟩]
def count_Counts_front:LFn:=⟨(Q (O g67r0) (Q (O g67r1) (Q (Q (O g67r2) (K 0 (R g67l1))) (Q (O g67r13) .ret)))),53,[.slot 6]⟩
theorem count_Counts_front_low:aH Tryz.prog 75=some count_Counts_front:=by kernel_rfl
abbrev slices_ContainsFunc_stamp_Time_stamp_Time_r0:List aA:=[⟨S 4,N,v (m (c (.bool false)))⟩]
abbrev slices_ContainsFunc_stamp_Time_stamp_Time_r1:List aA:=[⟨S 5,N,v (m (s 0))⟩,⟨S 6,N,v (m (s 1))⟩,⟨S 7,N,k 111 [s 5,s 6]⟩,⟨S 8,N,v (b .geq (s 7) (c (I j 0)))⟩,⟨S 4,N,v (m (s 8))⟩]
def slices_ContainsFunc_stamp_Time_stamp_Time:LFn:=⟨(Q (O slices_ContainsFunc_stamp_Time_stamp_Time_r0) (Q (O slices_ContainsFunc_stamp_Time_stamp_Time_r1) .ret)),9,[.slot 4]⟩
theorem slices_ContainsFunc_stamp_Time_stamp_Time_low:aH Tryz.prog 76=some slices_ContainsFunc_stamp_Time_stamp_Time:=by kernel_rfl
abbrev chain_AtMost_1_r0:List aA:=[⟨S 2,N,x (.agg 2) (s 0)⟩,⟨S 3,N,v (m (c (.bool false)))⟩]
abbrev chain_AtMost_1_r1:List aA:=[⟨S 4,N,v (l F (s 1))⟩,⟨S 5,N,v (l (.agg 2) (s 2))⟩,⟨S 6,N,k 78 [s 4,s 5]⟩,⟨S 7,N,v (.not (s 6))⟩,⟨S 3,N,v (m (s 7))⟩]
def chain_AtMost_1:LFn:=⟨(Q (O chain_AtMost_1_r0) (Q (O chain_AtMost_1_r1) .ret)),8,[.slot 3]⟩
theorem chain_AtMost_1_low:aH Tryz.prog 77=some chain_AtMost_1:=by kernel_rfl
abbrev chain_Reaches_r0:List aA:=[⟨S 3,N,x (.agg 2) (s 1)⟩,⟨S 4,N,v (m (c (.bool false)))⟩]
abbrev chain_Reaches_r1:List aA:=[⟨S 5,N,v (m (s 0))⟩,⟨S 6,N,v (.mkfn (.func 112) [] [s 3])⟩,⟨S 7,N,k 76 [s 5,s 6]⟩,⟨S 4,N,v (m (s 7))⟩]
def chain_Reaches:LFn:=⟨(Q (O chain_Reaches_r0) (Q (O chain_Reaches_r1) .ret)),8,[.slot 4]⟩
theorem chain_Reaches_low:aH Tryz.prog 78=some chain_Reaches:=by kernel_rfl
abbrev g68r0:List aA:=[⟨S 1,N,x (.agg 2) (s 0)⟩,⟨S 2,N,x (.agg 2) (c (.agg [(.bool false),(I j 0)]))⟩]
abbrev g68r1:List aA:=[⟨S 3,N,v (l (.agg 2) (s 1))⟩,⟨N,N,t (.agg 2) (s 2) (s 3)⟩]
def corollarylaw20_Path:LFn:=⟨(Q (O g68r0) (Q (O g68r1) .ret)),4,[.cell 2 (.agg 2)]⟩
theorem corollarylaw20_Path_low:aH Tryz.prog 79=some corollarylaw20_Path:=by kernel_rfl
abbrev g71r0:List aA:=[⟨S 3,N,x (.agg 2) (s 0)⟩,⟨S 4,N,v (m (c (.bool false)))⟩]
abbrev g71r1:List aA:=[⟨S 8,N,v (l (.agg 2) (s 3))⟩,⟨S 9,N,v (f 1 (s 1))⟩,⟨S 10,N,v (l (.agg 2) (s 9))⟩,⟨S 11,N,k 83 [s 8,s 10]⟩,⟨S 7,N,v (m (s 11))⟩,⟨S 12,N,v (q (s 7) 0)⟩,⟨S 13,N,v (q (s 7) 1)⟩,⟨S 5,N,x (.agg 2) (c (.agg [(I j 0),(I j 0)]))⟩,⟨N,N,t (.agg 2) (s 5) (s 12)⟩,⟨S 6,N,v (m (s 13))⟩]
abbrev g71r2:List aA:=[⟨S 14,N,v (m (s 6))⟩,⟨S 15,N,v (e false (.iface true) (s 14) (c .nilIface))⟩,⟨S 16,N,v (m (s 15))⟩,⟨S 17,S (16,true),v (l (.agg 2) (s 5))⟩,⟨S 18,S (16,true),v (f 1 (s 2))⟩,⟨S 19,S (16,true),v (l (.agg 2) (s 18))⟩,⟨S 20,S (16,true),k 84 [s 17,s 19]⟩,⟨S 21,N,v (p (s 16) (s 20) (c (.bool false)))⟩,⟨S 4,N,v (m (s 21))⟩]
def front_comes_1:LFn:=⟨(Q (O g71r0) (Q (O g71r1) (Q (O g71r2) .ret))),22,[.slot 4]⟩
theorem front_comes_1_low:aH Tryz.prog 82=some front_comes_1:=by kernel_rfl
abbrev g72r0:List aA:=[⟨S 2,N,x (.agg 2) (s 0)⟩,⟨S 3,N,x (.agg 2) (s 1)⟩,⟨S 4,N,x (.agg 2) (c (.agg [(I j 0),(I j 0)]))⟩,⟨S 5,N,v (m (c .nilIface))⟩]
abbrev g72r1:List aA:=[⟨S 7,N,v (l (.agg 2) (s 2))⟩,⟨S 8,N,k 117 [s 7]⟩,⟨S 9,N,v (.not (s 8))⟩,⟨S 10,N,v (m (s 9))⟩,⟨S 11,S (10,false),v (l (.agg 2) (s 3))⟩,⟨S 12,S (10,false),k 66 [s 11]⟩,⟨S 13,S (10,false),v (.not (s 12))⟩,⟨S 14,N,v (p (s 10) (c (.bool true)) (s 13))⟩]
abbrev g72r2:List aA:=[⟨S 15,N,v (.build [(I j 0),(I j 0)] [])⟩,⟨S 16,N,v (.mkif 64 (c (I j 2)))⟩,⟨N,N,t (.agg 2) (s 4) (s 15)⟩,⟨S 5,N,v (m (s 16))⟩]
abbrev g72r3:List aA:=[⟨S 17,N,v (f 0 (s 3))⟩,⟨S 18,N,v (l F (s 17))⟩,⟨S 19,N,v (f 1 (s 2))⟩,⟨S 20,N,v (l F (s 19))⟩,⟨S 21,N,v (.build [(I j 0),(I j 0)] [(0,F,(s 18)),(1,F,(s 20))])⟩,⟨S 6,N,x (.agg 2) (c (.agg [(I j 0),(I j 0)]))⟩,⟨N,N,t (.agg 2) (s 6) (s 21)⟩]
abbrev g72r4:List aA:=[⟨S 22,N,v (f 0 (s 2))⟩,⟨S 23,N,v (l F (s 22))⟩,⟨S 24,N,v (.not (s 23))⟩]
abbrev g72r5:List aA:=[⟨S 25,N,v (f 1 (s 6))⟩,⟨S 26,N,v (l F (s 25))⟩,⟨S 27,N,v (f 1 (s 3))⟩,⟨S 28,N,v (l F (s 27))⟩,⟨S 29,N,v (b .add (s 26) (s 28))⟩,⟨S 30,N,v (f 1 (s 6))⟩,⟨N,N,t F (s 30) (s 29)⟩]
abbrev g72r6:List aA:=[⟨S 31,N,v (l (.agg 2) (s 6))⟩,⟨S 32,N,k 66 [s 31]⟩,⟨S 33,N,v (.not (s 32))⟩]
abbrev g72r7:List aA:=[⟨S 34,N,v (.build [(I j 0),(I j 0)] [])⟩,⟨S 35,N,v (.mkif 64 (c (I j 1)))⟩,⟨N,N,t (.agg 2) (s 4) (s 34)⟩,⟨S 5,N,v (m (s 35))⟩]
abbrev g72r8:List aA:=[⟨S 36,N,v (l (.agg 2) (s 6))⟩,⟨N,N,t (.agg 2) (s 4) (s 36)⟩,⟨S 5,N,v (m (c .nilIface))⟩]
def stamp_Path_Of:LFn:=⟨(Q (O g72r0) (Q (Q (O g72r1) (C (s 14) (Q (O g72r2) .ret) Z)) (Q (O g72r3) (Q (Q (O g72r4) (C (s 24) (O g72r5) Z)) (Q (Q (O g72r6) (C (s 33) (Q (O g72r7) .ret) Z)) (Q (O g72r8) .ret)))))),37,[.cell 4 (.agg 2),.slot 5]⟩
theorem stamp_Path_Of_low:aH Tryz.prog 83=some stamp_Path_Of:=by kernel_rfl
abbrev stamp_AtMost_r0:List aA:=[⟨S 2,N,x (.agg 2) (s 0)⟩,⟨S 3,N,x (.agg 2) (s 1)⟩,⟨S 4,N,v (m (c (.bool false)))⟩]
abbrev stamp_AtMost_r1:List aA:=[⟨S 5,N,v (f 0 (s 2))⟩,⟨S 6,N,v (l F (s 5))⟩,⟨S 7,N,v (f 0 (s 3))⟩,⟨S 8,N,v (l F (s 7))⟩,⟨S 9,N,v (b .leq (s 6) (s 8))⟩,⟨S 10,N,v (m (s 9))⟩,⟨S 11,S (10,true),v (f 1 (s 2))⟩,⟨S 12,S (10,true),v (l F (s 11))⟩,⟨S 13,S (10,true),v (f 1 (s 3))⟩,⟨S 14,S (10,true),v (l F (s 13))⟩,⟨S 15,S (10,true),v (b .leq (s 12) (s 14))⟩,⟨S 16,N,v (p (s 10) (s 15) (c (.bool false)))⟩,⟨S 4,N,v (m (s 16))⟩]
def stamp_AtMost:LFn:=⟨(Q (O stamp_AtMost_r0) (Q (O stamp_AtMost_r1) .ret)),17,[.slot 4]⟩
theorem stamp_AtMost_low:aH Tryz.prog 84=some stamp_AtMost:=by kernel_rfl
abbrev g81r0:List aA:=[⟨S 2,N,x (.agg 4) (s 0)⟩,⟨S 3,N,v (m (c (.bool false)))⟩]
abbrev g81r1:List aA:=[⟨S 4,N,v (l (.agg 4) (s 2))⟩,⟨S 5,N,v (l F (s 1))⟩,⟨S 6,N,k 95 [s 4,s 5]⟩,⟨S 7,N,v (.not (s 6))⟩,⟨S 3,N,v (m (s 7))⟩]
def path_New_1:LFn:=⟨(Q (O g81r0) (Q (O g81r1) .ret)),8,[.slot 3]⟩
theorem path_New_1_low:aH Tryz.prog 94=some path_New_1:=by kernel_rfl
abbrev g82r0:List aA:=[⟨S 2,N,x (.agg 4) (s 0)⟩,⟨S 4,N,v (m (c (.bool false)))⟩]
abbrev g82r1:List aA:=[⟨S 5,N,v (f 0 (s 2))⟩,⟨S 6,N,v (l F (s 5))⟩,⟨S 7,N,v (b .geq (s 6) (c (I j 0)))⟩,⟨S 8,N,v (m (s 7))⟩,⟨S 9,S (8,true),v (f 0 (s 2))⟩,⟨S 10,S (8,true),v (l F (s 9))⟩,⟨S 11,S (8,true),v (m (s 1))⟩,⟨S 12,S (8,true),v (b .lss (s 10) (s 11))⟩,⟨S 13,N,v (p (s 8) (s 12) (c (.bool false)))⟩,⟨S 14,N,v (m (s 13))⟩,⟨S 15,S (14,true),v (f 1 (s 2))⟩,⟨S 16,S (14,true),v (l F (s 15))⟩,⟨S 17,S (14,true),v (b .geq (s 16) (c (I j 0)))⟩,⟨S 18,N,v (p (s 14) (s 17) (c (.bool false)))⟩,⟨S 19,N,v (m (s 18))⟩,⟨S 20,S (19,true),v (f 1 (s 2))⟩,⟨S 21,S (19,true),v (l F (s 20))⟩,⟨S 22,S (19,true),v (m (s 1))⟩,⟨S 23,S (19,true),v (b .lss (s 21) (s 22))⟩,⟨S 24,N,v (p (s 19) (s 23) (c (.bool false)))⟩,⟨S 25,N,v (m (s 24))⟩,⟨S 26,S (25,true),v (f 2 (s 2))⟩,⟨S 27,S (25,true),v (l (.agg 2) (s 26))⟩,⟨S 28,S (25,true),k 117 [s 27]⟩,⟨S 29,N,v (p (s 25) (s 28) (c (.bool false)))⟩,⟨S 4,N,v (m (s 29))⟩]
def path_within:LFn:=⟨(Q (O g82r0) (Q (O g82r1) .ret)),30,[.slot 4]⟩
theorem path_within_low:aH Tryz.prog 95=some path_within:=by kernel_rfl
abbrev g84r0:List aA:=[⟨S 2,N,v (m (c (.sl (.agg 4) .nil [])))⟩]
abbrev g84r1:List aA:=[⟨S 6,N,v (m (s 0))⟩,⟨S 7,N,v (w (s 6))⟩,⟨S 8,N,v (b .lss (s 7) (c (I j 2)))⟩]
abbrev g84r2:List aA:=[⟨S 9,N,v (m (s 0))⟩,⟨S 2,N,v (m (s 9))⟩]
abbrev g84r3:List aA:=[⟨S 3,N,v (m (c (I j 1)))⟩]
abbrev g84r4:List aA:=[⟨S 10,N,v (m (s 3))⟩,⟨S 11,N,v (m (s 0))⟩,⟨S 12,N,v (w (s 11))⟩,⟨S 13,N,v (b .lss (s 10) (s 12))⟩]
abbrev g84r5:List (aA×List Nat):=[(⟨S 16,N,v (m (s 0))⟩,[]),(⟨S 17,N,v (m (s 3))⟩,[]),(⟨S 18,N,v (i (.agg 4) (s 16) (s 17))⟩,[0,1]),(⟨S 19,N,v (l (.agg 4) (s 18))⟩,[0,1,2]),(⟨S 20,N,v (m (s 0))⟩,[]),(⟨S 21,N,v (m (s 3))⟩,[]),(⟨S 22,N,v (b .sub (s 21) (c (I j 1)))⟩,[5]),(⟨S 23,N,v (i (.agg 4) (s 20) (s 22))⟩,[4,5,6]),(⟨S 24,N,v (l (.agg 4) (s 23))⟩,[4,5,6,7]),(⟨S 25,N,v (e false (.plain (.agg 4) [.int,.int,.bool,.int]) (s 19) (s 24))⟩,[0,1,2,3,4,5,6,7,8])]
abbrev g84r5t:List aA:=[]
abbrev g84r6:List aA:=[⟨S 26,N,v (m (s 0))⟩,⟨S 27,N,v (m (s 3))⟩,⟨S 28,N,v (.slc (.agg 4) (s 26) (.some (s 27)) .none .none)⟩,⟨S 4,N,v (m (s 28))⟩]
abbrev g84r7:List aA:=[⟨S 5,N,v (m (c (I j 1)))⟩]
abbrev g84r8:List aA:=[⟨S 29,N,v (m (s 5))⟩,⟨S 30,N,v (m (s 4))⟩,⟨S 31,N,v (w (s 30))⟩,⟨S 32,N,v (b .lss (s 29) (s 31))⟩]
abbrev g84r9:List (aA×List Nat):=[(⟨S 35,N,v (m (s 4))⟩,[]),(⟨S 36,N,v (m (s 5))⟩,[]),(⟨S 37,N,v (i (.agg 4) (s 35) (s 36))⟩,[0,1]),(⟨S 38,N,v (l (.agg 4) (s 37))⟩,[0,1,2]),(⟨S 39,N,v (m (s 4))⟩,[]),(⟨S 40,N,v (m (s 5))⟩,[]),(⟨S 41,N,v (b .sub (s 40) (c (I j 1)))⟩,[5]),(⟨S 42,N,v (i (.agg 4) (s 39) (s 41))⟩,[4,5,6]),(⟨S 43,N,v (l (.agg 4) (s 42))⟩,[4,5,6,7]),(⟨S 44,N,v (e true (.plain (.agg 4) [.int,.int,.bool,.int]) (s 38) (s 43))⟩,[0,1,2,3,4,5,6,7,8])]
abbrev g84r9t:List aA:=[]
abbrev g84r10:List aA:=[⟨S 45,N,v (m (s 0))⟩,⟨S 46,N,v (m (s 3))⟩,⟨S 47,N,v (m (s 4))⟩,⟨S 48,N,v (m (s 5))⟩,⟨S 49,N,v (i (.agg 4) (s 47) (s 48))⟩,⟨S 50,N,v (l (.agg 4) (s 49))⟩,⟨S 51,N,v (i (.agg 4) (s 45) (s 46))⟩,⟨N,N,t (.agg 4) (s 51) (s 50)⟩]
abbrev g84r11:List aA:=[⟨S 52,N,v (m (s 3))⟩,⟨S 53,N,v (b .add (s 52) (c (I j 1)))⟩,⟨S 3,N,v (m (s 53))⟩]
abbrev g84r12:List aA:=[⟨S 33,N,v (m (s 5))⟩,⟨S 34,N,v (b .add (s 33) (c (I j 1)))⟩,⟨S 5,N,v (m (s 34))⟩]
abbrev g84l0:bE:=(Q (Q (O g84r8) (C (s 32) Z (X 2))) (Q (K 3 (Q (D 10 g84r9 g84r9t) (C (s 44) (Q (O g84r10) (O g84r11)) Z))) (O g84r12)))
abbrev g84r13:List aA:=[⟨S 54,N,v (m (s 0))⟩,⟨S 55,N,v (m (s 3))⟩,⟨S 56,N,v (.slc (.agg 4) (s 54) (.some (s 55)) .none .none)⟩,⟨N,N,.clear (.agg 4) (s 56) (.agg [(I j 0),(I j 0),(.bool false),(I j 0)])⟩]
abbrev g84r14:List aA:=[⟨S 57,N,v (m (s 0))⟩,⟨S 58,N,v (m (s 3))⟩,⟨S 59,N,v (.slc (.agg 4) (s 57) .none (.some (s 58)) .none)⟩,⟨S 2,N,v (m (s 59))⟩]
abbrev g84r15:List aA:=[⟨S 14,N,v (m (s 3))⟩,⟨S 15,N,v (b .add (s 14) (c (I j 1)))⟩,⟨S 3,N,v (m (s 15))⟩]
abbrev g84l1:bE:=(Q (Q (O g84r4) (C (s 13) Z (X 0))) (Q (K 1 (Q (D 10 g84r5 g84r5t) (C (s 25) (Q (O g84r6) (Q (Q (O g84r7) (K 2 (R g84l0))) (Q (O g84r13) (Q (O g84r14) .ret)))) Z))) (O g84r15)))
abbrev g84r16:List aA:=[⟨S 60,N,v (m (s 0))⟩,⟨S 2,N,v (m (s 60))⟩]
def slices_Compact_path_Way_path_Way:LFn:=⟨(Q (O g84r0) (Q (Q (O g84r1) (C (s 8) (Q (O g84r2) .ret) Z)) (Q (Q (O g84r3) (K 0 (R g84l1))) (Q (O g84r16) .ret)))),61,[.slot 2]⟩
theorem slices_Compact_path_Way_path_Way_low:aH Tryz.prog 97=some slices_Compact_path_Way_path_Way:=by kernel_rfl
abbrev g87r0:List aA:=[⟨S 2,N,x (.agg 4) (s 0)⟩,⟨S 3,N,x (.agg 4) (s 1)⟩,⟨S 4,N,v (m (c (I j 0)))⟩]
abbrev g87r1:List (aA×List Nat):=[(⟨S 5,N,v (f 0 (s 2))⟩,[]),(⟨S 6,N,v (l F (s 5))⟩,[0]),(⟨S 7,N,v (f 0 (s 3))⟩,[]),(⟨S 8,N,v (l F (s 7))⟩,[2]),(⟨S 9,N,k 125 [s 6,s 8]⟩,[0,1,2,3]),(⟨S 10,N,v (f 1 (s 2))⟩,[]),(⟨S 11,N,v (l F (s 10))⟩,[5]),(⟨S 12,N,v (f 1 (s 3))⟩,[]),(⟨S 13,N,v (l F (s 12))⟩,[7]),(⟨S 14,N,k 125 [s 11,s 13]⟩,[0,1,2,3,4,5,6,7,8]),(⟨S 15,N,v (f 2 (s 2))⟩,[]),(⟨S 16,N,v (f 0 (s 15))⟩,[10]),(⟨S 17,N,v (l F (s 16))⟩,[10,11]),(⟨S 18,N,k 131 [s 17]⟩,[0,1,2,3,4,5,6,7,8,9,10,11,12]),(⟨S 19,N,v (f 2 (s 3))⟩,[]),(⟨S 20,N,v (f 0 (s 19))⟩,[14]),(⟨S 21,N,v (l F (s 20))⟩,[14,15]),(⟨S 22,N,k 131 [s 21]⟩,[0,1,2,3,4,5,6,7,8,9,10,11,12,13,14,15,16]),(⟨S 23,N,k 125 [s 18,s 22]⟩,[0,1,2,3,4,5,6,7,8,9,10,11,12,13,14,15,16,17]),(⟨S 24,N,v (f 2 (s 2))⟩,[]),(⟨S 25,N,v (f 1 (s 24))⟩,[19]),(⟨S 26,N,v (l F (s 25))⟩,[19,20]),(⟨S 27,N,v (f 2 (s 3))⟩,[]),(⟨S 28,N,v (f 1 (s 27))⟩,[22]),(⟨S 29,N,v (l F (s 28))⟩,[22,23]),(⟨S 30,N,k 125 [s 26,s 29]⟩,[0,1,2,3,4,5,6,7,8,9,10,11,12,13,14,15,16,17,18,19,20,21,22,23,24]),(⟨S 31,N,y F [s 9,s 14,s 23,s 30]⟩,[0,1,2,3,4,5,6,7,8,9,10,11,12,13,14,15,16,17,18,19,20,21,22,23,24,25]),(⟨S 32,N,k 124 [s 31]⟩,[0,1,2,3,4,5,6,7,8,9,10,11,12,13,14,15,16,17,18,19,20,21,22,23,24,25,26]),(⟨S 4,N,v (m (s 32))⟩,[0,1,2,3,4,5,6,7,8,9,10,11,12,13,14,15,16,17,18,19,20,21,22,23,24,25,26,27])]
abbrev g87r1t:List aA:=[]
def path_order:LFn:=⟨(Q (O g87r0) (Q (D 29 g87r1 g87r1t) .ret)),33,[.slot 4]⟩
theorem path_order_low:aH Tryz.prog 100=some path_order:=by kernel_rfl
abbrev g88r0:List aA:=[⟨S 2,N,v (m (c (I j 0)))⟩]
abbrev g88r1:List aA:=[⟨S 3,N,v (m (c (I j 0)))⟩]
abbrev g88r2:List aA:=[⟨S 6,N,v (m (s 0))⟩,⟨S 7,N,v (w (s 6))⟩,⟨S 8,N,v (m (c (I j 0)))⟩]
abbrev g88r3:List aA:=[⟨S 9,N,v (b .lss (s 8) (s 7))⟩]
abbrev g88r4:List aA:=[⟨S 10,N,v (i (.agg 4) (s 6) (s 8))⟩,⟨S 11,N,v (l (.agg 4) (s 10))⟩,⟨S 5,N,x (.agg 4) (c (.agg [(I j 0),(I j 0),(.bool false),(I j 0)]))⟩,⟨N,N,t (.agg 4) (s 5) (s 11)⟩]
abbrev g88r5:List aA:=[⟨S 12,N,v (m (s 3))⟩,⟨S 13,N,v (f 2 (s 5))⟩,⟨S 14,N,v (f 1 (s 13))⟩,⟨S 15,N,v (l F (s 14))⟩,⟨S 16,N,v (b .add (s 12) (s 15))⟩,⟨S 3,N,v (m (s 16))⟩]
abbrev g88r6:List aA:=[⟨S 17,N,v (b .add (s 8) (c (I j 1)))⟩,⟨S 8,N,v (m (s 17))⟩]
abbrev g88l0:bE:=(Q (O g88r3) (Q (C (s 9) Z (X 0)) (Q (K 1 (Q (O g88r4) (O g88r5))) (O g88r6))))
abbrev g88r7:List aA:=[⟨S 18,N,v (m (s 3))⟩,⟨S 2,N,v (m (s 18))⟩]
def path_added:LFn:=⟨(Q (O g88r0) (Q (O g88r1) (Q (Q (O g88r2) (K 0 (R g88l0))) (Q (O g88r7) .ret)))),19,[.slot 2]⟩
theorem path_added_low:aH Tryz.prog 101=some path_added:=by kernel_rfl
abbrev g89r0:List aA:=[⟨S 4,N,v (m (c (.bool false)))⟩]
abbrev g89r1:List aA:=[⟨S 14,N,v (m (s 0))⟩,⟨S 15,N,.mkz F 8 (s 14) (I j 0)⟩,⟨S 5,N,v (m (s 15))⟩]
abbrev g89r2:List aA:=[⟨S 16,N,v (m (s 1))⟩,⟨S 17,N,v (w (s 16))⟩,⟨S 18,N,v (m (c (I j 0)))⟩]
abbrev g89r3:List aA:=[⟨S 19,N,v (b .lss (s 18) (s 17))⟩]
abbrev g89r4:List aA:=[⟨S 20,N,v (i (.agg 4) (s 16) (s 18))⟩,⟨S 21,N,v (l (.agg 4) (s 20))⟩,⟨S 7,N,x (.agg 4) (c (.agg [(I j 0),(I j 0),(.bool false),(I j 0)]))⟩,⟨N,N,t (.agg 4) (s 7) (s 21)⟩]
abbrev g89r5:List aA:=[⟨S 22,N,v (f 2 (s 7))⟩,⟨S 23,N,v (f 1 (s 22))⟩,⟨S 24,N,v (l F (s 23))⟩,⟨S 25,N,v (b .eql (s 24) (c (I j 0)))⟩]
abbrev g89r6:List aA:=[⟨S 26,N,v (m (s 5))⟩,⟨S 27,N,v (f 1 (s 7))⟩,⟨S 28,N,v (l F (s 27))⟩,⟨S 29,N,v (i F (s 26) (s 28))⟩,⟨S 30,N,v (l F (s 29))⟩,⟨S 31,N,v (b .add (s 30) (c (I j 1)))⟩,⟨S 32,N,v (i F (s 26) (s 28))⟩,⟨N,N,t F (s 32) (s 31)⟩]
abbrev g89r7:List aA:=[⟨S 33,N,v (b .add (s 18) (c (I j 1)))⟩,⟨S 18,N,v (m (s 33))⟩]
abbrev g89l0:bE:=(Q (O g89r3) (Q (C (s 19) Z (X 0)) (Q (K 1 (Q (O g89r4) (Q (O g89r5) (C (s 25) (O g89r6) Z)))) (O g89r7))))
abbrev g89r8:List aA:=[⟨S 8,N,v (m (c (.sl F .nil [])))⟩]
abbrev g89r9:List aA:=[⟨S 34,N,v (m (s 5))⟩,⟨S 35,N,v (w (s 34))⟩,⟨S 36,N,v (m (c (I j 0)))⟩]
abbrev g89r10:List aA:=[⟨S 37,N,v (b .lss (s 36) (s 35))⟩]
abbrev g89r11:List aA:=[⟨S 38,N,v (m (s 36))⟩,⟨S 39,N,v (i F (s 34) (s 36))⟩,⟨S 40,N,v (l F (s 39))⟩,⟨S 9,N,v (m (s 38))⟩,⟨S 10,N,v (m (s 40))⟩]
abbrev g89r12:List aA:=[⟨S 41,N,v (m (s 10))⟩,⟨S 42,N,v (b .eql (s 41) (c (I j 0)))⟩]
abbrev g89r13:List aA:=[⟨S 43,N,v (m (s 8))⟩,⟨S 44,N,v (m (s 9))⟩,⟨S 45,N,y F [s 44]⟩,⟨S 46,N,a F 8 (s 43) (s 45)⟩,⟨S 8,N,v (m (s 46))⟩]
abbrev g89r14:List aA:=[⟨S 47,N,v (b .add (s 36) (c (I j 1)))⟩,⟨S 36,N,v (m (s 47))⟩]
abbrev g89l1:bE:=(Q (O g89r10) (Q (C (s 37) Z (X 2)) (Q (K 3 (Q (O g89r11) (Q (O g89r12) (C (s 42) (O g89r13) Z)))) (O g89r14))))
abbrev g89r15:List aA:=[⟨S 11,N,v (m (c (I j 0)))⟩]
abbrev g89r16:List aA:=[⟨S 48,N,v (m (s 11))⟩,⟨S 49,N,v (m (s 8))⟩,⟨S 50,N,v (w (s 49))⟩,⟨S 51,N,v (b .lss (s 48) (s 50))⟩]
abbrev g89r17:List aA:=[⟨S 54,N,v (m (s 1))⟩,⟨S 55,N,v (w (s 54))⟩,⟨S 56,N,v (m (c (I j 0)))⟩]
abbrev g89r18:List aA:=[⟨S 57,N,v (b .lss (s 56) (s 55))⟩]
abbrev g89r19:List aA:=[⟨S 58,N,v (i (.agg 4) (s 54) (s 56))⟩,⟨S 59,N,v (l (.agg 4) (s 58))⟩,⟨S 13,N,x (.agg 4) (c (.agg [(I j 0),(I j 0),(.bool false),(I j 0)]))⟩,⟨N,N,t (.agg 4) (s 13) (s 59)⟩]
abbrev g89r20:List (aA×List Nat):=[(⟨S 60,N,v (f 0 (s 13))⟩,[]),(⟨S 61,N,v (l F (s 60))⟩,[0]),(⟨S 62,N,v (m (s 8))⟩,[]),(⟨S 63,N,v (m (s 11))⟩,[]),(⟨S 64,N,v (i F (s 62) (s 63))⟩,[2,3]),(⟨S 65,N,v (l F (s 64))⟩,[2,3,4]),(⟨S 66,N,v (b .neq (s 61) (s 65))⟩,[0,1,2,3,4,5]),(⟨S 67,N,v (m (s 66))⟩,[0,1,2,3,4,5,6]),(⟨S 68,S (67,false),v (f 2 (s 13))⟩,[0,1,2,3,4,5,6,7]),(⟨S 69,S (67,false),v (f 1 (s 68))⟩,[0,1,2,3,4,5,6,7,8]),(⟨S 70,S (67,false),v (l F (s 69))⟩,[0,1,2,3,4,5,6,7,8,9]),(⟨S 71,S (67,false),v (b .gtr (s 70) (c (I j 0)))⟩,[0,1,2,3,4,5,6,7,8,9,10]),(⟨S 72,N,v (p (s 67) (c (.bool true)) (s 71))⟩,[0,1,2,3,4,5,6,7,8,9,10,11])]
abbrev g89r20t:List aA:=[]
abbrev g89r21:List aA:=[⟨S 73,N,v (m (s 5))⟩,⟨S 74,N,v (f 1 (s 13))⟩,⟨S 75,N,v (l F (s 74))⟩,⟨S 76,N,v (i F (s 73) (s 75))⟩,⟨S 77,N,v (l F (s 76))⟩,⟨S 78,N,v (b .sub (s 77) (c (I j 1)))⟩,⟨S 79,N,v (i F (s 73) (s 75))⟩,⟨N,N,t F (s 79) (s 78)⟩]
abbrev g89r22:List aA:=[⟨S 80,N,v (m (s 5))⟩,⟨S 81,N,v (f 1 (s 13))⟩,⟨S 82,N,v (l F (s 81))⟩,⟨S 83,N,v (i F (s 80) (s 82))⟩,⟨S 84,N,v (l F (s 83))⟩,⟨S 85,N,v (b .eql (s 84) (c (I j 0)))⟩]
abbrev g89r23:List aA:=[⟨S 86,N,v (m (s 8))⟩,⟨S 87,N,v (f 1 (s 13))⟩,⟨S 88,N,v (l F (s 87))⟩,⟨S 89,N,y F [s 88]⟩,⟨S 90,N,a F 8 (s 86) (s 89)⟩,⟨S 8,N,v (m (s 90))⟩]
abbrev g89r24:List aA:=[⟨S 91,N,v (b .add (s 56) (c (I j 1)))⟩,⟨S 56,N,v (m (s 91))⟩]
abbrev g89l2:bE:=(Q (O g89r18) (Q (C (s 57) Z (X 6)) (Q (K 7 (Q (O g89r19) (Q (Q (D 13 g89r20 g89r20t) (C (s 72) (X 7) Z)) (Q (O g89r21) (Q (O g89r22) (C (s 85) (O g89r23) Z)))))) (O g89r24))))
abbrev g89r25:List aA:=[⟨S 52,N,v (m (s 11))⟩,⟨S 53,N,v (b .add (s 52) (c (I j 1)))⟩,⟨S 11,N,v (m (s 53))⟩]
abbrev g89l3:bE:=(Q (Q (O g89r16) (C (s 51) Z (X 4))) (Q (K 5 (Q (O g89r17) (K 6 (R g89l2)))) (O g89r25)))
abbrev g89r26:List aA:=[⟨S 92,N,v (m (s 8))⟩,⟨S 93,N,v (w (s 92))⟩,⟨S 94,N,v (m (s 0))⟩,⟨S 95,N,v (b .lss (s 93) (s 94))⟩,⟨S 4,N,v (m (s 95))⟩]
def path_idle:LFn:=⟨(Q (O g89r0) (Q (O g89r1) (Q (Q (O g89r2) (K 0 (R g89l0))) (Q (O g89r8) (Q (Q (O g89r9) (K 2 (R g89l1))) (Q (Q (O g89r15) (K 4 (R g89l3))) (Q (O g89r26) .ret))))))),96,[.slot 4]⟩
theorem path_idle_low:aH Tryz.prog 102=some path_idle:=by kernel_rfl
abbrev g90r0:List aA:=[⟨S 2,N,x F (s 0)⟩,⟨S 3,N,x F (s 1)⟩,⟨S 4,N,v (m (c (.bool false)))⟩]
abbrev g90r1:List aA:=[⟨S 5,N,v (l F (s 3))⟩,⟨S 6,N,v (.mkfn (.func 132) [] [s 2,s 3])⟩,⟨S 7,N,k 96 [s 5,s 6]⟩,⟨S 4,N,v (m (s 7))⟩]
def path_turns:LFn:=⟨(Q (O g90r0) (Q (O g90r1) .ret)),8,[.slot 4]⟩
theorem path_turns_low:aH Tryz.prog 103=some path_turns:=by kernel_rfl
abbrev stamp_within_r0:List aA:=[⟨S 4,N,v (m (c (.bool false)))⟩]
abbrev stamp_within_r1:List aA:=[⟨S 5,N,v (m (s 0))⟩,⟨S 6,N,v (b .geq (s 5) (c (I j 0)))⟩,⟨S 7,N,v (m (s 6))⟩,⟨S 8,S (7,true),v (m (s 0))⟩,⟨S 9,S (7,true),v (m (s 1))⟩,⟨S 10,S (7,true),v (b .leq (s 8) (s 9))⟩,⟨S 11,N,v (p (s 7) (s 10) (c (.bool false)))⟩,⟨S 4,N,v (m (s 11))⟩]
def stamp_within:LFn:=⟨(Q (O stamp_within_r0) (Q (O stamp_within_r1) .ret)),12,[.slot 4]⟩
theorem stamp_within_low:aH Tryz.prog 104=some stamp_within:=by kernel_rfl
abbrev g93r0:List aA:=[⟨S 2,N,x (.agg 2) (s 0)⟩,⟨S 3,N,x (.agg 2) (s 1)⟩,⟨S 4,N,x (.agg 2) (c (.agg [(.bool false),(I j 0)]))⟩,⟨S 5,N,v (m (c .nilIface))⟩]
abbrev g93r1:List aA:=[⟨S 7,N,v (l (.agg 2) (s 2))⟩,⟨S 8,N,k 117 [s 7]⟩,⟨S 9,N,v (.not (s 8))⟩,⟨S 10,N,v (m (s 9))⟩,⟨S 11,S (10,false),v (l (.agg 2) (s 3))⟩,⟨S 12,S (10,false),k 117 [s 11]⟩,⟨S 13,S (10,false),v (.not (s 12))⟩,⟨S 14,N,v (p (s 10) (c (.bool true)) (s 13))⟩]
abbrev g93r2:List aA:=[⟨S 15,N,v (.build [(.bool false),(I j 0)] [])⟩,⟨S 16,N,v (.mkif 64 (c (I j 2)))⟩,⟨N,N,t (.agg 2) (s 4) (s 15)⟩,⟨S 5,N,v (m (s 16))⟩]
abbrev g93r3:List aA:=[⟨S 17,N,v (f 0 (s 3))⟩,⟨S 18,N,v (l F (s 17))⟩]
abbrev g93r4:List aA:=[⟨S 19,N,v (l (.agg 2) (s 3))⟩,⟨N,N,t (.agg 2) (s 4) (s 19)⟩,⟨S 5,N,v (m (c .nilIface))⟩]
abbrev g93r5:List aA:=[⟨S 20,N,v (f 0 (s 2))⟩,⟨S 21,N,v (l F (s 20))⟩,⟨S 22,N,v (f 1 (s 2))⟩,⟨S 23,N,v (l F (s 22))⟩,⟨S 24,N,v (f 1 (s 3))⟩,⟨S 25,N,v (l F (s 24))⟩,⟨S 26,N,v (b .add (s 23) (s 25))⟩,⟨S 27,N,v (.build [(.bool false),(I j 0)] [(0,F,(s 21)),(1,F,(s 26))])⟩,⟨S 6,N,x (.agg 2) (c (.agg [(.bool false),(I j 0)]))⟩,⟨N,N,t (.agg 2) (s 6) (s 27)⟩]
abbrev g93r6:List aA:=[⟨S 28,N,v (l (.agg 2) (s 6))⟩,⟨S 29,N,k 117 [s 28]⟩,⟨S 30,N,v (.not (s 29))⟩]
abbrev g93r7:List aA:=[⟨S 31,N,v (.build [(.bool false),(I j 0)] [])⟩,⟨S 32,N,v (.mkif 64 (c (I j 1)))⟩,⟨N,N,t (.agg 2) (s 4) (s 31)⟩,⟨S 5,N,v (m (s 32))⟩]
abbrev g93r8:List aA:=[⟨S 33,N,v (l (.agg 2) (s 6))⟩,⟨N,N,t (.agg 2) (s 4) (s 33)⟩,⟨S 5,N,v (m (c .nilIface))⟩]
def stamp_Path_Then:LFn:=⟨(Q (O g93r0) (Q (Q (O g93r1) (C (s 14) (Q (O g93r2) .ret) Z)) (Q (Q (O g93r3) (C (s 18) (Q (O g93r4) .ret) Z)) (Q (O g93r5) (Q (Q (O g93r6) (C (s 30) (Q (O g93r7) .ret) Z)) (Q (O g93r8) .ret)))))),34,[.cell 4 (.agg 2),.slot 5]⟩
theorem stamp_Path_Then_low:aH Tryz.prog 108=some stamp_Path_Then:=by kernel_rfl
abbrev g94r0:List aA:=[⟨S 3,N,x (.agg 2) (s 1)⟩,⟨S 4,N,v (m (c (.sl (.agg 2) .nil [])))⟩,⟨S 5,N,v (m (c (.bool false)))⟩]
abbrev g94r1:List aA:=[⟨S 6,N,v (m (s 0))⟩,⟨S 7,N,v (.mkfn (.func 134) [] [s 3])⟩,⟨S 8,N,k 85 [s 6,s 7]⟩]
abbrev g94r2:List aA:=[⟨S 9,N,v (m (s 0))⟩,⟨S 4,N,v (m (s 9))⟩,⟨S 5,N,v (m (c (.bool false)))⟩]
abbrev g94r3:List aA:=[⟨S 10,N,v (m (s 0))⟩,⟨S 11,N,v (.mkfn (.func 137) [] [s 3])⟩,⟨S 12,N,k 136 [s 10,s 11]⟩,⟨S 0,N,v (m (s 12))⟩]
abbrev g94r4:List aA:=[⟨S 13,N,v (m (s 0))⟩,⟨S 14,N,v (l (.agg 2) (s 3))⟩,⟨S 15,N,y (.agg 2) [s 14]⟩,⟨S 16,N,a (.agg 2) 16 (s 13) (s 15)⟩,⟨S 0,N,v (m (s 16))⟩]
abbrev g94r5:List aA:=[⟨S 17,N,v (m (s 0))⟩,⟨S 18,N,k 138 [s 17,(c (.fn (.func 139) [] []))]⟩]
abbrev g94r6:List aA:=[⟨S 19,N,v (m (s 0))⟩,⟨S 4,N,v (m (s 19))⟩,⟨S 5,N,v (m (c (.bool true)))⟩]
def path_put:LFn:=⟨(Q (O g94r0) (Q (Q (O g94r1) (C (s 8) (Q (O g94r2) .ret) Z)) (Q (O g94r3) (Q (O g94r4) (Q (O g94r5) (Q (O g94r6) .ret)))))),20,[.slot 4,.slot 5]⟩
theorem path_put_low:aH Tryz.prog 109=some path_put:=by kernel_rfl
abbrev g95r0:List aA:=[⟨S 2,N,v (m (c (.sl (.agg 2) .nil [])))⟩]
abbrev g95r1:List aA:=[⟨S 3,N,v (m (c (.sl (.agg 2) .nil [])))⟩]
abbrev g95r2:List aA:=[⟨S 6,N,v (m (s 0))⟩,⟨S 7,N,k 141 [s 6]⟩,⟨S 8,N,k 140 [s 7,(c (.fn (.func 126) [] []))]⟩,⟨S 9,N,v (w (s 8))⟩,⟨S 10,N,v (m (c (I j 0)))⟩]
abbrev g95r3:List aA:=[⟨S 11,N,v (b .lss (s 10) (s 9))⟩]
abbrev g95r4:List aA:=[⟨S 12,N,v (i (.agg 2) (s 8) (s 10))⟩,⟨S 13,N,v (l (.agg 2) (s 12))⟩,⟨S 5,N,x (.agg 2) (c (.agg [(I j 0),(I j 0)]))⟩,⟨N,N,t (.agg 2) (s 5) (s 13)⟩]
abbrev g95r5:List aA:=[⟨S 14,N,v (l (.agg 2) (s 5))⟩,⟨S 15,N,k 66 [s 14]⟩,⟨S 16,N,v (m (s 15))⟩,⟨S 17,S (16,true),v (m (s 3))⟩,⟨S 18,S (16,true),v (l (.agg 2) (s 5))⟩,⟨S 19,S (16,true),k 78 [s 17,s 18]⟩,⟨S 20,S (16,true),v (.not (s 19))⟩,⟨S 21,N,v (p (s 16) (s 20) (c (.bool false)))⟩]
abbrev g95r6:List aA:=[⟨S 22,N,v (m (s 3))⟩,⟨S 23,N,v (l (.agg 2) (s 5))⟩,⟨S 24,N,y (.agg 2) [s 23]⟩,⟨S 25,N,a (.agg 2) 16 (s 22) (s 24)⟩,⟨S 3,N,v (m (s 25))⟩]
abbrev g95r7:List aA:=[⟨S 26,N,v (b .add (s 10) (c (I j 1)))⟩,⟨S 10,N,v (m (s 26))⟩]
abbrev g95l0:bE:=(Q (O g95r3) (Q (C (s 11) Z (X 0)) (Q (K 1 (Q (O g95r4) (Q (O g95r5) (C (s 21) (O g95r6) Z)))) (O g95r7))))
abbrev g95r8:List aA:=[⟨S 27,N,v (m (s 3))⟩,⟨S 2,N,v (m (s 27))⟩]
def chain_Of:LFn:=⟨(Q (O g95r0) (Q (O g95r1) (Q (Q (O g95r2) (K 0 (R g95l0))) (Q (O g95r8) .ret)))),28,[.slot 2]⟩
theorem chain_Of_low:aH Tryz.prog 110=some chain_Of:=by kernel_rfl
abbrev slices_IndexFunc_stamp_Time_stamp_Time_r0:List aA:=[⟨S 4,N,v (m (c (I j 0)))⟩]
abbrev slices_IndexFunc_stamp_Time_stamp_Time_r1:List aA:=[⟨S 6,N,v (m (s 0))⟩,⟨S 7,N,v (w (s 6))⟩,⟨S 8,N,v (m (c (I j 0)))⟩]
abbrev slices_IndexFunc_stamp_Time_stamp_Time_r2:List aA:=[⟨S 9,N,v (b .lss (s 8) (s 7))⟩]
abbrev slices_IndexFunc_stamp_Time_stamp_Time_r3:List aA:=[⟨S 10,N,v (m (s 8))⟩,⟨S 5,N,v (m (s 10))⟩]
abbrev slices_IndexFunc_stamp_Time_stamp_Time_r4:List aA:=[⟨S 11,N,v (m (s 1))⟩,⟨S 12,N,v (m (s 0))⟩,⟨S 13,N,v (m (s 5))⟩,⟨S 14,N,v (i (.agg 2) (s 12) (s 13))⟩,⟨S 15,N,v (l (.agg 2) (s 14))⟩,⟨S 16,N,.callv (s 11) [s 15]⟩]
abbrev slices_IndexFunc_stamp_Time_stamp_Time_r5:List aA:=[⟨S 17,N,v (m (s 5))⟩,⟨S 4,N,v (m (s 17))⟩]
abbrev slices_IndexFunc_stamp_Time_stamp_Time_r6:List aA:=[⟨S 18,N,v (b .add (s 8) (c (I j 1)))⟩,⟨S 8,N,v (m (s 18))⟩]
abbrev g96l0:bE:=(Q (O slices_IndexFunc_stamp_Time_stamp_Time_r2) (Q (C (s 9) Z (X 0)) (Q (K 1 (Q (O slices_IndexFunc_stamp_Time_stamp_Time_r3) (Q (O slices_IndexFunc_stamp_Time_stamp_Time_r4) (C (s 16) (Q (O slices_IndexFunc_stamp_Time_stamp_Time_r5) .ret) Z)))) (O slices_IndexFunc_stamp_Time_stamp_Time_r6))))
abbrev slices_IndexFunc_stamp_Time_stamp_Time_r7:List aA:=[⟨S 4,N,v (m (c (I j (-1))))⟩]
def slices_IndexFunc_stamp_Time_stamp_Time:LFn:=⟨(Q (O slices_IndexFunc_stamp_Time_stamp_Time_r0) (Q (Q (O slices_IndexFunc_stamp_Time_stamp_Time_r1) (K 0 (R g96l0))) (Q (O slices_IndexFunc_stamp_Time_stamp_Time_r7) .ret))),19,[.slot 4]⟩
theorem slices_IndexFunc_stamp_Time_stamp_Time_low:aH Tryz.prog 111=some slices_IndexFunc_stamp_Time_stamp_Time:=by kernel_rfl
abbrev chain_Reaches_1_r0:List aA:=[⟨S 2,N,x (.agg 2) (s 0)⟩,⟨S 3,N,v (m (c (.bool false)))⟩]
abbrev chain_Reaches_1_r1:List aA:=[⟨S 4,N,v (l (.agg 2) (s 2))⟩,⟨S 5,N,v (l (.agg 2) (s 1))⟩,⟨S 6,N,k 84 [s 4,s 5]⟩,⟨S 3,N,v (m (s 6))⟩]
def chain_Reaches_1:LFn:=⟨(Q (O chain_Reaches_1_r0) (Q (O chain_Reaches_1_r1) .ret)),7,[.slot 3]⟩
theorem chain_Reaches_1_low:aH Tryz.prog 112=some chain_Reaches_1:=by kernel_rfl
abbrev g101r0:List aA:=[⟨S 1,N,x (.agg 2) (s 0)⟩,⟨S 2,N,v (m (c (.bool false)))⟩]
abbrev g101r1:List aA:=[⟨S 3,N,v (f 1 (s 1))⟩,⟨S 4,N,v (l F (s 3))⟩,⟨S 5,N,k 104 [s 4,(c (I j 1048576))]⟩,⟨S 2,N,v (m (s 5))⟩]
def stamp_RightPath:LFn:=⟨(Q (O g101r0) (Q (O g101r1) .ret)),6,[.slot 2]⟩
theorem stamp_RightPath_low:aH Tryz.prog 117=some stamp_RightPath:=by kernel_rfl
abbrev g109r0:List aA:=[⟨S 2,N,x (.agg 2) (s 0)⟩,⟨S 3,N,x (.agg 2) (s 1)⟩,⟨S 4,N,v (m (c (I j 0)))⟩]
abbrev g109r1:List (aA×List Nat):=[(⟨S 5,N,v (f 0 (s 2))⟩,[]),(⟨S 6,N,v (l F (s 5))⟩,[0]),(⟨S 7,N,v (f 0 (s 3))⟩,[]),(⟨S 8,N,v (l F (s 7))⟩,[2]),(⟨S 9,N,k 125 [s 6,s 8]⟩,[0,1,2,3]),(⟨S 10,N,v (f 1 (s 2))⟩,[]),(⟨S 11,N,v (l F (s 10))⟩,[5]),(⟨S 12,N,v (f 1 (s 3))⟩,[]),(⟨S 13,N,v (l F (s 12))⟩,[7]),(⟨S 14,N,k 125 [s 11,s 13]⟩,[0,1,2,3,4,5,6,7,8]),(⟨S 15,N,y F [s 9,s 14]⟩,[0,1,2,3,4,5,6,7,8,9]),(⟨S 16,N,k 124 [s 15]⟩,[0,1,2,3,4,5,6,7,8,9,10]),(⟨S 4,N,v (m (s 16))⟩,[0,1,2,3,4,5,6,7,8,9,10,11])]
abbrev g109r1t:List aA:=[]
def stamp_Compare:LFn:=⟨(Q (O g109r0) (Q (D 13 g109r1 g109r1t) .ret)),17,[.slot 4]⟩
theorem stamp_Compare_low:aH Tryz.prog 126=some stamp_Compare:=by kernel_rfl
abbrev g114r0:List aA:=[⟨S 2,N,v (m (c (I j 0)))⟩]
abbrev g114r1:List aA:=[⟨S 3,N,v (m (s 0))⟩]
abbrev g114r2:List aA:=[⟨S 2,N,v (m (c (I j 1)))⟩]
abbrev g114r3:List aA:=[⟨S 2,N,v (m (c (I j 0)))⟩]
def path_number:LFn:=⟨(Q (O g114r0) (Q (Q (O g114r1) (C (s 3) (Q (O g114r2) .ret) Z)) (Q (O g114r3) .ret))),4,[.slot 2]⟩
theorem path_number_low:aH Tryz.prog 131=some path_number:=by kernel_rfl
abbrev g115r0:List aA:=[⟨S 3,N,x (.agg 4) (s 0)⟩,⟨S 4,N,v (m (c (.bool false)))⟩]
abbrev g115r1:List aA:=[⟨S 5,N,v (f 2 (s 3))⟩,⟨S 6,N,v (f 0 (s 5))⟩,⟨S 7,N,v (l F (s 6))⟩,⟨S 8,N,v (m (s 7))⟩,⟨S 9,S (8,true),v (l F (s 1))⟩,⟨S 10,S (8,true),v (l F (s 2))⟩,⟨S 11,S (8,true),v (f 1 (s 3))⟩,⟨S 12,S (8,true),v (l F (s 11))⟩,⟨S 13,S (8,true),v (f 0 (s 3))⟩,⟨S 14,S (8,true),v (l F (s 13))⟩,⟨S 15,S (8,true),k 133 [s 9,s 10,s 12,s 14]⟩,⟨S 16,N,v (p (s 8) (s 15) (c (.bool false)))⟩,⟨S 4,N,v (m (s 16))⟩]
def path_turns_1:LFn:=⟨(Q (O g115r0) (Q (O g115r1) .ret)),17,[.slot 4]⟩
theorem path_turns_1_low:aH Tryz.prog 132=some path_turns_1:=by kernel_rfl
abbrev g116r0:List aA:=[⟨S 8,N,v (m (c (.bool false)))⟩]
abbrev g116r1:List aA:=[⟨S 13,N,v (m (s 0))⟩,⟨S 14,N,.mkz F 1 (s 13) (.bool false)⟩,⟨S 9,N,v (m (s 14))⟩]
abbrev g116r2:List aA:=[⟨S 15,N,v (m (s 2))⟩,⟨S 16,N,y F [s 15]⟩,⟨S 10,N,v (m (s 16))⟩]
abbrev g116r3:List aA:=[⟨S 17,N,v (m (s 10))⟩,⟨S 18,N,v (w (s 17))⟩,⟨S 19,N,v (b .gtr (s 18) (c (I j 0)))⟩]
abbrev g116r4:List aA:=[⟨S 22,N,v (m (s 10))⟩,⟨S 23,N,v (i F (s 22) (c (I j 0)))⟩,⟨S 24,N,v (l F (s 23))⟩,⟨S 25,N,v (m (s 3))⟩,⟨S 26,N,v (b .eql (s 24) (s 25))⟩]
abbrev g116r5:List aA:=[⟨S 8,N,v (m (c (.bool true)))⟩]
abbrev g116r6:List aA:=[⟨S 27,N,v (m (s 1))⟩,⟨S 28,N,v (w (s 27))⟩,⟨S 29,N,v (m (c (I j 0)))⟩]
abbrev g116r7:List aA:=[⟨S 30,N,v (b .lss (s 29) (s 28))⟩]
abbrev g116r8:List aA:=[⟨S 31,N,v (i (.agg 4) (s 27) (s 29))⟩,⟨S 32,N,v (l (.agg 4) (s 31))⟩,⟨S 12,N,x (.agg 4) (c (.agg [(I j 0),(I j 0),(.bool false),(I j 0)]))⟩,⟨N,N,t (.agg 4) (s 12) (s 32)⟩]
abbrev g116r9:List (aA×List Nat):=[(⟨S 33,N,v (f 0 (s 12))⟩,[]),(⟨S 34,N,v (l F (s 33))⟩,[0]),(⟨S 35,N,v (m (s 10))⟩,[]),(⟨S 36,N,v (i F (s 35) (c (I j 0)))⟩,[2]),(⟨S 37,N,v (l F (s 36))⟩,[2,3]),(⟨S 38,N,v (b .eql (s 34) (s 37))⟩,[0,1,2,3,4]),(⟨S 39,N,v (m (s 38))⟩,[0,1,2,3,4,5]),(⟨S 40,S (39,true),v (m (s 9))⟩,[0,1,2,3,4,5,6]),(⟨S 41,S (39,true),v (f 1 (s 12))⟩,[0,1,2,3,4,5,6]),(⟨S 42,S (39,true),v (l F (s 41))⟩,[0,1,2,3,4,5,6,8]),(⟨S 43,S (39,true),v (i F (s 40) (s 42))⟩,[0,1,2,3,4,5,6,7,8,9]),(⟨S 44,S (39,true),v (l F (s 43))⟩,[0,1,2,3,4,5,6,7,8,9,10]),(⟨S 45,S (39,true),v (.not (s 44))⟩,[0,1,2,3,4,5,6,7,8,9,10,11]),(⟨S 46,N,v (p (s 39) (s 45) (c (.bool false)))⟩,[0,1,2,3,4,5,6,7,8,9,10,11,12])]
abbrev g116r9t:List aA:=[]
abbrev g116r10:List aA:=[⟨S 47,N,v (m (s 9))⟩,⟨S 48,N,v (f 1 (s 12))⟩,⟨S 49,N,v (l F (s 48))⟩,⟨S 50,N,v (i F (s 47) (s 49))⟩,⟨N,N,t F (s 50) (c (.bool true))⟩]
abbrev g116r11:List aA:=[⟨S 51,N,v (m (s 10))⟩,⟨S 52,N,v (f 1 (s 12))⟩,⟨S 53,N,v (l F (s 52))⟩,⟨S 54,N,y F [s 53]⟩,⟨S 55,N,a F 8 (s 51) (s 54)⟩,⟨S 10,N,v (m (s 55))⟩]
abbrev g116r12:List aA:=[⟨S 56,N,v (b .add (s 29) (c (I j 1)))⟩,⟨S 29,N,v (m (s 56))⟩]
abbrev g116l0:bE:=(Q (O g116r7) (Q (C (s 30) Z (X 2)) (Q (K 3 (Q (O g116r8) (Q (D 14 g116r9 g116r9t) (C (s 46) (Q (O g116r10) (O g116r11)) Z)))) (O g116r12))))
abbrev g116r13:List aA:=[⟨S 20,N,v (m (s 10))⟩,⟨S 21,N,v (.slc F (s 20) (.some (c (I j 1))) .none .none)⟩,⟨S 10,N,v (m (s 21))⟩]
abbrev g116l1:bE:=(Q (Q (O g116r3) (C (s 19) Z (X 0))) (Q (K 1 (Q (Q (O g116r4) (C (s 26) (Q (O g116r5) .ret) Z)) (Q (O g116r6) (K 2 (R g116l0))))) (O g116r13)))
abbrev g116r14:List aA:=[⟨S 8,N,v (m (c (.bool false)))⟩]
def path_reaches:LFn:=⟨(Q (O g116r0) (Q (O g116r1) (Q (Q (O g116r2) (K 0 (R g116l1))) (Q (O g116r14) .ret)))),57,[.slot 8]⟩
theorem path_reaches_low:aH Tryz.prog 133=some path_reaches:=by kernel_rfl
abbrev g117r0:List aA:=[⟨S 2,N,x (.agg 2) (s 0)⟩,⟨S 3,N,v (m (c (.bool false)))⟩]
abbrev g117r1:List aA:=[⟨S 4,N,v (l (.agg 2) (s 2))⟩,⟨S 5,N,v (l (.agg 2) (s 1))⟩,⟨S 6,N,k 135 [s 4,s 5]⟩,⟨S 3,N,v (m (s 6))⟩]
def path_put_1:LFn:=⟨(Q (O g117r0) (Q (O g117r1) .ret)),7,[.slot 3]⟩
theorem path_put_1_low:aH Tryz.prog 134=some path_put_1:=by kernel_rfl
abbrev g118r0:List aA:=[⟨S 2,N,x (.agg 2) (s 0)⟩,⟨S 3,N,x (.agg 2) (s 1)⟩,⟨S 4,N,v (m (c (.bool false)))⟩]
abbrev g118r1:List aA:=[⟨S 5,N,v (f 0 (s 2))⟩,⟨S 6,N,v (l F (s 5))⟩,⟨S 7,N,v (m (s 6))⟩,⟨S 8,S (7,false),v (f 0 (s 3))⟩,⟨S 9,S (7,false),v (l F (s 8))⟩,⟨S 10,S (7,false),v (.not (s 9))⟩,⟨S 11,N,v (p (s 7) (c (.bool true)) (s 10))⟩,⟨S 12,N,v (m (s 11))⟩,⟨S 13,S (12,true),v (f 1 (s 2))⟩,⟨S 14,S (12,true),v (l F (s 13))⟩,⟨S 15,S (12,true),v (f 1 (s 3))⟩,⟨S 16,S (12,true),v (l F (s 15))⟩,⟨S 17,S (12,true),v (b .leq (s 14) (s 16))⟩,⟨S 18,N,v (p (s 12) (s 17) (c (.bool false)))⟩,⟨S 4,N,v (m (s 18))⟩]
def stamp_Path_AtMost:LFn:=⟨(Q (O g118r0) (Q (O g118r1) .ret)),19,[.slot 4]⟩
theorem stamp_Path_AtMost_low:aH Tryz.prog 135=some stamp_Path_AtMost:=by kernel_rfl
abbrev g120r0:List aA:=[⟨S 2,N,x (.agg 2) (s 0)⟩,⟨S 3,N,v (m (c (.bool false)))⟩]
abbrev g120r1:List aA:=[⟨S 4,N,v (l (.agg 2) (s 1))⟩,⟨S 5,N,v (l (.agg 2) (s 2))⟩,⟨S 6,N,k 135 [s 4,s 5]⟩,⟨S 3,N,v (m (s 6))⟩]
def path_put_2:LFn:=⟨(Q (O g120r0) (Q (O g120r1) .ret)),7,[.slot 3]⟩
theorem path_put_2_low:aH Tryz.prog 137=some path_put_2:=by kernel_rfl
abbrev g122r0:List aA:=[⟨S 2,N,x (.agg 2) (s 0)⟩,⟨S 3,N,x (.agg 2) (s 1)⟩,⟨S 4,N,v (m (c (I j 0)))⟩]
abbrev g122r1:List (aA×List Nat):=[(⟨S 5,N,v (f 0 (s 2))⟩,[]),(⟨S 6,N,v (l F (s 5))⟩,[0]),(⟨S 7,N,k 131 [s 6]⟩,[0,1]),(⟨S 8,N,v (f 0 (s 3))⟩,[]),(⟨S 9,N,v (l F (s 8))⟩,[3]),(⟨S 10,N,k 131 [s 9]⟩,[0,1,2,3,4]),(⟨S 11,N,v (b .sub (s 7) (s 10))⟩,[0,1,2,3,4,5]),(⟨S 4,N,v (m (s 11))⟩,[0,1,2,3,4,5,6])]
abbrev g122r1t:List aA:=[]
def path_put_3:LFn:=⟨(Q (O g122r0) (Q (D 8 g122r1 g122r1t) .ret)),12,[.slot 4]⟩
theorem path_put_3_low:aH Tryz.prog 139=some path_put_3:=by kernel_rfl
end L
end Go.Proofs.YtecepaehmojpgaaGreat
