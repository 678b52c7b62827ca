/-
The functions of the code,lowered:printed by a program,checked by the kernel. No conditions.
-/
import Derived.Test.YthikfnmcjipobaaGreatKcb
import Derived.Test.YthikfnmcjipobaaGreatProg
namespace Go.Proofs.YthikfnmcjipobaaGreat
open Go.RowKit
namespace L
abbrev g0r0:List aA:=[⟨some 4,none,.box (.agg 3) (.slot 1)⟩,⟨some 5,none,.box (.agg 3) (.slot 2)⟩,⟨some 6,none,.val (.move (.const (.bool false)))⟩]
abbrev g0r1:List aA:=[⟨some 7,none,.call 12 []⟩,⟨some 8,none,.val (.not (.slot 7))⟩]
abbrev g0r2:List aA:=[⟨some 6,none,.val (.move (.const (.bool false)))⟩]
abbrev g0r3:List aA:=[⟨some 9,none,.val (.move (.slot 0))⟩,⟨some 10,none,.val (.len (.slot 9))⟩,⟨some 11,none,.val (.bin .gtr (.slot 10) (.const (.int .i64 60)))⟩]
abbrev g0r4:List aA:=[⟨some 6,none,.val (.move (.const (.bool true)))⟩]
abbrev g0r5:List (aA×List Nat):=[(⟨some 12,none,.val (.move (.slot 0))⟩,[]),(⟨some 13,none,.call 15 [(.slot 12)]⟩,[0]),(⟨some 14,none,.call 14 [(.slot 13)]⟩,[0,1]),(⟨some 15,none,.val (.move (.slot 0))⟩,[]),(⟨some 16,none,.call 14 [(.slot 15)]⟩,[0,1,2,3]),(⟨some 17,none,.call 16 [(.slot 16)]⟩,[0,1,2,3,4]),(⟨some 18,none,.call 13 [(.slot 14),(.slot 17)]⟩,[0,1,2,3,4,5]),(⟨some 19,none,.val (.move (.slot 18))⟩,[0,1,2,3,4,5,6]),(⟨some 20,some (19,true),.val (.load (.agg 3) (.slot 4))⟩,[0,1,2,3,4,5,6,7]),(⟨some 21,some (19,true),.val (.load (.agg 3) (.slot 5))⟩,[0,1,2,3,4,5,6,7]),(⟨some 22,some (19,true),.call 17 [(.slot 20),(.slot 21)]⟩,[0,1,2,3,4,5,6,7,8,9]),(⟨some 23,some (19,true),.val (.load (.agg 3) (.slot 4))⟩,[0,1,2,3,4,5,6,7]),(⟨some 24,some (19,true),.call 19 [(.slot 23)]⟩,[0,1,2,3,4,5,6,7,8,9,10,11]),(⟨some 25,some (19,true),.val (.load (.agg 3) (.slot 5))⟩,[0,1,2,3,4,5,6,7]),(⟨some 26,some (19,true),.call 19 [(.slot 25)]⟩,[0,1,2,3,4,5,6,7,8,9,10,11,12,13]),(⟨some 27,some (19,true),.call 18 [(.slot 24),(.slot 26)]⟩,[0,1,2,3,4,5,6,7,8,9,10,11,12,13,14]),(⟨some 28,some (19,true),.val (.bin .eql (.slot 22) (.slot 27))⟩,[0,1,2,3,4,5,6,7,8,9,10,11,12,13,14,15]),(⟨some 29,none,.val (.pick (.slot 19) (.slot 28) (.const (.bool false)))⟩,[0,1,2,3,4,5,6,7,8,9,10,11,12,13,14,15,16]),(⟨some 6,none,.val (.move (.slot 29))⟩,[0,1,2,3,4,5,6,7,8,9,10,11,12,13,14,15,16,17])]
abbrev g0r5t:List aA:=[]
def corollarylaw23_CountSums:LFn:=⟨(.seq (.ops g0r0) (.seq (.seq (.ops g0r1) (.cond (.slot 8) (.seq (.ops g0r2) .ret) .skip)) (.seq (.seq (.ops g0r3) (.cond (.slot 11) (.seq (.ops g0r4) .ret) .skip)) (.seq (.draw 19 g0r5 g0r5t) .ret)))),30,[.slot 6]⟩
theorem corollarylaw23_CountSums_low:aH Tryz.prog 3=some corollarylaw23_CountSums:=by kernel_rfl
abbrev g8r0:List aA:=[⟨some 0,none,.val (.move (.const (.bool false)))⟩]
abbrev g8r1:List aA:=[⟨some 8,none,.val (.build [(.int .i64 0),(.int .i64 0),(.bool false),(.int .i64 0)] [(0,.leaf,(.const (.int .i64 0))),(1,.leaf,(.const (.int .i64 1)))])⟩,⟨some 9,none,.bslice (.agg 4) [(.slot 8)]⟩,⟨some 10,none,.call 61 [(.const (.int .i64 2)),(.slot 9)]⟩,⟨some 7,none,.val (.move (.slot 10))⟩,⟨some 11,none,.val (.ext (.slot 7) 0)⟩,⟨some 12,none,.val (.ext (.slot 7) 1)⟩,⟨some 1,none,.box (.agg 2) (.const (.agg [(.int .i64 0),(.sl (.agg 4) .nil [])]))⟩,⟨none,none,.store (.agg 2) (.slot 1) (.slot 11)⟩,⟨some 2,none,.val (.move (.slot 12))⟩]
abbrev g8r2:List aA:=[⟨some 14,none,.val (.load (.agg 2) (.slot 1))⟩,⟨some 15,none,.call 21 [(.slot 14)]⟩,⟨some 13,none,.val (.move (.slot 15))⟩,⟨some 16,none,.val (.ext (.slot 13) 0)⟩,⟨some 17,none,.val (.ext (.slot 13) 1)⟩,⟨some 3,none,.val (.move (.slot 16))⟩,⟨some 4,none,.val (.move (.slot 17))⟩]
abbrev g8r3:List aA:=[⟨some 18,none,.val (.move (.slot 2))⟩,⟨some 19,none,.val (.eq true (.iface true) (.slot 18) (.const .nilIface))⟩,⟨some 20,none,.val (.move (.slot 19))⟩,⟨some 21,some (20,false),.val (.move (.slot 4))⟩,⟨some 22,some (20,false),.val (.eq true (.iface true) (.slot 21) (.const .nilIface))⟩,⟨some 23,none,.val (.pick (.slot 20) (.const (.bool true)) (.slot 22))⟩,⟨some 24,none,.val (.move (.slot 23))⟩,⟨some 25,some (24,false),.val (.move (.slot 3))⟩,⟨some 26,some (24,false),.val (.eq false .ptr (.slot 25) (.const .nilPtr))⟩,⟨some 27,none,.val (.pick (.slot 24) (.const (.bool true)) (.slot 26))⟩]
abbrev g8r4:List aA:=[⟨some 0,none,.val (.move (.const (.bool false)))⟩]
abbrev g8r5:List aA:=[⟨some 28,none,.val (.move (.slot 3))⟩,⟨some 29,none,.val (.build [(.int .i64 0),(.int .i64 0)] [(0,.leaf,(.const (.int .i64 2)))])⟩,⟨some 30,none,.val (.build [(.int .i64 0),(.int .i64 0),(.int .i64 0)] [(1,(.agg 2),(.slot 29))])⟩,⟨some 31,none,.val (.build [(.int .i64 0),(.int .i64 0),(.int .i64 0),(.int .i64 0)] [(0,(.agg 3),(.slot 30)),(3,.leaf,(.const (.int .i64 1)))])⟩,⟨some 32,none,.bslice (.agg 4) [(.slot 31)]⟩,⟨some 33,none,.call 22 [(.slot 28),(.slot 32)]⟩,⟨some 5,none,.val (.move (.slot 33))⟩]
abbrev g8r6:List aA:=[⟨some 34,none,.val (.move (.slot 3))⟩,⟨some 35,none,.call 29 [(.slot 34),(.const (.int .i64 1))]⟩,⟨some 6,none,.val (.move (.slot 35))⟩]
abbrev g8r7:List aA:=[⟨some 36,none,.val (.move (.slot 5))⟩,⟨some 37,none,.val (.eq false (.iface true) (.slot 36) (.const .nilIface))⟩,⟨some 38,none,.val (.move (.slot 37))⟩,⟨some 39,some (38,true),.val (.move (.slot 6))⟩,⟨some 40,some (38,true),.val (.len (.slot 39))⟩,⟨some 41,some (38,true),.val (.bin .eql (.slot 40) (.const (.int .i64 1)))⟩,⟨some 42,none,.val (.pick (.slot 38) (.slot 41) (.const (.bool false)))⟩,⟨some 43,none,.val (.move (.slot 42))⟩,⟨some 44,some (43,true),.val (.move (.slot 6))⟩,⟨some 45,some (43,true),.val (.idxA (.agg 2) (.slot 44) (.const (.int .i64 0)))⟩,⟨some 46,some (43,true),.val (.load (.agg 2) (.slot 45))⟩,⟨some 47,some (43,true),.val (.build [(.int .i64 0),(.int .i64 0)] [(0,.leaf,(.const (.int .i64 2)))])⟩,⟨some 48,some (43,true),.val (.eq false (.plain (.agg 2) [.int,.int]) (.slot 46) (.slot 47))⟩,⟨some 49,none,.val (.pick (.slot 43) (.slot 48) (.const (.bool false)))⟩,⟨some 0,none,.val (.move (.slot 49))⟩]
def corollarylaw23_alive:LFn:=⟨(.seq (.ops g8r0) (.seq (.ops g8r1) (.seq (.ops g8r2) (.seq (.seq (.ops g8r3) (.cond (.slot 27) (.seq (.ops g8r4) .ret) .skip)) (.seq (.ops g8r5) (.seq (.ops g8r6) (.seq (.ops g8r7) .ret))))))),50,[.slot 0]⟩
theorem corollarylaw23_alive_low:aH Tryz.prog 12=some corollarylaw23_alive:=by kernel_rfl
abbrev g9r0:List aA:=[⟨some 4,none,.val (.move (.const (.bool false)))⟩]
abbrev g9r1:List aA:=[⟨some 6,none,.val (.move (.slot 0))⟩,⟨some 7,none,.val (.len (.slot 6))⟩,⟨some 8,none,.val (.move (.slot 1))⟩,⟨some 9,none,.val (.len (.slot 8))⟩,⟨some 10,none,.val (.bin .neq (.slot 7) (.slot 9))⟩]
abbrev g9r2:List aA:=[⟨some 4,none,.val (.move (.const (.bool false)))⟩]
abbrev g9r3:List aA:=[⟨some 5,none,.val (.move (.const (.int .i64 0)))⟩]
abbrev g9r4:List aA:=[⟨some 11,none,.val (.move (.slot 5))⟩,⟨some 12,none,.val (.move (.slot 0))⟩,⟨some 13,none,.val (.len (.slot 12))⟩,⟨some 14,none,.val (.bin .lss (.slot 11) (.slot 13))⟩]
abbrev g9r5:List (aA×List Nat):=[(⟨some 17,none,.val (.move (.slot 0))⟩,[]),(⟨some 18,none,.val (.move (.slot 5))⟩,[]),(⟨some 19,none,.val (.idxA (.agg 4) (.slot 17) (.slot 18))⟩,[0,1]),(⟨some 20,none,.val (.load (.agg 4) (.slot 19))⟩,[0,1,2]),(⟨some 21,none,.val (.move (.slot 1))⟩,[]),(⟨some 22,none,.val (.move (.slot 5))⟩,[]),(⟨some 23,none,.val (.idxA (.agg 4) (.slot 21) (.slot 22))⟩,[4,5]),(⟨some 24,none,.val (.load (.agg 4) (.slot 23))⟩,[4,5,6]),(⟨some 25,none,.val (.eq true (.plain (.agg 4) [.int,.int,.int,.int]) (.slot 20) (.slot 24))⟩,[0,1,2,3,4,5,6,7])]
abbrev g9r5t:List aA:=[]
abbrev g9r6:List aA:=[⟨some 4,none,.val (.move (.const (.bool false)))⟩]
abbrev g9r7:List aA:=[⟨some 15,none,.val (.move (.slot 5))⟩,⟨some 16,none,.val (.bin .add (.slot 15) (.const (.int .i64 1)))⟩,⟨some 5,none,.val (.move (.slot 16))⟩]
abbrev g9l0:cF:=(.seq (.seq (.ops g9r4) (.cond (.slot 14) .skip (.exit 0))) (.seq (.block 1 (.seq (.draw 9 g9r5 g9r5t) (.cond (.slot 25) (.seq (.ops g9r6) .ret) .skip))) (.ops g9r7)))
abbrev g9r8:List aA:=[⟨some 4,none,.val (.move (.const (.bool true)))⟩]
def corollaryref23_Same:LFn:=⟨(.seq (.ops g9r0) (.seq (.seq (.ops g9r1) (.cond (.slot 10) (.seq (.ops g9r2) .ret) .skip)) (.seq (.seq (.ops g9r3) (.block 0 (.loop g9l0))) (.seq (.ops g9r8) .ret)))),26,[.slot 4]⟩
theorem corollaryref23_Same_low:aH Tryz.prog 13=some corollaryref23_Same:=by kernel_rfl
abbrev g10r0:List aA:=[⟨some 2,none,.val (.move (.const (.sl (.agg 4) .nil [])))⟩]
abbrev g10r1:List aA:=[⟨some 3,none,.val (.move (.const (.sl (.agg 4) .nil [])))⟩]
abbrev g10r2:List aA:=[⟨some 6,none,.val (.move (.slot 0))⟩,⟨some 7,none,.val (.len (.slot 6))⟩,⟨some 8,none,.val (.move (.const (.int .i64 0)))⟩]
abbrev g10r3:List aA:=[⟨some 9,none,.val (.bin .lss (.slot 8) (.slot 7))⟩]
abbrev g10r4:List aA:=[⟨some 10,none,.val (.idxA (.agg 4) (.slot 6) (.slot 8))⟩,⟨some 11,none,.val (.load (.agg 4) (.slot 10))⟩,⟨some 5,none,.box (.agg 4) (.const (.agg [(.int .i64 0),(.int .i64 0),(.int .i64 0),(.int .i64 0)]))⟩,⟨none,none,.store (.agg 4) (.slot 5) (.slot 11)⟩]
abbrev g10r5:List (aA×List Nat):=[(⟨some 12,none,.val (.move (.slot 3))⟩,[]),(⟨some 13,none,.val (.fldA 0 (.slot 5))⟩,[]),(⟨some 14,none,.val (.load (.agg 3) (.slot 13))⟩,[1]),(⟨some 15,none,.call 19 [(.slot 14)]⟩,[1,2]),(⟨some 16,none,.val (.fldA 3 (.slot 5))⟩,[]),(⟨some 17,none,.val (.load .leaf (.slot 16))⟩,[4]),(⟨some 18,none,.val (.build [(.int .i64 0),(.int .i64 0),(.int .i64 0),(.int .i64 0)] [(0,(.agg 3),(.slot 15)),(3,.leaf,(.slot 17))])⟩,[1,2,3,4,5]),(⟨some 19,none,.bslice (.agg 4) [(.slot 18)]⟩,[1,2,3,4,5,6]),(⟨some 20,none,.append (.agg 4) 32 (.slot 12) (.slot 19)⟩,[0,1,2,3,4,5,6,7])]
abbrev g10r5t:List aA:=[⟨some 3,none,.val (.move (.slot 20))⟩]
abbrev g10r6:List aA:=[⟨some 21,none,.val (.bin .add (.slot 8) (.const (.int .i64 1)))⟩,⟨some 8,none,.val (.move (.slot 21))⟩]
abbrev g10l0:cF:=(.seq (.ops g10r3) (.seq (.cond (.slot 9) .skip (.exit 0)) (.seq (.block 1 (.seq (.ops g10r4) (.draw 9 g10r5 g10r5t))) (.ops g10r6))))
abbrev g10r7:List aA:=[⟨some 22,none,.val (.move (.slot 3))⟩,⟨some 2,none,.val (.move (.slot 22))⟩]
def corollarylaw23_Changes:LFn:=⟨(.seq (.ops g10r0) (.seq (.ops g10r1) (.seq (.seq (.ops g10r2) (.block 0 (.loop g10l0))) (.seq (.ops g10r7) .ret)))),23,[.slot 2]⟩
theorem corollarylaw23_Changes_low:aH Tryz.prog 14=some corollarylaw23_Changes:=by kernel_rfl
abbrev g11r0:List aA:=[⟨some 2,none,.val (.move (.const (.sl (.agg 4) .nil [])))⟩]
abbrev g11r1:List aA:=[⟨some 9,none,.mp (.mk)⟩,⟨some 3,none,.val (.move (.slot 9))⟩]
abbrev g11r2:List aA:=[⟨some 10,none,.val (.move (.slot 0))⟩,⟨some 11,none,.val (.len (.slot 10))⟩,⟨some 12,none,.val (.move (.const (.int .i64 0)))⟩]
abbrev g11r3:List aA:=[⟨some 13,none,.val (.bin .lss (.slot 12) (.slot 11))⟩]
abbrev g11r4:List aA:=[⟨some 14,none,.val (.idxA (.agg 4) (.slot 10) (.slot 12))⟩,⟨some 15,none,.val (.load (.agg 4) (.slot 14))⟩,⟨some 5,none,.box (.agg 4) (.const (.agg [(.int .i64 0),(.int .i64 0),(.int .i64 0),(.int .i64 0)]))⟩,⟨none,none,.store (.agg 4) (.slot 5) (.slot 15)⟩]
abbrev g11r5:List aA:=[⟨some 16,none,.val (.move (.slot 3))⟩,⟨some 17,none,.val (.fldA 0 (.slot 5))⟩,⟨some 18,none,.val (.load (.agg 3) (.slot 17))⟩,⟨some 19,none,.val (.fldA 3 (.slot 5))⟩,⟨some 20,none,.val (.load .leaf (.slot 19))⟩,⟨some 21,none,.call 62 [(.slot 16),(.slot 18),(.slot 20)]⟩]
abbrev g11r6:List aA:=[⟨some 22,none,.val (.bin .add (.slot 12) (.const (.int .i64 1)))⟩,⟨some 12,none,.val (.move (.slot 22))⟩]
abbrev g11l0:cF:=(.seq (.ops g11r3) (.seq (.cond (.slot 13) .skip (.exit 0)) (.seq (.block 1 (.seq (.ops g11r4) (.ops g11r5))) (.ops g11r6))))
abbrev g11r7:List aA:=[⟨some 6,none,.val (.move (.const (.sl (.agg 4) .nil [])))⟩]
abbrev g11r8:List aA:=[⟨some 23,none,.val (.move (.slot 3))⟩,⟨some 24,none,.call 64 [(.slot 23)]⟩,⟨some 25,none,.call 63 [(.slot 24),(.const (.fn (.func 17) [] []))]⟩,⟨some 26,none,.val (.len (.slot 25))⟩,⟨some 27,none,.val (.move (.const (.int .i64 0)))⟩]
abbrev g11r9:List aA:=[⟨some 28,none,.val (.bin .lss (.slot 27) (.slot 26))⟩]
abbrev g11r10:List aA:=[⟨some 29,none,.val (.idxA (.agg 3) (.slot 25) (.slot 27))⟩,⟨some 30,none,.val (.load (.agg 3) (.slot 29))⟩,⟨some 8,none,.box (.agg 3) (.const (.agg [(.int .i64 0),(.int .i64 0),(.int .i64 0)]))⟩,⟨none,none,.store (.agg 3) (.slot 8) (.slot 30)⟩]
abbrev g11r11:List (aA×List Nat):=[(⟨some 31,none,.val (.move (.slot 6))⟩,[]),(⟨some 32,none,.val (.load (.agg 3) (.slot 8))⟩,[]),(⟨some 33,none,.val (.move (.slot 3))⟩,[]),(⟨some 34,none,.val (.load (.agg 3) (.slot 8))⟩,[]),(⟨some 35,none,.val (.mget (.agg 3) [.int,.int,.int] (.int .i64 0) false (.slot 33) (.slot 34))⟩,[2,3]),(⟨some 36,none,.val (.build [(.int .i64 0),(.int .i64 0),(.int .i64 0),(.int .i64 0)] [(0,(.agg 3),(.slot 32)),(3,.leaf,(.slot 35))])⟩,[1,2,3,4]),(⟨some 37,none,.bslice (.agg 4) [(.slot 36)]⟩,[1,2,3,4,5]),(⟨some 38,none,.append (.agg 4) 32 (.slot 31) (.slot 37)⟩,[0,1,2,3,4,5,6])]
abbrev g11r11t:List aA:=[⟨some 6,none,.val (.move (.slot 38))⟩]
abbrev g11r12:List aA:=[⟨some 39,none,.val (.bin .add (.slot 27) (.const (.int .i64 1)))⟩,⟨some 27,none,.val (.move (.slot 39))⟩]
abbrev g11l1:cF:=(.seq (.ops g11r9) (.seq (.cond (.slot 28) .skip (.exit 2)) (.seq (.block 3 (.seq (.ops g11r10) (.draw 8 g11r11 g11r11t))) (.ops g11r12))))
abbrev g11r13:List aA:=[⟨some 40,none,.val (.move (.slot 6))⟩,⟨some 2,none,.val (.move (.slot 40))⟩]
def count_Sum:LFn:=⟨(.seq (.ops g11r0) (.seq (.ops g11r1) (.seq (.seq (.ops g11r2) (.block 0 (.loop g11l0))) (.seq (.ops g11r7) (.seq (.seq (.ops g11r8) (.block 2 (.loop g11l1))) (.seq (.ops g11r13) .ret)))))),41,[.slot 2]⟩
theorem count_Sum_low:aH Tryz.prog 15=some count_Sum:=by kernel_rfl
abbrev g12r0:List aA:=[⟨some 2,none,.val (.move (.const (.sl (.agg 4) .nil [])))⟩]
abbrev g12r1:List aA:=[⟨some 3,none,.val (.move (.const (.sl (.agg 4) .nil [])))⟩]
abbrev g12r2:List aA:=[⟨some 4,none,.val (.move (.const (.int .i64 0)))⟩]
abbrev g12r3:List aA:=[⟨some 9,none,.val (.move (.slot 4))⟩,⟨some 10,none,.val (.move (.slot 0))⟩,⟨some 11,none,.val (.len (.slot 10))⟩,⟨some 12,none,.val (.bin .lss (.slot 9) (.slot 11))⟩]
abbrev g12r4:List aA:=[⟨some 5,none,.val (.move (.const (.bool true)))⟩,⟨some 6,none,.val (.move (.const (.int .i64 0)))⟩]
abbrev g12r5:List aA:=[⟨some 7,none,.val (.move (.const (.int .i64 0)))⟩]
abbrev g12r6:List aA:=[⟨some 15,none,.val (.move (.slot 7))⟩,⟨some 16,none,.val (.move (.slot 0))⟩,⟨some 17,none,.val (.len (.slot 16))⟩,⟨some 18,none,.val (.bin .lss (.slot 15) (.slot 17))⟩]
abbrev g12r7:List (aA×List Nat):=[(⟨some 21,none,.val (.move (.slot 0))⟩,[]),(⟨some 22,none,.val (.move (.slot 7))⟩,[]),(⟨some 23,none,.val (.idxA (.agg 4) (.slot 21) (.slot 22))⟩,[0,1]),(⟨some 24,none,.val (.fldA 0 (.slot 23))⟩,[0,1,2]),(⟨some 25,none,.val (.load (.agg 3) (.slot 24))⟩,[0,1,2,3]),(⟨some 26,none,.val (.move (.slot 0))⟩,[]),(⟨some 27,none,.val (.move (.slot 4))⟩,[]),(⟨some 28,none,.val (.idxA (.agg 4) (.slot 26) (.slot 27))⟩,[5,6]),(⟨some 29,none,.val (.fldA 0 (.slot 28))⟩,[5,6,7]),(⟨some 30,none,.val (.load (.agg 3) (.slot 29))⟩,[5,6,7,8]),(⟨some 31,none,.val (.eq false (.plain (.agg 3) [.int,.int,.int]) (.slot 25) (.slot 30))⟩,[0,1,2,3,4,5,6,7,8,9])]
abbrev g12r7t:List aA:=[]
abbrev g12r8:List aA:=[⟨some 32,none,.val (.move (.slot 5))⟩,⟨some 33,none,.val (.move (.slot 32))⟩,⟨some 34,some (33,true),.val (.move (.slot 7))⟩,⟨some 35,some (33,true),.val (.move (.slot 4))⟩,⟨some 36,some (33,true),.val (.bin .geq (.slot 34) (.slot 35))⟩,⟨some 37,none,.val (.pick (.slot 33) (.slot 36) (.const (.bool false)))⟩,⟨some 5,none,.val (.move (.slot 37))⟩]
abbrev g12r9:List aA:=[⟨some 38,none,.val (.move (.slot 6))⟩,⟨some 39,none,.val (.move (.slot 0))⟩,⟨some 40,none,.val (.move (.slot 7))⟩,⟨some 41,none,.val (.idxA (.agg 4) (.slot 39) (.slot 40))⟩,⟨some 42,none,.val (.fldA 3 (.slot 41))⟩,⟨some 43,none,.val (.load .leaf (.slot 42))⟩,⟨some 44,none,.val (.bin .add (.slot 38) (.slot 43))⟩,⟨some 6,none,.val (.move (.slot 44))⟩]
abbrev g12r10:List aA:=[⟨some 19,none,.val (.move (.slot 7))⟩,⟨some 20,none,.val (.bin .add (.slot 19) (.const (.int .i64 1)))⟩,⟨some 7,none,.val (.move (.slot 20))⟩]
abbrev g12l0:cF:=(.seq (.seq (.ops g12r6) (.cond (.slot 18) .skip (.exit 2))) (.seq (.block 3 (.seq (.draw 11 g12r7 g12r7t) (.cond (.slot 31) (.seq (.ops g12r8) (.ops g12r9)) .skip))) (.ops g12r10)))
abbrev g12r11:List aA:=[⟨some 45,none,.val (.move (.slot 5))⟩,⟨some 46,none,.val (.not (.slot 45))⟩,⟨some 47,none,.val (.move (.slot 46))⟩,⟨some 48,some (47,false),.val (.move (.slot 6))⟩,⟨some 49,some (47,false),.val (.bin .eql (.slot 48) (.const (.int .i64 0)))⟩,⟨some 50,none,.val (.pick (.slot 47) (.const (.bool true)) (.slot 49))⟩]
abbrev g12r12:List aA:=[⟨some 8,none,.val (.move (.const (.int .i64 0)))⟩]
abbrev g12r13:List (aA×List Nat):=[(⟨some 51,none,.val (.move (.slot 8))⟩,[]),(⟨some 52,none,.val (.move (.slot 3))⟩,[]),(⟨some 53,none,.val (.len (.slot 52))⟩,[1]),(⟨some 54,none,.val (.bin .lss (.slot 51) (.slot 53))⟩,[0,1,2]),(⟨some 55,none,.val (.move (.slot 54))⟩,[0,1,2,3]),(⟨some 56,some (55,true),.val (.move (.slot 3))⟩,[0,1,2,3,4]),(⟨some 57,some (55,true),.val (.move (.slot 8))⟩,[0,1,2,3,4]),(⟨some 58,some (55,true),.val (.idxA (.agg 4) (.slot 56) (.slot 57))⟩,[0,1,2,3,4,5,6]),(⟨some 59,some (55,true),.val (.fldA 0 (.slot 58))⟩,[0,1,2,3,4,5,6,7]),(⟨some 60,some (55,true),.val (.load (.agg 3) (.slot 59))⟩,[0,1,2,3,4,5,6,7,8]),(⟨some 61,some (55,true),.val (.move (.slot 0))⟩,[0,1,2,3,4]),(⟨some 62,some (55,true),.val (.move (.slot 4))⟩,[0,1,2,3,4]),(⟨some 63,some (55,true),.val (.idxA (.agg 4) (.slot 61) (.slot 62))⟩,[0,1,2,3,4,10,11]),(⟨some 64,some (55,true),.val (.fldA 0 (.slot 63))⟩,[0,1,2,3,4,10,11,12]),(⟨some 65,some (55,true),.val (.load (.agg 3) (.slot 64))⟩,[0,1,2,3,4,10,11,12,13]),(⟨some 66,some (55,true),.call 65 [(.slot 60),(.slot 65)]⟩,[0,1,2,3,4,5,6,7,8,9,10,11,12,13,14]),(⟨some 67,none,.val (.pick (.slot 55) (.slot 66) (.const (.bool false)))⟩,[0,1,2,3,4,5,6,7,8,9,10,11,12,13,14,15])]
abbrev g12r13t:List aA:=[]
abbrev g12r14:List aA:=[⟨some 68,none,.val (.move (.slot 8))⟩,⟨some 69,none,.val (.bin .add (.slot 68) (.const (.int .i64 1)))⟩,⟨some 8,none,.val (.move (.slot 69))⟩]
abbrev g12l1:cF:=(.seq (.seq (.draw 17 g12r13 g12r13t) (.cond (.slot 67) .skip (.exit 4))) (.block 5 (.ops g12r14)))
abbrev corollaryref23_Sum_r15:List (aA×List Nat):=[(⟨some 70,none,.bslice (.agg 4) []⟩,[]),(⟨some 71,none,.val (.move (.slot 3))⟩,[]),(⟨some 72,none,.val (.move (.slot 8))⟩,[]),(⟨some 73,none,.val (.slc (.agg 4) (.slot 71) .none (.some (.slot 72)) .none)⟩,[1,2]),(⟨some 74,none,.append (.agg 4) 32 (.slot 70) (.slot 73)⟩,[0,1,2,3]),(⟨some 75,none,.val (.move (.slot 0))⟩,[]),(⟨some 76,none,.val (.move (.slot 4))⟩,[]),(⟨some 77,none,.val (.idxA (.agg 4) (.slot 75) (.slot 76))⟩,[5,6]),(⟨some 78,none,.val (.fldA 0 (.slot 77))⟩,[5,6,7]),(⟨some 79,none,.val (.load (.agg 3) (.slot 78))⟩,[5,6,7,8]),(⟨some 80,none,.val (.move (.slot 6))⟩,[]),(⟨some 81,none,.val (.build [(.int .i64 0),(.int .i64 0),(.int .i64 0),(.int .i64 0)] [(0,(.agg 3),(.slot 79)),(3,.leaf,(.slot 80))])⟩,[5,6,7,8,9,10]),(⟨some 82,none,.bslice (.agg 4) [(.slot 81)]⟩,[5,6,7,8,9,10,11]),(⟨some 83,none,.append (.agg 4) 32 (.slot 74) (.slot 82)⟩,[0,1,2,3,4,5,6,7,8,9,10,11,12]),(⟨some 84,none,.val (.move (.slot 3))⟩,[]),(⟨some 85,none,.val (.move (.slot 8))⟩,[]),(⟨some 86,none,.val (.slc (.agg 4) (.slot 84) (.some (.slot 85)) .none .none)⟩,[14,15]),(⟨some 87,none,.append (.agg 4) 32 (.slot 83) (.slot 86)⟩,[0,1,2,3,4,5,6,7,8,9,10,11,12,13,14,15,16])]
abbrev corollaryref23_Sum_r15t:List aA:=[⟨some 3,none,.val (.move (.slot 87))⟩]
abbrev corollaryref23_Sum_r16:List aA:=[⟨some 13,none,.val (.move (.slot 4))⟩,⟨some 14,none,.val (.bin .add (.slot 13) (.const (.int .i64 1)))⟩,⟨some 4,none,.val (.move (.slot 14))⟩]
abbrev g12l2:cF:=(.seq (.seq (.ops g12r3) (.cond (.slot 12) .skip (.exit 0))) (.seq (.block 1 (.seq (.ops g12r4) (.seq (.seq (.ops g12r5) (.block 2 (.loop g12l0))) (.seq (.seq (.ops g12r11) (.cond (.slot 50) (.exit 1) .skip)) (.seq (.ops g12r12) (.seq (.block 4 (.loop g12l1)) (.draw 18 corollaryref23_Sum_r15 corollaryref23_Sum_r15t))))))) (.ops corollaryref23_Sum_r16)))
abbrev g12r17:List aA:=[⟨some 88,none,.val (.move (.slot 3))⟩,⟨some 2,none,.val (.move (.slot 88))⟩]
def corollaryref23_Sum:LFn:=⟨(.seq (.ops g12r0) (.seq (.ops g12r1) (.seq (.seq (.ops g12r2) (.block 0 (.loop g12l2))) (.seq (.ops g12r17) .ret)))),89,[.slot 2]⟩
theorem corollaryref23_Sum_low:aH Tryz.prog 16=some corollaryref23_Sum:=by kernel_rfl
abbrev g13r0:List aA:=[⟨some 2,none,.box (.agg 3) (.slot 0)⟩,⟨some 3,none,.box (.agg 3) (.slot 1)⟩,⟨some 4,none,.val (.move (.const (.int .i64 0)))⟩]
abbrev g13r1:List (aA×List Nat):=[(⟨some 5,none,.val (.fldA 0 (.slot 2))⟩,[]),(⟨some 6,none,.val (.load .leaf (.slot 5))⟩,[0]),(⟨some 7,none,.val (.fldA 0 (.slot 3))⟩,[]),(⟨some 8,none,.val (.load .leaf (.slot 7))⟩,[2]),(⟨some 9,none,.call 67 [(.slot 6),(.slot 8)]⟩,[0,1,2,3]),(⟨some 10,none,.val (.fldA 1 (.slot 2))⟩,[]),(⟨some 11,none,.val (.load (.agg 2) (.slot 10))⟩,[5]),(⟨some 12,none,.val (.fldA 1 (.slot 3))⟩,[]),(⟨some 13,none,.val (.load (.agg 2) (.slot 12))⟩,[7]),(⟨some 14,none,.call 68 [(.slot 11),(.slot 13)]⟩,[0,1,2,3,4,5,6,7,8]),(⟨some 15,none,.bslice .leaf [(.slot 9),(.slot 14)]⟩,[0,1,2,3,4,5,6,7,8,9]),(⟨some 16,none,.call 66 [(.slot 15)]⟩,[0,1,2,3,4,5,6,7,8,9,10]),(⟨some 4,none,.val (.move (.slot 16))⟩,[0,1,2,3,4,5,6,7,8,9,10,11])]
abbrev g13r1t:List aA:=[]
def count_Compare:LFn:=⟨(.seq (.ops g13r0) (.seq (.draw 13 g13r1 g13r1t) .ret)),17,[.slot 4]⟩
theorem count_Compare_low:aH Tryz.prog 17=some count_Compare:=by kernel_rfl
abbrev g14r0:List aA:=[⟨some 2,none,.box (.agg 3) (.slot 0)⟩,⟨some 3,none,.box (.agg 3) (.slot 1)⟩,⟨some 4,none,.val (.move (.const (.int .i64 0)))⟩]
abbrev g14r1:List aA:=[⟨some 5,none,.val (.load (.agg 3) (.slot 2))⟩,⟨some 6,none,.val (.load (.agg 3) (.slot 3))⟩,⟨some 7,none,.call 65 [(.slot 5),(.slot 6)]⟩]
abbrev g14r2:List aA:=[⟨some 4,none,.val (.move (.const (.int .i64 (-1))))⟩]
abbrev g14r3:List aA:=[⟨some 8,none,.val (.load (.agg 3) (.slot 3))⟩,⟨some 9,none,.val (.load (.agg 3) (.slot 2))⟩,⟨some 10,none,.call 65 [(.slot 8),(.slot 9)]⟩]
abbrev g14r4:List aA:=[⟨some 4,none,.val (.move (.const (.int .i64 1)))⟩]
abbrev g14r5:List aA:=[⟨some 4,none,.val (.move (.const (.int .i64 0)))⟩]
def corollaryref23_Compare:LFn:=⟨(.seq (.ops g14r0) (.seq (.seq (.ops g14r1) (.cond (.slot 7) (.seq (.ops g14r2) .ret) .skip)) (.seq (.seq (.ops g14r3) (.cond (.slot 10) (.seq (.ops g14r4) .ret) .skip)) (.seq (.ops g14r5) .ret)))),11,[.slot 4]⟩
theorem corollaryref23_Compare_low:aH Tryz.prog 18=some corollaryref23_Compare:=by kernel_rfl
abbrev g15r0:List aA:=[⟨some 1,none,.box (.agg 3) (.slot 0)⟩,⟨some 2,none,.box (.agg 3) (.const (.agg [(.int .i64 0),(.int .i64 0),(.int .i64 0)]))⟩]
abbrev g15r1:List (aA×List Nat):=[(⟨some 3,none,.val (.fldA 0 (.slot 1))⟩,[]),(⟨some 4,none,.val (.load .leaf (.slot 3))⟩,[0]),(⟨some 5,none,.val (.fldA 1 (.slot 1))⟩,[]),(⟨some 6,none,.val (.load (.agg 2) (.slot 5))⟩,[2]),(⟨some 7,none,.call 69 [(.slot 6)]⟩,[2,3]),(⟨some 8,none,.val (.build [(.int .i64 0),(.int .i64 0),(.int .i64 0)] [(0,.leaf,(.slot 4)),(1,(.agg 2),(.slot 7))])⟩,[0,1,2,3,4])]
abbrev g15r1t:List aA:=[⟨none,none,.store (.agg 3) (.slot 2) (.slot 8)⟩]
def corollarylaw23_Stamp:LFn:=⟨(.seq (.ops g15r0) (.seq (.draw 6 g15r1 g15r1t) .ret)),9,[.cell 2 (.agg 3)]⟩
theorem corollarylaw23_Stamp_low:aH Tryz.prog 19=some corollarylaw23_Stamp:=by kernel_rfl
abbrev g17r0:List aA:=[⟨some 1,none,.box (.agg 2) (.slot 0)⟩,⟨some 2,none,.val (.move (.const .nilPtr))⟩,⟨some 3,none,.val (.move (.const .nilIface))⟩]
abbrev g17r1:List aA:=[⟨some 5,none,.val (.load (.agg 2) (.slot 1))⟩,⟨some 6,none,.call 70 [(.slot 5)]⟩,⟨some 7,none,.val (.not (.slot 6))⟩]
abbrev g17r2:List aA:=[⟨some 8,none,.val (.mkif 71 (.const (.int .i64 2)))⟩,⟨some 2,none,.val (.move (.const .nilPtr))⟩,⟨some 3,none,.val (.move (.slot 8))⟩]
abbrev g17r3:List (aA×List Nat):=[(⟨some 9,none,.val (.fldA 0 (.slot 1))⟩,[]),(⟨some 10,none,.val (.load .leaf (.slot 9))⟩,[0]),(⟨some 11,none,.val (.fldA 1 (.slot 1))⟩,[]),(⟨some 12,none,.val (.load .leaf (.slot 11))⟩,[2]),(⟨some 13,none,.call 71 [(.slot 12)]⟩,[2,3]),(⟨some 14,none,.val (.build [(.int .i64 0),(.sl (.agg 4) .nil [])] [(0,.leaf,(.slot 10)),(1,.leaf,(.slot 13))])⟩,[0,1,2,3,4]),(⟨some 4,none,.box (.agg 2) (.const (.agg [(.int .i64 0),(.sl (.agg 4) .nil [])]))⟩,[])]
abbrev g17r3t:List aA:=[⟨none,none,.store (.agg 2) (.slot 4) (.slot 14)⟩]
abbrev g17r4:List (aA×List Nat):=[(⟨some 15,none,.val (.load (.agg 2) (.slot 4))⟩,[]),(⟨some 16,none,.val (.load (.agg 2) (.slot 4))⟩,[]),(⟨some 17,none,.call 72 [(.slot 16)]⟩,[1]),(⟨some 18,none,.mp (.mk)⟩,[]),(⟨some 19,none,.val (.build [(.int .i64 0),(.sl (.agg 4) .nil []),(.sl .leaf .nil []),.nilMap] [(0,(.agg 2),(.slot 15)),(2,.leaf,(.slot 17)),(3,.leaf,(.slot 18))])⟩,[0,1,2,3]),(⟨some 20,none,.box (.agg 4) (.slot 19)⟩,[0,1,2,3,4]),(⟨some 2,none,.val (.move (.slot 20))⟩,[0,1,2,3,4,5]),(⟨some 3,none,.val (.move (.const .nilIface))⟩,[0,1,2,3,4,5,6])]
abbrev g17r4t:List aA:=[]
def count_New:LFn:=⟨(.seq (.ops g17r0) (.seq (.seq (.ops g17r1) (.cond (.slot 7) (.seq (.ops g17r2) .ret) .skip)) (.seq (.draw 7 g17r3 g17r3t) (.seq (.draw 8 g17r4 g17r4t) .ret)))),21,[.slot 2,.slot 3]⟩
theorem count_New_low:aH Tryz.prog 21=some count_New:=by kernel_rfl
abbrev g18r0:List aA:=[⟨some 2,none,.box .leaf (.slot 0)⟩,⟨some 4,none,.val (.move (.const .nilIface))⟩]
abbrev g18r1:List aA:=[⟨some 12,none,.val (.load .leaf (.slot 2))⟩,⟨some 13,none,.val (.eq false .ptr (.slot 12) (.const .nilPtr))⟩]
abbrev g18r2:List aA:=[⟨some 14,none,.val (.mkif 71 (.const (.int .i64 13)))⟩,⟨some 4,none,.val (.move (.slot 14))⟩]
abbrev g18r3:List aA:=[⟨some 15,none,.val (.mkfn (.func 73) [] [(.slot 2)])⟩,⟨some 5,none,.val (.move (.slot 15))⟩]
abbrev g18r4:List aA:=[⟨some 6,none,.val (.move (.const (.fn (.func 75) [] [])))⟩]
abbrev g18r5:List aA:=[⟨some 17,none,.val (.move (.slot 1))⟩,⟨some 18,none,.val (.move (.slot 5))⟩,⟨some 19,none,.call 77 [(.slot 17),(.slot 18)]⟩,⟨some 16,none,.val (.move (.slot 19))⟩]
abbrev g18r6:List aA:=[⟨some 20,none,.val (.mkif 71 (.const (.int .i64 2)))⟩,⟨some 4,none,.val (.move (.slot 20))⟩]
abbrev g18r7:List aA:=[⟨some 22,none,.val (.move (.slot 1))⟩,⟨some 23,none,.val (.move (.slot 6))⟩,⟨some 24,none,.call 77 [(.slot 22),(.slot 23)]⟩,⟨some 21,none,.val (.move (.slot 24))⟩]
abbrev g18r8:List aA:=[⟨some 25,none,.val (.mkif 71 (.const (.int .i64 1)))⟩,⟨some 4,none,.val (.move (.slot 25))⟩]
abbrev g18r9:List aA:=[⟨some 26,none,.val (.load .leaf (.slot 2))⟩,⟨some 27,none,.val (.nilCheck (.slot 26))⟩,⟨some 28,none,.val (.fldA 3 (.slot 27))⟩,⟨some 29,none,.val (.load .leaf (.slot 28))⟩,⟨some 30,none,.call 78 [(.slot 29)]⟩,⟨some 7,none,.val (.move (.slot 30))⟩]
abbrev g18r10:List aA:=[⟨some 31,none,.val (.move (.slot 1))⟩,⟨some 32,none,.val (.len (.slot 31))⟩,⟨some 33,none,.val (.move (.const (.int .i64 0)))⟩]
abbrev g18r11:List aA:=[⟨some 34,none,.val (.bin .lss (.slot 33) (.slot 32))⟩]
abbrev g18r12:List aA:=[⟨some 35,none,.val (.idxA (.agg 4) (.slot 31) (.slot 33))⟩,⟨some 36,none,.val (.load (.agg 4) (.slot 35))⟩,⟨some 9,none,.box (.agg 4) (.const (.agg [(.int .i64 0),(.int .i64 0),(.int .i64 0),(.int .i64 0)]))⟩,⟨none,none,.store (.agg 4) (.slot 9) (.slot 36)⟩]
abbrev g18r13:List aA:=[⟨some 37,none,.val (.move (.slot 7))⟩,⟨some 38,none,.val (.fldA 0 (.slot 9))⟩,⟨some 39,none,.val (.load (.agg 3) (.slot 38))⟩,⟨some 40,none,.val (.fldA 3 (.slot 9))⟩,⟨some 41,none,.val (.load .leaf (.slot 40))⟩,⟨some 42,none,.call 62 [(.slot 37),(.slot 39),(.slot 41)]⟩]
abbrev g18r14:List aA:=[⟨some 43,none,.val (.bin .add (.slot 33) (.const (.int .i64 1)))⟩,⟨some 33,none,.val (.move (.slot 43))⟩]
abbrev g18l0:cF:=(.seq (.ops g18r11) (.seq (.cond (.slot 34) .skip (.exit 1)) (.seq (.block 2 (.seq (.ops g18r12) (.ops g18r13))) (.ops g18r14))))
abbrev g18r15:List aA:=[⟨some 44,none,.val (.move (.slot 7))⟩,⟨some 45,none,.mp (.rng (.slot 44))⟩]
abbrev g18r16:List aA:=[⟨some 46,none,.mp (.nxt (.slot 45))⟩,⟨some 47,none,.val (.ext (.slot 46) 0)⟩]
abbrev g18r17:List aA:=[⟨some 48,none,.mp (.key (.slot 45))⟩,⟨some 49,none,.val (.ext (.slot 48) 1)⟩,⟨some 11,none,.val (.move (.slot 49))⟩]
abbrev g18r18:List aA:=[⟨some 50,none,.val (.move (.slot 11))⟩,⟨some 51,none,.call 76 [(.slot 50)]⟩,⟨some 52,none,.val (.not (.slot 51))⟩]
abbrev g18r19:List aA:=[⟨some 53,none,.val (.mkif 71 (.const (.int .i64 1)))⟩,⟨some 4,none,.val (.move (.slot 53))⟩]
abbrev g18l1:cF:=(.seq (.ops g18r16) (.seq (.cond (.slot 47) .skip (.exit 3)) (.block 4 (.seq (.ops g18r17) (.seq (.ops g18r18) (.cond (.slot 52) (.seq (.ops g18r19) .ret) .skip))))))
abbrev g18r20:List aA:=[⟨some 54,none,.val (.load .leaf (.slot 2))⟩,⟨some 55,none,.val (.move (.slot 7))⟩,⟨some 56,none,.val (.nilCheck (.slot 54))⟩,⟨some 57,none,.val (.fldA 3 (.slot 56))⟩,⟨none,none,.store .leaf (.slot 57) (.slot 55)⟩]
abbrev g18r21:List aA:=[⟨some 4,none,.val (.move (.const .nilIface))⟩]
def count_Counts_Apply:LFn:=⟨(.seq (.ops g18r0) (.seq (.seq (.ops g18r1) (.cond (.slot 13) (.seq (.ops g18r2) .ret) .skip)) (.seq (.ops g18r3) (.seq (.ops g18r4) (.seq (.block 0 (.seq (.ops g18r5) (.cond (.slot 16) (.seq (.ops g18r6) .ret) (.seq (.ops g18r7) (.cond (.slot 21) (.seq (.ops g18r8) .ret) .skip))))) (.seq (.ops g18r9) (.seq (.seq (.ops g18r10) (.block 1 (.loop g18l0))) (.seq (.seq (.ops g18r15) (.block 3 (.loop g18l1))) (.seq (.ops g18r20) (.seq (.ops g18r21) .ret)))))))))),58,[.slot 4]⟩
theorem count_Counts_Apply_low:aH Tryz.prog 22=some count_Counts_Apply:=by kernel_rfl
abbrev chain_Reaches_r0:List aA:=[⟨some 3,none,.box (.agg 2) (.slot 1)⟩,⟨some 4,none,.val (.move (.const (.bool false)))⟩]
abbrev chain_Reaches_r1:List aA:=[⟨some 5,none,.val (.move (.slot 0))⟩,⟨some 6,none,.val (.mkfn (.func 85) [] [(.slot 3)])⟩,⟨some 7,none,.call 84 [(.slot 5),(.slot 6)]⟩,⟨some 4,none,.val (.move (.slot 7))⟩]
def chain_Reaches:LFn:=⟨(.seq (.ops chain_Reaches_r0) (.seq (.ops chain_Reaches_r1) .ret)),8,[.slot 4]⟩
theorem chain_Reaches_low:aH Tryz.prog 28=some chain_Reaches:=by kernel_rfl
abbrev g24r0:List aA:=[⟨some 4,none,.val (.move (.const (.sl (.agg 2) .nil [])))⟩]
abbrev g24r1:List aA:=[⟨some 5,none,.val (.move (.slot 0))⟩,⟨some 6,none,.val (.eq false .ptr (.slot 5) (.const .nilPtr))⟩,⟨some 7,none,.val (.move (.slot 6))⟩,⟨some 8,some (7,false),.val (.move (.slot 1))⟩,⟨some 9,some (7,false),.val (.bin .lss (.slot 8) (.const (.int .i64 0)))⟩,⟨some 10,none,.val (.pick (.slot 7) (.const (.bool true)) (.slot 9))⟩,⟨some 11,none,.val (.move (.slot 10))⟩,⟨some 12,some (11,false),.val (.move (.slot 1))⟩,⟨some 13,some (11,false),.val (.move (.slot 0))⟩,⟨some 14,some (11,false),.val (.nilCheck (.slot 13))⟩,⟨some 15,some (11,false),.val (.fldA 0 (.slot 14))⟩,⟨some 16,some (11,false),.val (.fldA 0 (.slot 15))⟩,⟨some 17,some (11,false),.val (.load .leaf (.slot 16))⟩,⟨some 18,some (11,false),.val (.bin .geq (.slot 12) (.slot 17))⟩,⟨some 19,none,.val (.pick (.slot 11) (.const (.bool true)) (.slot 18))⟩]
abbrev g24r2:List aA:=[⟨some 4,none,.val (.move (.const (.sl (.agg 2) .nil [])))⟩]
abbrev g24r3:List aA:=[⟨some 20,none,.val (.move (.slot 0))⟩,⟨some 21,none,.val (.move (.slot 0))⟩,⟨some 22,none,.call 79 [(.slot 21)]⟩,⟨some 23,none,.val (.move (.slot 1))⟩,⟨some 24,none,.call 80 [(.slot 20),(.slot 22),(.slot 23)]⟩,⟨some 4,none,.val (.move (.slot 24))⟩]
def count_Counts_Front:LFn:=⟨(.seq (.ops g24r0) (.seq (.seq (.ops g24r1) (.cond (.slot 19) (.seq (.ops g24r2) .ret) .skip)) (.seq (.ops g24r3) .ret))),25,[.slot 4]⟩
theorem count_Counts_Front_low:aH Tryz.prog 29=some count_Counts_Front:=by kernel_rfl
abbrev g55r0:List aA:=[⟨some 2,none,.box .leaf (.slot 0)⟩,⟨some 4,none,.box (.agg 2) (.const (.agg [(.int .i64 0),(.sl (.agg 4) .nil [])]))⟩,⟨some 5,none,.val (.move (.const .nilIface))⟩]
abbrev g55r1:List aA:=[⟨some 8,none,.val (.mkfn (.func 106) [] [(.slot 2)])⟩,⟨some 6,none,.val (.move (.slot 8))⟩]
abbrev g55r2:List aA:=[⟨some 9,none,.val (.load .leaf (.slot 2))⟩,⟨some 10,none,.val (.bin .lss (.slot 9) (.const (.int .i64 0)))⟩,⟨some 11,none,.val (.move (.slot 10))⟩,⟨some 12,some (11,false),.val (.load .leaf (.slot 2))⟩,⟨some 13,some (11,false),.val (.bin .gtr (.slot 12) (.const (.int .i64 200)))⟩,⟨some 14,none,.val (.pick (.slot 11) (.const (.bool true)) (.slot 13))⟩,⟨some 15,none,.val (.move (.slot 14))⟩,⟨some 16,some (15,false),.val (.move (.slot 1))⟩,⟨some 17,some (15,false),.val (.move (.slot 6))⟩,⟨some 18,some (15,false),.call 108 [(.slot 16),(.slot 17)]⟩,⟨some 19,none,.val (.pick (.slot 15) (.const (.bool true)) (.slot 18))⟩]
abbrev g55r3:List aA:=[⟨some 20,none,.val (.build [(.int .i64 0),(.sl (.agg 4) .nil [])] [])⟩,⟨some 21,none,.val (.mkif 71 (.const (.int .i64 1)))⟩,⟨none,none,.store (.agg 2) (.slot 4) (.slot 20)⟩,⟨some 5,none,.val (.move (.slot 21))⟩]
abbrev g55r4:List aA:=[⟨some 22,none,.val (.move (.slot 1))⟩,⟨some 23,none,.call 111 [(.slot 22)]⟩,⟨some 24,none,.call 110 [(.slot 23),(.const (.fn (.func 112) [] []))]⟩,⟨some 25,none,.call 109 [(.slot 24)]⟩,⟨some 7,none,.val (.move (.slot 25))⟩]
abbrev path_New_r5:List aA:=[⟨some 26,none,.val (.move (.slot 7))⟩,⟨some 27,none,.call 113 [(.slot 26)]⟩,⟨some 28,none,.val (.bin .gtr (.slot 27) (.const (.int .i64 1048576)))⟩]
abbrev path_New_r6:List aA:=[⟨some 29,none,.val (.build [(.int .i64 0),(.sl (.agg 4) .nil [])] [])⟩,⟨some 30,none,.val (.mkif 71 (.const (.int .i64 1)))⟩,⟨none,none,.store (.agg 2) (.slot 4) (.slot 29)⟩,⟨some 5,none,.val (.move (.slot 30))⟩]
abbrev path_New_r7:List aA:=[⟨some 31,none,.val (.load .leaf (.slot 2))⟩,⟨some 32,none,.val (.move (.slot 7))⟩,⟨some 33,none,.call 114 [(.slot 31),(.slot 32)]⟩,⟨some 34,none,.val (.move (.slot 33))⟩,⟨some 35,some (34,false),.val (.load .leaf (.slot 2))⟩,⟨some 36,some (34,false),.val (.move (.slot 7))⟩,⟨some 37,some (34,false),.call 115 [(.slot 35),(.slot 36)]⟩,⟨some 38,none,.val (.pick (.slot 34) (.const (.bool true)) (.slot 37))⟩]
abbrev path_New_r8:List aA:=[⟨some 39,none,.val (.build [(.int .i64 0),(.sl (.agg 4) .nil [])] [])⟩,⟨some 40,none,.val (.mkif 71 (.const (.int .i64 9)))⟩,⟨none,none,.store (.agg 2) (.slot 4) (.slot 39)⟩,⟨some 5,none,.val (.move (.slot 40))⟩]
abbrev path_New_r9:List aA:=[⟨some 41,none,.val (.load .leaf (.slot 2))⟩,⟨some 42,none,.val (.move (.slot 7))⟩,⟨some 43,none,.val (.build [(.int .i64 0),(.sl (.agg 4) .nil [])] [(0,.leaf,(.slot 41)),(1,.leaf,(.slot 42))])⟩,⟨none,none,.store (.agg 2) (.slot 4) (.slot 43)⟩,⟨some 5,none,.val (.move (.const .nilIface))⟩]
def path_New:LFn:=⟨(.seq (.ops g55r0) (.seq (.ops g55r1) (.seq (.seq (.ops g55r2) (.cond (.slot 19) (.seq (.ops g55r3) .ret) .skip)) (.seq (.ops g55r4) (.seq (.seq (.ops path_New_r5) (.cond (.slot 28) (.seq (.ops path_New_r6) .ret) .skip)) (.seq (.seq (.ops path_New_r7) (.cond (.slot 38) (.seq (.ops path_New_r8) .ret) .skip)) (.seq (.ops path_New_r9) .ret))))))),44,[.cell 4 (.agg 2),.slot 5]⟩
theorem path_New_low:aH Tryz.prog 61=some path_New:=by kernel_rfl
abbrev g56r0:List aA:=[⟨some 4,none,.box (.agg 3) (.slot 1)⟩]
abbrev count_add_r1:List (aA×List Nat):=[(⟨some 6,none,.val (.move (.slot 0))⟩,[]),(⟨some 7,none,.val (.load (.agg 3) (.slot 4))⟩,[]),(⟨some 8,none,.val (.mget (.agg 3) [.int,.int,.int] (.int .i64 0) false (.slot 6) (.slot 7))⟩,[0,1]),(⟨some 9,none,.val (.move (.slot 2))⟩,[]),(⟨some 10,none,.val (.bin .add (.slot 8) (.slot 9))⟩,[0,1,2,3]),(⟨some 11,none,.mp (.ent (.agg 3) [.int,.int,.int] (.int .i64 0) (.slot 6) (.slot 7))⟩,[0,1,3]),(⟨some 12,none,.val (.ext (.slot 11) 1)⟩,[0,1,3,5]),(⟨none,none,.mp (.est (.slot 6) (.slot 12) (.slot 10))⟩,[0,1,2,3,4,5,6])]
abbrev g56r1t:List aA:=[]
abbrev g56r2:List aA:=[⟨some 13,none,.val (.move (.slot 0))⟩,⟨some 14,none,.val (.load (.agg 3) (.slot 4))⟩,⟨some 15,none,.val (.mget (.agg 3) [.int,.int,.int] (.int .i64 0) false (.slot 13) (.slot 14))⟩,⟨some 16,none,.val (.bin .eql (.slot 15) (.const (.int .i64 0)))⟩]
abbrev g56r3:List aA:=[⟨some 17,none,.val (.move (.slot 0))⟩,⟨some 18,none,.val (.load (.agg 3) (.slot 4))⟩,⟨none,none,.mp (.del (.agg 3) [.int,.int,.int] (.slot 17) (.slot 18))⟩]
def count_add:LFn:=⟨(.seq (.ops g56r0) (.seq (.draw 8 count_add_r1 g56r1t) (.seq (.ops g56r2) (.cond (.slot 16) (.ops g56r3) .skip)))),19,[]⟩
theorem count_add_low:aH Tryz.prog 62=some count_add:=by kernel_rfl
abbrev g59r0:List aA:=[⟨some 2,none,.box (.agg 3) (.slot 0)⟩,⟨some 3,none,.box (.agg 3) (.slot 1)⟩,⟨some 4,none,.val (.move (.const (.bool false)))⟩]
abbrev g59r1:List aA:=[⟨some 5,none,.val (.fldA 0 (.slot 2))⟩,⟨some 6,none,.val (.load .leaf (.slot 5))⟩,⟨some 7,none,.val (.fldA 0 (.slot 3))⟩,⟨some 8,none,.val (.load .leaf (.slot 7))⟩,⟨some 9,none,.val (.bin .neq (.slot 6) (.slot 8))⟩]
abbrev g59r2:List aA:=[⟨some 10,none,.val (.fldA 0 (.slot 2))⟩,⟨some 11,none,.val (.load .leaf (.slot 10))⟩,⟨some 12,none,.val (.fldA 0 (.slot 3))⟩,⟨some 13,none,.val (.load .leaf (.slot 12))⟩,⟨some 14,none,.val (.bin .lss (.slot 11) (.slot 13))⟩,⟨some 4,none,.val (.move (.slot 14))⟩]
abbrev g59r3:List aA:=[⟨some 15,none,.val (.fldA 1 (.slot 2))⟩,⟨some 16,none,.val (.load (.agg 2) (.slot 15))⟩,⟨some 17,none,.val (.fldA 1 (.slot 3))⟩,⟨some 18,none,.val (.load (.agg 2) (.slot 17))⟩,⟨some 19,none,.call 119 [(.slot 16),(.slot 18)]⟩,⟨some 4,none,.val (.move (.slot 19))⟩]
def corollaryref23_less:LFn:=⟨(.seq (.ops g59r0) (.seq (.seq (.ops g59r1) (.cond (.slot 9) (.seq (.ops g59r2) .ret) .skip)) (.seq (.ops g59r3) .ret))),20,[.slot 4]⟩
theorem corollaryref23_less_low:aH Tryz.prog 65=some corollaryref23_less:=by kernel_rfl
abbrev g62r0:List aA:=[⟨some 2,none,.box (.agg 2) (.slot 0)⟩,⟨some 3,none,.box (.agg 2) (.slot 1)⟩,⟨some 4,none,.val (.move (.const (.int .i64 0)))⟩]
abbrev g62r1:List (aA×List Nat):=[(⟨some 5,none,.val (.fldA 0 (.slot 2))⟩,[]),(⟨some 6,none,.val (.load .leaf (.slot 5))⟩,[0]),(⟨some 7,none,.val (.fldA 0 (.slot 3))⟩,[]),(⟨some 8,none,.val (.load .leaf (.slot 7))⟩,[2]),(⟨some 9,none,.call 67 [(.slot 6),(.slot 8)]⟩,[0,1,2,3]),(⟨some 10,none,.val (.fldA 1 (.slot 2))⟩,[]),(⟨some 11,none,.val (.load .leaf (.slot 10))⟩,[5]),(⟨some 12,none,.val (.fldA 1 (.slot 3))⟩,[]),(⟨some 13,none,.val (.load .leaf (.slot 12))⟩,[7]),(⟨some 14,none,.call 67 [(.slot 11),(.slot 13)]⟩,[0,1,2,3,4,5,6,7,8]),(⟨some 15,none,.bslice .leaf [(.slot 9),(.slot 14)]⟩,[0,1,2,3,4,5,6,7,8,9]),(⟨some 16,none,.call 66 [(.slot 15)]⟩,[0,1,2,3,4,5,6,7,8,9,10]),(⟨some 4,none,.val (.move (.slot 16))⟩,[0,1,2,3,4,5,6,7,8,9,10,11])]
abbrev g62r1t:List aA:=[]
def stamp_Compare:LFn:=⟨(.seq (.ops g62r0) (.seq (.draw 13 g62r1 g62r1t) .ret)),17,[.slot 4]⟩
theorem stamp_Compare_low:aH Tryz.prog 68=some stamp_Compare:=by kernel_rfl
abbrev corollarylaw20_Time_r0:List aA:=[⟨some 1,none,.box (.agg 2) (.slot 0)⟩,⟨some 2,none,.box (.agg 2) (.const (.agg [(.int .i64 0),(.int .i64 0)]))⟩]
abbrev corollarylaw20_Time_r1:List aA:=[⟨some 3,none,.val (.load (.agg 2) (.slot 1))⟩,⟨none,none,.store (.agg 2) (.slot 2) (.slot 3)⟩]
def corollarylaw20_Time:LFn:=⟨(.seq (.ops corollarylaw20_Time_r0) (.seq (.ops corollarylaw20_Time_r1) .ret)),4,[.cell 2 (.agg 2)]⟩
theorem corollarylaw20_Time_low:aH Tryz.prog 69=some corollarylaw20_Time:=by kernel_rfl
abbrev g63r0:List aA:=[⟨some 1,none,.box (.agg 2) (.slot 0)⟩,⟨some 2,none,.val (.move (.const (.bool false)))⟩]
abbrev g63r1:List aA:=[⟨some 6,none,.val (.fldA 0 (.slot 1))⟩,⟨some 7,none,.val (.load .leaf (.slot 6))⟩,⟨some 8,none,.val (.fldA 1 (.slot 1))⟩,⟨some 9,none,.val (.load .leaf (.slot 8))⟩,⟨some 10,none,.call 61 [(.slot 7),(.slot 9)]⟩,⟨some 5,none,.val (.move (.slot 10))⟩,⟨some 11,none,.val (.ext (.slot 5) 0)⟩,⟨some 12,none,.val (.ext (.slot 5) 1)⟩,⟨some 3,none,.box (.agg 2) (.const (.agg [(.int .i64 0),(.sl (.agg 4) .nil [])]))⟩,⟨none,none,.store (.agg 2) (.slot 3) (.slot 11)⟩,⟨some 4,none,.val (.move (.slot 12))⟩]
abbrev g63r2:List aA:=[⟨some 13,none,.val (.move (.slot 4))⟩,⟨some 14,none,.val (.eq false (.iface true) (.slot 13) (.const .nilIface))⟩,⟨some 15,none,.val (.move (.slot 14))⟩,⟨some 16,some (15,true),.val (.fldA 1 (.slot 3))⟩,⟨some 17,some (15,true),.val (.load .leaf (.slot 16))⟩,⟨some 18,some (15,true),.val (.fldA 1 (.slot 1))⟩,⟨some 19,some (15,true),.val (.load .leaf (.slot 18))⟩,⟨some 20,some (15,true),.call 81 [(.slot 17),(.slot 19)]⟩,⟨some 21,none,.val (.pick (.slot 15) (.slot 20) (.const (.bool false)))⟩,⟨some 2,none,.val (.move (.slot 21))⟩]
def path_Right:LFn:=⟨(.seq (.ops g63r0) (.seq (.ops g63r1) (.seq (.ops g63r2) .ret))),22,[.slot 2]⟩
theorem path_Right_low:aH Tryz.prog 70=some path_Right:=by kernel_rfl
abbrev g65r0:List aA:=[⟨some 1,none,.box (.agg 2) (.slot 0)⟩,⟨some 2,none,.val (.move (.const (.sl .leaf .nil [])))⟩]
abbrev g65r1:List aA:=[⟨some 5,none,.val (.load (.agg 2) (.slot 1))⟩,⟨some 6,none,.call 70 [(.slot 5)]⟩,⟨some 7,none,.val (.not (.slot 6))⟩]
abbrev g65r2:List aA:=[⟨some 2,none,.val (.move (.const (.sl .leaf .nil [])))⟩]
abbrev g65r3:List aA:=[⟨some 3,none,.val (.move (.const (.sl .leaf .nil [])))⟩]
abbrev g65r4:List aA:=[⟨some 8,none,.val (.fldA 0 (.slot 1))⟩,⟨some 9,none,.val (.load .leaf (.slot 8))⟩,⟨some 10,none,.val (.move (.const (.int .i64 0)))⟩]
abbrev g65r5:List aA:=[⟨some 11,none,.val (.bin .lss (.slot 10) (.slot 9))⟩]
abbrev g65r6:List aA:=[⟨some 12,none,.val (.move (.slot 10))⟩,⟨some 4,none,.val (.move (.slot 12))⟩]
abbrev g65r7:List aA:=[⟨some 13,none,.val (.move (.slot 3))⟩,⟨some 14,none,.val (.load (.agg 2) (.slot 1))⟩,⟨some 15,none,.val (.move (.slot 4))⟩,⟨some 16,none,.call 121 [(.slot 14),(.slot 15)]⟩,⟨some 17,none,.bslice .leaf [(.slot 16)]⟩,⟨some 18,none,.append .leaf 24 (.slot 13) (.slot 17)⟩,⟨some 3,none,.val (.move (.slot 18))⟩]
abbrev g65r8:List aA:=[⟨some 19,none,.val (.bin .add (.slot 10) (.const (.int .i64 1)))⟩,⟨some 10,none,.val (.move (.slot 19))⟩]
abbrev g65l0:cF:=(.seq (.ops g65r5) (.seq (.cond (.slot 11) .skip (.exit 0)) (.seq (.block 1 (.seq (.ops g65r6) (.ops g65r7))) (.ops g65r8))))
abbrev g65r9:List aA:=[⟨some 20,none,.val (.move (.slot 3))⟩,⟨some 2,none,.val (.move (.slot 20))⟩]
def path_All:LFn:=⟨(.seq (.ops g65r0) (.seq (.seq (.ops g65r1) (.cond (.slot 7) (.seq (.ops g65r2) .ret) .skip)) (.seq (.ops g65r3) (.seq (.seq (.ops g65r4) (.block 0 (.loop g65l0))) (.seq (.ops g65r9) .ret))))),21,[.slot 2]⟩
theorem path_All_low:aH Tryz.prog 72=some path_All:=by kernel_rfl
abbrev g66r0:List aA:=[⟨some 2,none,.box (.agg 4) (.slot 0)⟩,⟨some 3,none,.val (.move (.const (.bool false)))⟩]
abbrev g66r1:List (aA×List Nat):=[(⟨some 4,none,.val (.fldA 0 (.slot 2))⟩,[]),(⟨some 5,none,.val (.fldA 0 (.slot 4))⟩,[0]),(⟨some 6,none,.val (.load .leaf (.slot 5))⟩,[0,1]),(⟨some 7,none,.val (.bin .lss (.slot 6) (.const (.int .i64 0)))⟩,[0,1,2]),(⟨some 8,none,.val (.move (.slot 7))⟩,[0,1,2,3]),(⟨some 9,some (8,false),.val (.fldA 0 (.slot 2))⟩,[0,1,2,3,4]),(⟨some 10,some (8,false),.val (.fldA 0 (.slot 9))⟩,[0,1,2,3,4,5]),(⟨some 11,some (8,false),.val (.load .leaf (.slot 10))⟩,[0,1,2,3,4,5,6]),(⟨some 12,some (8,false),.val (.load .leaf (.slot 1))⟩,[0,1,2,3,4]),(⟨some 13,some (8,false),.val (.nilCheck (.slot 12))⟩,[0,1,2,3,4,8]),(⟨some 14,some (8,false),.val (.fldA 0 (.slot 13))⟩,[0,1,2,3,4,8,9]),(⟨some 15,some (8,false),.val (.fldA 0 (.slot 14))⟩,[0,1,2,3,4,8,9,10]),(⟨some 16,some (8,false),.val (.load .leaf (.slot 15))⟩,[0,1,2,3,4,8,9,10,11]),(⟨some 17,some (8,false),.val (.bin .geq (.slot 11) (.slot 16))⟩,[0,1,2,3,4,5,6,7,8,9,10,11,12]),(⟨some 18,none,.val (.pick (.slot 8) (.const (.bool true)) (.slot 17))⟩,[0,1,2,3,4,5,6,7,8,9,10,11,12,13]),(⟨some 19,none,.val (.move (.slot 18))⟩,[0,1,2,3,4,5,6,7,8,9,10,11,12,13,14]),(⟨some 20,some (19,false),.val (.fldA 0 (.slot 2))⟩,[0,1,2,3,4,5,6,7,8,9,10,11,12,13,14,15]),(⟨some 21,some (19,false),.val (.fldA 1 (.slot 20))⟩,[0,1,2,3,4,5,6,7,8,9,10,11,12,13,14,15,16]),(⟨some 22,some (19,false),.val (.load (.agg 2) (.slot 21))⟩,[0,1,2,3,4,5,6,7,8,9,10,11,12,13,14,15,16,17]),(⟨some 23,some (19,false),.call 74 [(.slot 22)]⟩,[0,1,2,3,4,5,6,7,8,9,10,11,12,13,14,15,16,17,18]),(⟨some 24,some (19,false),.val (.not (.slot 23))⟩,[0,1,2,3,4,5,6,7,8,9,10,11,12,13,14,15,16,17,18,19]),(⟨some 25,none,.val (.pick (.slot 19) (.const (.bool true)) (.slot 24))⟩,[0,1,2,3,4,5,6,7,8,9,10,11,12,13,14,15,16,17,18,19,20]),(⟨some 3,none,.val (.move (.slot 25))⟩,[0,1,2,3,4,5,6,7,8,9,10,11,12,13,14,15,16,17,18,19,20,21])]
abbrev g66r1t:List aA:=[]
def count_Counts_Apply_1:LFn:=⟨(.seq (.ops g66r0) (.seq (.draw 23 g66r1 g66r1t) .ret)),26,[.slot 3]⟩
theorem count_Counts_Apply_1_low:aH Tryz.prog 73=some count_Counts_Apply_1:=by kernel_rfl
abbrev stamp_Right_r0:List aA:=[⟨some 1,none,.box (.agg 2) (.slot 0)⟩,⟨some 2,none,.val (.move (.const (.bool false)))⟩]
abbrev stamp_Right_r1:List aA:=[⟨some 3,none,.val (.fldA 0 (.slot 1))⟩,⟨some 4,none,.val (.load .leaf (.slot 3))⟩,⟨some 5,none,.call 122 [(.slot 4),(.const (.int .i64 1048576))]⟩,⟨some 6,none,.val (.move (.slot 5))⟩,⟨some 7,some (6,true),.val (.fldA 1 (.slot 1))⟩,⟨some 8,some (6,true),.val (.load .leaf (.slot 7))⟩,⟨some 9,some (6,true),.call 122 [(.slot 8),(.const (.int .i64 1048576))]⟩,⟨some 10,none,.val (.pick (.slot 6) (.slot 9) (.const (.bool false)))⟩,⟨some 2,none,.val (.move (.slot 10))⟩]
def stamp_Right:LFn:=⟨(.seq (.ops stamp_Right_r0) (.seq (.ops stamp_Right_r1) .ret)),11,[.slot 2]⟩
theorem stamp_Right_low:aH Tryz.prog 74=some stamp_Right:=by kernel_rfl
abbrev g67r0:List aA:=[⟨some 1,none,.box (.agg 4) (.slot 0)⟩,⟨some 2,none,.val (.move (.const (.bool false)))⟩]
abbrev g67r1:List aA:=[⟨some 3,none,.val (.fldA 3 (.slot 1))⟩,⟨some 4,none,.val (.load .leaf (.slot 3))⟩,⟨some 5,none,.call 76 [(.slot 4)]⟩,⟨some 6,none,.val (.not (.slot 5))⟩,⟨some 2,none,.val (.move (.slot 6))⟩]
def count_Counts_Apply_2:LFn:=⟨(.seq (.ops g67r0) (.seq (.ops g67r1) .ret)),7,[.slot 2]⟩
theorem count_Counts_Apply_2_low:aH Tryz.prog 75=some count_Counts_Apply_2:=by kernel_rfl
abbrev g68r0:List aA:=[⟨some 2,none,.val (.move (.const (.bool false)))⟩]
abbrev g68r1:List aA:=[⟨some 3,none,.val (.move (.slot 0))⟩,⟨some 4,none,.val (.bin .geq (.slot 3) (.const (.int .i64 (-1000000))))⟩,⟨some 5,none,.val (.move (.slot 4))⟩,⟨some 6,some (5,true),.val (.move (.slot 0))⟩,⟨some 7,some (5,true),.val (.bin .leq (.slot 6) (.const (.int .i64 1000000)))⟩,⟨some 8,none,.val (.pick (.slot 5) (.slot 7) (.const (.bool false)))⟩,⟨some 2,none,.val (.move (.slot 8))⟩]
def count_within:LFn:=⟨(.seq (.ops g68r0) (.seq (.ops g68r1) .ret)),9,[.slot 2]⟩
theorem count_within_low:aH Tryz.prog 76=some count_within:=by kernel_rfl
abbrev g71r0:List aA:=[⟨some 2,none,.val (.move (.const (.sl (.agg 3) .nil [])))⟩]
abbrev g71r1:List aA:=[⟨some 3,none,.val (.move (.const (.sl (.agg 3) .nil [])))⟩]
abbrev g71r2:List aA:=[⟨some 6,none,.val (.move (.slot 0))⟩,⟨some 7,none,.val (.nilCheck (.slot 6))⟩,⟨some 8,none,.val (.fldA 3 (.slot 7))⟩,⟨some 9,none,.val (.load .leaf (.slot 8))⟩,⟨some 10,none,.mp (.rng (.slot 9))⟩]
abbrev g71r3:List aA:=[⟨some 11,none,.mp (.nxt (.slot 10))⟩,⟨some 12,none,.val (.ext (.slot 11) 0)⟩]
abbrev g71r4:List aA:=[⟨some 13,none,.mp (.key (.slot 10))⟩,⟨some 14,none,.val (.ext (.slot 13) 0)⟩,⟨some 15,none,.val (.ext (.slot 13) 1)⟩,⟨some 4,none,.box (.agg 3) (.const (.agg [(.int .i64 0),(.int .i64 0),(.int .i64 0)]))⟩,⟨none,none,.store (.agg 3) (.slot 4) (.slot 14)⟩,⟨some 5,none,.val (.move (.slot 15))⟩]
abbrev g71r5:List aA:=[⟨some 16,none,.val (.move (.slot 5))⟩,⟨some 17,none,.val (.bin .gtr (.slot 16) (.const (.int .i64 0)))⟩]
abbrev g71r6:List aA:=[⟨some 18,none,.val (.move (.slot 3))⟩,⟨some 19,none,.val (.load (.agg 3) (.slot 4))⟩,⟨some 20,none,.bslice (.agg 3) [(.slot 19)]⟩,⟨some 21,none,.append (.agg 3) 24 (.slot 18) (.slot 20)⟩,⟨some 3,none,.val (.move (.slot 21))⟩]
abbrev g71l0:cF:=(.seq (.ops g71r3) (.seq (.cond (.slot 12) .skip (.exit 0)) (.block 1 (.seq (.ops g71r4) (.seq (.ops g71r5) (.cond (.slot 17) (.ops g71r6) .skip))))))
abbrev g71r7:List aA:=[⟨some 22,none,.val (.move (.slot 3))⟩,⟨some 2,none,.val (.move (.slot 22))⟩]
def count_Counts_active:LFn:=⟨(.seq (.ops g71r0) (.seq (.ops g71r1) (.seq (.seq (.ops g71r2) (.block 0 (.loop g71l0))) (.seq (.ops g71r7) .ret)))),23,[.slot 2]⟩
theorem count_Counts_active_low:aH Tryz.prog 79=some count_Counts_active:=by kernel_rfl
abbrev g72r0:List aA:=[⟨some 6,none,.val (.move (.const (.sl (.agg 2) .nil [])))⟩]
abbrev g72r1:List aA:=[⟨some 7,none,.val (.move (.const (.sl (.agg 2) .nil [])))⟩]
abbrev g72r2:List aA:=[⟨some 14,none,.val (.move (.slot 1))⟩,⟨some 15,none,.val (.len (.slot 14))⟩,⟨some 16,none,.val (.move (.const (.int .i64 0)))⟩]
abbrev g72r3:List aA:=[⟨some 17,none,.val (.bin .lss (.slot 16) (.slot 15))⟩]
abbrev g72r4:List aA:=[⟨some 18,none,.val (.idxA (.agg 3) (.slot 14) (.slot 16))⟩,⟨some 19,none,.val (.load (.agg 3) (.slot 18))⟩,⟨some 9,none,.box (.agg 3) (.const (.agg [(.int .i64 0),(.int .i64 0),(.int .i64 0)]))⟩,⟨none,none,.store (.agg 3) (.slot 9) (.slot 19)⟩]
abbrev g72r5:List (aA×List Nat):=[(⟨some 20,none,.val (.move (.slot 0))⟩,[]),(⟨some 21,none,.val (.nilCheck (.slot 20))⟩,[0]),(⟨some 22,none,.val (.fldA 2 (.slot 21))⟩,[0,1]),(⟨some 23,none,.val (.load .leaf (.slot 22))⟩,[0,1,2]),(⟨some 24,none,.val (.fldA 0 (.slot 9))⟩,[]),(⟨some 25,none,.val (.load .leaf (.slot 24))⟩,[4]),(⟨some 26,none,.val (.idxA .leaf (.slot 23) (.slot 25))⟩,[0,1,2,3,4,5]),(⟨some 27,none,.val (.load .leaf (.slot 26))⟩,[0,1,2,3,4,5,6]),(⟨some 28,none,.val (.move (.slot 2))⟩,[]),(⟨some 29,none,.val (.idxA .leaf (.slot 27) (.slot 28))⟩,[0,1,2,3,4,5,6,7,8]),(⟨some 30,none,.val (.load .leaf (.slot 29))⟩,[0,1,2,3,4,5,6,7,8,9]),(⟨some 31,none,.val (.len (.slot 30))⟩,[0,1,2,3,4,5,6,7,8,9,10]),(⟨some 32,none,.val (.move (.const (.int .i64 0)))⟩,[])]
abbrev g72r5t:List aA:=[]
abbrev g72r6:List aA:=[⟨some 33,none,.val (.bin .lss (.slot 32) (.slot 31))⟩]
abbrev g72r7:List aA:=[⟨some 34,none,.val (.idxA (.agg 2) (.slot 30) (.slot 32))⟩,⟨some 35,none,.val (.load (.agg 2) (.slot 34))⟩,⟨some 11,none,.box (.agg 2) (.const (.agg [(.bool false),(.int .i64 0)]))⟩,⟨none,none,.store (.agg 2) (.slot 11) (.slot 35)⟩]
abbrev g72r8:List aA:=[⟨some 37,none,.val (.load (.agg 2) (.slot 11))⟩,⟨some 38,none,.val (.fldA 1 (.slot 9))⟩,⟨some 39,none,.val (.load (.agg 2) (.slot 38))⟩,⟨some 40,none,.call 125 [(.slot 37),(.slot 39)]⟩,⟨some 36,none,.val (.move (.slot 40))⟩,⟨some 41,none,.val (.ext (.slot 36) 0)⟩,⟨some 42,none,.val (.ext (.slot 36) 1)⟩,⟨some 12,none,.box (.agg 2) (.const (.agg [(.int .i64 0),(.int .i64 0)]))⟩,⟨none,none,.store (.agg 2) (.slot 12) (.slot 41)⟩,⟨some 13,none,.val (.move (.slot 42))⟩]
abbrev g72r9:List aA:=[⟨some 43,none,.val (.move (.slot 13))⟩,⟨some 44,none,.val (.eq false (.iface true) (.slot 43) (.const .nilIface))⟩]
abbrev g72r10:List aA:=[⟨some 45,none,.val (.move (.slot 7))⟩,⟨some 46,none,.val (.load (.agg 2) (.slot 12))⟩,⟨some 47,none,.bslice (.agg 2) [(.slot 46)]⟩,⟨some 48,none,.append (.agg 2) 16 (.slot 45) (.slot 47)⟩,⟨some 7,none,.val (.move (.slot 48))⟩]
abbrev g72r11:List aA:=[⟨some 49,none,.val (.bin .add (.slot 32) (.const (.int .i64 1)))⟩,⟨some 32,none,.val (.move (.slot 49))⟩]
abbrev g72l0:cF:=(.seq (.ops g72r6) (.seq (.cond (.slot 33) .skip (.exit 2)) (.seq (.block 3 (.seq (.ops g72r7) (.seq (.ops g72r8) (.seq (.ops g72r9) (.cond (.slot 44) (.ops g72r10) .skip))))) (.ops g72r11))))
abbrev g72r12:List aA:=[⟨some 50,none,.val (.bin .add (.slot 16) (.const (.int .i64 1)))⟩,⟨some 16,none,.val (.move (.slot 50))⟩]
abbrev g72l1:cF:=(.seq (.ops g72r3) (.seq (.cond (.slot 17) .skip (.exit 0)) (.seq (.block 1 (.seq (.ops g72r4) (.seq (.draw 13 g72r5 g72r5t) (.block 2 (.loop g72l0))))) (.ops g72r12))))
abbrev g72r13:List aA:=[⟨some 51,none,.val (.move (.slot 7))⟩,⟨some 52,none,.call 126 [(.slot 51)]⟩,⟨some 6,none,.val (.move (.slot 52))⟩]
def count_Counts_front:LFn:=⟨(.seq (.ops g72r0) (.seq (.ops g72r1) (.seq (.seq (.ops g72r2) (.block 0 (.loop g72l1))) (.seq (.ops g72r13) .ret)))),53,[.slot 6]⟩
theorem count_Counts_front_low:aH Tryz.prog 80=some count_Counts_front:=by kernel_rfl
abbrev slices_ContainsFunc_stamp_Time_stamp_Time_r0:List aA:=[⟨some 4,none,.val (.move (.const (.bool false)))⟩]
abbrev slices_ContainsFunc_stamp_Time_stamp_Time_r1:List aA:=[⟨some 5,none,.val (.move (.slot 0))⟩,⟨some 6,none,.val (.move (.slot 1))⟩,⟨some 7,none,.call 127 [(.slot 5),(.slot 6)]⟩,⟨some 8,none,.val (.bin .geq (.slot 7) (.const (.int .i64 0)))⟩,⟨some 4,none,.val (.move (.slot 8))⟩]
def slices_ContainsFunc_stamp_Time_stamp_Time:LFn:=⟨(.seq (.ops slices_ContainsFunc_stamp_Time_stamp_Time_r0) (.seq (.ops slices_ContainsFunc_stamp_Time_stamp_Time_r1) .ret)),9,[.slot 4]⟩
theorem slices_ContainsFunc_stamp_Time_stamp_Time_low:aH Tryz.prog 84=some slices_ContainsFunc_stamp_Time_stamp_Time:=by kernel_rfl
abbrev chain_Reaches_1_r0:List aA:=[⟨some 2,none,.box (.agg 2) (.slot 0)⟩,⟨some 3,none,.val (.move (.const (.bool false)))⟩]
abbrev chain_Reaches_1_r1:List aA:=[⟨some 4,none,.val (.load (.agg 2) (.slot 2))⟩,⟨some 5,none,.val (.load (.agg 2) (.slot 1))⟩,⟨some 6,none,.call 86 [(.slot 4),(.slot 5)]⟩,⟨some 3,none,.val (.move (.slot 6))⟩]
def chain_Reaches_1:LFn:=⟨(.seq (.ops chain_Reaches_1_r0) (.seq (.ops chain_Reaches_1_r1) .ret)),7,[.slot 3]⟩
theorem chain_Reaches_1_low:aH Tryz.prog 85=some chain_Reaches_1:=by kernel_rfl
abbrev stamp_AtMost_r0:List aA:=[⟨some 2,none,.box (.agg 2) (.slot 0)⟩,⟨some 3,none,.box (.agg 2) (.slot 1)⟩,⟨some 4,none,.val (.move (.const (.bool false)))⟩]
abbrev stamp_AtMost_r1:List aA:=[⟨some 5,none,.val (.fldA 0 (.slot 2))⟩,⟨some 6,none,.val (.load .leaf (.slot 5))⟩,⟨some 7,none,.val (.fldA 0 (.slot 3))⟩,⟨some 8,none,.val (.load .leaf (.slot 7))⟩,⟨some 9,none,.val (.bin .leq (.slot 6) (.slot 8))⟩,⟨some 10,none,.val (.move (.slot 9))⟩,⟨some 11,some (10,true),.val (.fldA 1 (.slot 2))⟩,⟨some 12,some (10,true),.val (.load .leaf (.slot 11))⟩,⟨some 13,some (10,true),.val (.fldA 1 (.slot 3))⟩,⟨some 14,some (10,true),.val (.load .leaf (.slot 13))⟩,⟨some 15,some (10,true),.val (.bin .leq (.slot 12) (.slot 14))⟩,⟨some 16,none,.val (.pick (.slot 10) (.slot 15) (.const (.bool false)))⟩,⟨some 4,none,.val (.move (.slot 16))⟩]
def stamp_AtMost:LFn:=⟨(.seq (.ops stamp_AtMost_r0) (.seq (.ops stamp_AtMost_r1) .ret)),17,[.slot 4]⟩
theorem stamp_AtMost_low:aH Tryz.prog 86=some stamp_AtMost:=by kernel_rfl
abbrev g92r0:List aA:=[⟨some 2,none,.box (.agg 4) (.slot 0)⟩,⟨some 3,none,.val (.move (.const (.bool false)))⟩]
abbrev g92r1:List aA:=[⟨some 4,none,.val (.load (.agg 4) (.slot 2))⟩,⟨some 5,none,.val (.load .leaf (.slot 1))⟩,⟨some 6,none,.call 107 [(.slot 4),(.slot 5)]⟩,⟨some 7,none,.val (.not (.slot 6))⟩,⟨some 3,none,.val (.move (.slot 7))⟩]
def path_New_1:LFn:=⟨(.seq (.ops g92r0) (.seq (.ops g92r1) .ret)),8,[.slot 3]⟩
theorem path_New_1_low:aH Tryz.prog 106=some path_New_1:=by kernel_rfl
abbrev g93r0:List aA:=[⟨some 2,none,.box (.agg 4) (.slot 0)⟩,⟨some 4,none,.val (.move (.const (.bool false)))⟩]
abbrev g93r1:List aA:=[⟨some 5,none,.val (.fldA 0 (.slot 2))⟩,⟨some 6,none,.val (.load .leaf (.slot 5))⟩,⟨some 7,none,.val (.bin .geq (.slot 6) (.const (.int .i64 0)))⟩,⟨some 8,none,.val (.move (.slot 7))⟩,⟨some 9,some (8,true),.val (.fldA 0 (.slot 2))⟩,⟨some 10,some (8,true),.val (.load .leaf (.slot 9))⟩,⟨some 11,some (8,true),.val (.move (.slot 1))⟩,⟨some 12,some (8,true),.val (.bin .lss (.slot 10) (.slot 11))⟩,⟨some 13,none,.val (.pick (.slot 8) (.slot 12) (.const (.bool false)))⟩,⟨some 14,none,.val (.move (.slot 13))⟩,⟨some 15,some (14,true),.val (.fldA 1 (.slot 2))⟩,⟨some 16,some (14,true),.val (.load .leaf (.slot 15))⟩,⟨some 17,some (14,true),.val (.bin .geq (.slot 16) (.const (.int .i64 0)))⟩,⟨some 18,none,.val (.pick (.slot 14) (.slot 17) (.const (.bool false)))⟩,⟨some 19,none,.val (.move (.slot 18))⟩,⟨some 20,some (19,true),.val (.fldA 1 (.slot 2))⟩,⟨some 21,some (19,true),.val (.load .leaf (.slot 20))⟩,⟨some 22,some (19,true),.val (.move (.slot 1))⟩,⟨some 23,some (19,true),.val (.bin .lss (.slot 21) (.slot 22))⟩,⟨some 24,none,.val (.pick (.slot 19) (.slot 23) (.const (.bool false)))⟩,⟨some 25,none,.val (.move (.slot 24))⟩,⟨some 26,some (25,true),.val (.fldA 2 (.slot 2))⟩,⟨some 27,some (25,true),.val (.load (.agg 2) (.slot 26))⟩,⟨some 28,some (25,true),.call 138 [(.slot 27)]⟩,⟨some 29,none,.val (.pick (.slot 25) (.slot 28) (.const (.bool false)))⟩,⟨some 4,none,.val (.move (.slot 29))⟩]
def path_within:LFn:=⟨(.seq (.ops g93r0) (.seq (.ops g93r1) .ret)),30,[.slot 4]⟩
theorem path_within_low:aH Tryz.prog 107=some path_within:=by kernel_rfl
abbrev g95r0:List aA:=[⟨some 2,none,.val (.move (.const (.sl (.agg 4) .nil [])))⟩]
abbrev g95r1:List aA:=[⟨some 6,none,.val (.move (.slot 0))⟩,⟨some 7,none,.val (.len (.slot 6))⟩,⟨some 8,none,.val (.bin .lss (.slot 7) (.const (.int .i64 2)))⟩]
abbrev g95r2:List aA:=[⟨some 9,none,.val (.move (.slot 0))⟩,⟨some 2,none,.val (.move (.slot 9))⟩]
abbrev g95r3:List aA:=[⟨some 3,none,.val (.move (.const (.int .i64 1)))⟩]
abbrev g95r4:List aA:=[⟨some 10,none,.val (.move (.slot 3))⟩,⟨some 11,none,.val (.move (.slot 0))⟩,⟨some 12,none,.val (.len (.slot 11))⟩,⟨some 13,none,.val (.bin .lss (.slot 10) (.slot 12))⟩]
abbrev g95r5:List (aA×List Nat):=[(⟨some 16,none,.val (.move (.slot 0))⟩,[]),(⟨some 17,none,.val (.move (.slot 3))⟩,[]),(⟨some 18,none,.val (.idxA (.agg 4) (.slot 16) (.slot 17))⟩,[0,1]),(⟨some 19,none,.val (.load (.agg 4) (.slot 18))⟩,[0,1,2]),(⟨some 20,none,.val (.move (.slot 0))⟩,[]),(⟨some 21,none,.val (.move (.slot 3))⟩,[]),(⟨some 22,none,.val (.bin .sub (.slot 21) (.const (.int .i64 1)))⟩,[5]),(⟨some 23,none,.val (.idxA (.agg 4) (.slot 20) (.slot 22))⟩,[4,5,6]),(⟨some 24,none,.val (.load (.agg 4) (.slot 23))⟩,[4,5,6,7]),(⟨some 25,none,.val (.eq false (.plain (.agg 4) [.int,.int,.bool,.int]) (.slot 19) (.slot 24))⟩,[0,1,2,3,4,5,6,7,8])]
abbrev g95r5t:List aA:=[]
abbrev g95r6:List aA:=[⟨some 26,none,.val (.move (.slot 0))⟩,⟨some 27,none,.val (.move (.slot 3))⟩,⟨some 28,none,.val (.slc (.agg 4) (.slot 26) (.some (.slot 27)) .none .none)⟩,⟨some 4,none,.val (.move (.slot 28))⟩]
abbrev g95r7:List aA:=[⟨some 5,none,.val (.move (.const (.int .i64 1)))⟩]
abbrev g95r8:List aA:=[⟨some 29,none,.val (.move (.slot 5))⟩,⟨some 30,none,.val (.move (.slot 4))⟩,⟨some 31,none,.val (.len (.slot 30))⟩,⟨some 32,none,.val (.bin .lss (.slot 29) (.slot 31))⟩]
abbrev g95r9:List (aA×List Nat):=[(⟨some 35,none,.val (.move (.slot 4))⟩,[]),(⟨some 36,none,.val (.move (.slot 5))⟩,[]),(⟨some 37,none,.val (.idxA (.agg 4) (.slot 35) (.slot 36))⟩,[0,1]),(⟨some 38,none,.val (.load (.agg 4) (.slot 37))⟩,[0,1,2]),(⟨some 39,none,.val (.move (.slot 4))⟩,[]),(⟨some 40,none,.val (.move (.slot 5))⟩,[]),(⟨some 41,none,.val (.bin .sub (.slot 40) (.const (.int .i64 1)))⟩,[5]),(⟨some 42,none,.val (.idxA (.agg 4) (.slot 39) (.slot 41))⟩,[4,5,6]),(⟨some 43,none,.val (.load (.agg 4) (.slot 42))⟩,[4,5,6,7]),(⟨some 44,none,.val (.eq true (.plain (.agg 4) [.int,.int,.bool,.int]) (.slot 38) (.slot 43))⟩,[0,1,2,3,4,5,6,7,8])]
abbrev g95r9t:List aA:=[]
abbrev g95r10:List aA:=[⟨some 45,none,.val (.move (.slot 0))⟩,⟨some 46,none,.val (.move (.slot 3))⟩,⟨some 47,none,.val (.move (.slot 4))⟩,⟨some 48,none,.val (.move (.slot 5))⟩,⟨some 49,none,.val (.idxA (.agg 4) (.slot 47) (.slot 48))⟩,⟨some 50,none,.val (.load (.agg 4) (.slot 49))⟩,⟨some 51,none,.val (.idxA (.agg 4) (.slot 45) (.slot 46))⟩,⟨none,none,.store (.agg 4) (.slot 51) (.slot 50)⟩]
abbrev g95r11:List aA:=[⟨some 52,none,.val (.move (.slot 3))⟩,⟨some 53,none,.val (.bin .add (.slot 52) (.const (.int .i64 1)))⟩,⟨some 3,none,.val (.move (.slot 53))⟩]
abbrev g95r12:List aA:=[⟨some 33,none,.val (.move (.slot 5))⟩,⟨some 34,none,.val (.bin .add (.slot 33) (.const (.int .i64 1)))⟩,⟨some 5,none,.val (.move (.slot 34))⟩]
abbrev g95l0:cF:=(.seq (.seq (.ops g95r8) (.cond (.slot 32) .skip (.exit 2))) (.seq (.block 3 (.seq (.draw 10 g95r9 g95r9t) (.cond (.slot 44) (.seq (.ops g95r10) (.ops g95r11)) .skip))) (.ops g95r12)))
abbrev g95r13:List aA:=[⟨some 54,none,.val (.move (.slot 0))⟩,⟨some 55,none,.val (.move (.slot 3))⟩,⟨some 56,none,.val (.slc (.agg 4) (.slot 54) (.some (.slot 55)) .none .none)⟩,⟨none,none,.clear (.agg 4) (.slot 56) (.agg [(.int .i64 0),(.int .i64 0),(.bool false),(.int .i64 0)])⟩]
abbrev g95r14:List aA:=[⟨some 57,none,.val (.move (.slot 0))⟩,⟨some 58,none,.val (.move (.slot 3))⟩,⟨some 59,none,.val (.slc (.agg 4) (.slot 57) .none (.some (.slot 58)) .none)⟩,⟨some 2,none,.val (.move (.slot 59))⟩]
abbrev g95r15:List aA:=[⟨some 14,none,.val (.move (.slot 3))⟩,⟨some 15,none,.val (.bin .add (.slot 14) (.const (.int .i64 1)))⟩,⟨some 3,none,.val (.move (.slot 15))⟩]
abbrev g95l1:cF:=(.seq (.seq (.ops g95r4) (.cond (.slot 13) .skip (.exit 0))) (.seq (.block 1 (.seq (.draw 10 g95r5 g95r5t) (.cond (.slot 25) (.seq (.ops g95r6) (.seq (.seq (.ops g95r7) (.block 2 (.loop g95l0))) (.seq (.ops g95r13) (.seq (.ops g95r14) .ret)))) .skip))) (.ops g95r15)))
abbrev g95r16:List aA:=[⟨some 60,none,.val (.move (.slot 0))⟩,⟨some 2,none,.val (.move (.slot 60))⟩]
def slices_Compact_path_Way_path_Way:LFn:=⟨(.seq (.ops g95r0) (.seq (.seq (.ops g95r1) (.cond (.slot 8) (.seq (.ops g95r2) .ret) .skip)) (.seq (.seq (.ops g95r3) (.block 0 (.loop g95l1))) (.seq (.ops g95r16) .ret)))),61,[.slot 2]⟩
theorem slices_Compact_path_Way_path_Way_low:aH Tryz.prog 109=some slices_Compact_path_Way_path_Way:=by kernel_rfl
abbrev g98r0:List aA:=[⟨some 2,none,.box (.agg 4) (.slot 0)⟩,⟨some 3,none,.box (.agg 4) (.slot 1)⟩,⟨some 4,none,.val (.move (.const (.int .i64 0)))⟩]
abbrev g98r1:List (aA×List Nat):=[(⟨some 5,none,.val (.fldA 0 (.slot 2))⟩,[]),(⟨some 6,none,.val (.load .leaf (.slot 5))⟩,[0]),(⟨some 7,none,.val (.fldA 0 (.slot 3))⟩,[]),(⟨some 8,none,.val (.load .leaf (.slot 7))⟩,[2]),(⟨some 9,none,.call 67 [(.slot 6),(.slot 8)]⟩,[0,1,2,3]),(⟨some 10,none,.val (.fldA 1 (.slot 2))⟩,[]),(⟨some 11,none,.val (.load .leaf (.slot 10))⟩,[5]),(⟨some 12,none,.val (.fldA 1 (.slot 3))⟩,[]),(⟨some 13,none,.val (.load .leaf (.slot 12))⟩,[7]),(⟨some 14,none,.call 67 [(.slot 11),(.slot 13)]⟩,[0,1,2,3,4,5,6,7,8]),(⟨some 15,none,.val (.fldA 2 (.slot 2))⟩,[]),(⟨some 16,none,.val (.fldA 0 (.slot 15))⟩,[10]),(⟨some 17,none,.val (.load .leaf (.slot 16))⟩,[10,11]),(⟨some 18,none,.call 143 [(.slot 17)]⟩,[0,1,2,3,4,5,6,7,8,9,10,11,12]),(⟨some 19,none,.val (.fldA 2 (.slot 3))⟩,[]),(⟨some 20,none,.val (.fldA 0 (.slot 19))⟩,[14]),(⟨some 21,none,.val (.load .leaf (.slot 20))⟩,[14,15]),(⟨some 22,none,.call 143 [(.slot 21)]⟩,[0,1,2,3,4,5,6,7,8,9,10,11,12,13,14,15,16]),(⟨some 23,none,.call 67 [(.slot 18),(.slot 22)]⟩,[0,1,2,3,4,5,6,7,8,9,10,11,12,13,14,15,16,17]),(⟨some 24,none,.val (.fldA 2 (.slot 2))⟩,[]),(⟨some 25,none,.val (.fldA 1 (.slot 24))⟩,[19]),(⟨some 26,none,.val (.load .leaf (.slot 25))⟩,[19,20]),(⟨some 27,none,.val (.fldA 2 (.slot 3))⟩,[]),(⟨some 28,none,.val (.fldA 1 (.slot 27))⟩,[22]),(⟨some 29,none,.val (.load .leaf (.slot 28))⟩,[22,23]),(⟨some 30,none,.call 67 [(.slot 26),(.slot 29)]⟩,[0,1,2,3,4,5,6,7,8,9,10,11,12,13,14,15,16,17,18,19,20,21,22,23,24]),(⟨some 31,none,.bslice .leaf [(.slot 9),(.slot 14),(.slot 23),(.slot 30)]⟩,[0,1,2,3,4,5,6,7,8,9,10,11,12,13,14,15,16,17,18,19,20,21,22,23,24,25]),(⟨some 32,none,.call 66 [(.slot 31)]⟩,[0,1,2,3,4,5,6,7,8,9,10,11,12,13,14,15,16,17,18,19,20,21,22,23,24,25,26]),(⟨some 4,none,.val (.move (.slot 32))⟩,[0,1,2,3,4,5,6,7,8,9,10,11,12,13,14,15,16,17,18,19,20,21,22,23,24,25,26,27])]
abbrev g98r1t:List aA:=[]
def path_order:LFn:=⟨(.seq (.ops g98r0) (.seq (.draw 29 g98r1 g98r1t) .ret)),33,[.slot 4]⟩
theorem path_order_low:aH Tryz.prog 112=some path_order:=by kernel_rfl
abbrev g99r0:List aA:=[⟨some 2,none,.val (.move (.const (.int .i64 0)))⟩]
abbrev g99r1:List aA:=[⟨some 3,none,.val (.move (.const (.int .i64 0)))⟩]
abbrev g99r2:List aA:=[⟨some 6,none,.val (.move (.slot 0))⟩,⟨some 7,none,.val (.len (.slot 6))⟩,⟨some 8,none,.val (.move (.const (.int .i64 0)))⟩]
abbrev g99r3:List aA:=[⟨some 9,none,.val (.bin .lss (.slot 8) (.slot 7))⟩]
abbrev g99r4:List aA:=[⟨some 10,none,.val (.idxA (.agg 4) (.slot 6) (.slot 8))⟩,⟨some 11,none,.val (.load (.agg 4) (.slot 10))⟩,⟨some 5,none,.box (.agg 4) (.const (.agg [(.int .i64 0),(.int .i64 0),(.bool false),(.int .i64 0)]))⟩,⟨none,none,.store (.agg 4) (.slot 5) (.slot 11)⟩]
abbrev g99r5:List aA:=[⟨some 12,none,.val (.move (.slot 3))⟩,⟨some 13,none,.val (.fldA 2 (.slot 5))⟩,⟨some 14,none,.val (.fldA 1 (.slot 13))⟩,⟨some 15,none,.val (.load .leaf (.slot 14))⟩,⟨some 16,none,.val (.bin .add (.slot 12) (.slot 15))⟩,⟨some 3,none,.val (.move (.slot 16))⟩]
abbrev g99r6:List aA:=[⟨some 17,none,.val (.bin .add (.slot 8) (.const (.int .i64 1)))⟩,⟨some 8,none,.val (.move (.slot 17))⟩]
abbrev g99l0:cF:=(.seq (.ops g99r3) (.seq (.cond (.slot 9) .skip (.exit 0)) (.seq (.block 1 (.seq (.ops g99r4) (.ops g99r5))) (.ops g99r6))))
abbrev g99r7:List aA:=[⟨some 18,none,.val (.move (.slot 3))⟩,⟨some 2,none,.val (.move (.slot 18))⟩]
def path_added:LFn:=⟨(.seq (.ops g99r0) (.seq (.ops g99r1) (.seq (.seq (.ops g99r2) (.block 0 (.loop g99l0))) (.seq (.ops g99r7) .ret)))),19,[.slot 2]⟩
theorem path_added_low:aH Tryz.prog 113=some path_added:=by kernel_rfl
abbrev g100r0:List aA:=[⟨some 4,none,.val (.move (.const (.bool false)))⟩]
abbrev g100r1:List aA:=[⟨some 14,none,.val (.move (.slot 0))⟩,⟨some 15,none,.mkz .leaf 8 (.slot 14) (.int .i64 0)⟩,⟨some 5,none,.val (.move (.slot 15))⟩]
abbrev g100r2:List aA:=[⟨some 16,none,.val (.move (.slot 1))⟩,⟨some 17,none,.val (.len (.slot 16))⟩,⟨some 18,none,.val (.move (.const (.int .i64 0)))⟩]
abbrev g100r3:List aA:=[⟨some 19,none,.val (.bin .lss (.slot 18) (.slot 17))⟩]
abbrev g100r4:List aA:=[⟨some 20,none,.val (.idxA (.agg 4) (.slot 16) (.slot 18))⟩,⟨some 21,none,.val (.load (.agg 4) (.slot 20))⟩,⟨some 7,none,.box (.agg 4) (.const (.agg [(.int .i64 0),(.int .i64 0),(.bool false),(.int .i64 0)]))⟩,⟨none,none,.store (.agg 4) (.slot 7) (.slot 21)⟩]
abbrev g100r5:List aA:=[⟨some 22,none,.val (.fldA 2 (.slot 7))⟩,⟨some 23,none,.val (.fldA 1 (.slot 22))⟩,⟨some 24,none,.val (.load .leaf (.slot 23))⟩,⟨some 25,none,.val (.bin .eql (.slot 24) (.const (.int .i64 0)))⟩]
abbrev g100r6:List aA:=[⟨some 26,none,.val (.move (.slot 5))⟩,⟨some 27,none,.val (.fldA 1 (.slot 7))⟩,⟨some 28,none,.val (.load .leaf (.slot 27))⟩,⟨some 29,none,.val (.idxA .leaf (.slot 26) (.slot 28))⟩,⟨some 30,none,.val (.load .leaf (.slot 29))⟩,⟨some 31,none,.val (.bin .add (.slot 30) (.const (.int .i64 1)))⟩,⟨some 32,none,.val (.idxA .leaf (.slot 26) (.slot 28))⟩,⟨none,none,.store .leaf (.slot 32) (.slot 31)⟩]
abbrev g100r7:List aA:=[⟨some 33,none,.val (.bin .add (.slot 18) (.const (.int .i64 1)))⟩,⟨some 18,none,.val (.move (.slot 33))⟩]
abbrev g100l0:cF:=(.seq (.ops g100r3) (.seq (.cond (.slot 19) .skip (.exit 0)) (.seq (.block 1 (.seq (.ops g100r4) (.seq (.ops g100r5) (.cond (.slot 25) (.ops g100r6) .skip)))) (.ops g100r7))))
abbrev g100r8:List aA:=[⟨some 8,none,.val (.move (.const (.sl .leaf .nil [])))⟩]
abbrev g100r9:List aA:=[⟨some 34,none,.val (.move (.slot 5))⟩,⟨some 35,none,.val (.len (.slot 34))⟩,⟨some 36,none,.val (.move (.const (.int .i64 0)))⟩]
abbrev g100r10:List aA:=[⟨some 37,none,.val (.bin .lss (.slot 36) (.slot 35))⟩]
abbrev g100r11:List aA:=[⟨some 38,none,.val (.move (.slot 36))⟩,⟨some 39,none,.val (.idxA .leaf (.slot 34) (.slot 36))⟩,⟨some 40,none,.val (.load .leaf (.slot 39))⟩,⟨some 9,none,.val (.move (.slot 38))⟩,⟨some 10,none,.val (.move (.slot 40))⟩]
abbrev g100r12:List aA:=[⟨some 41,none,.val (.move (.slot 10))⟩,⟨some 42,none,.val (.bin .eql (.slot 41) (.const (.int .i64 0)))⟩]
abbrev g100r13:List aA:=[⟨some 43,none,.val (.move (.slot 8))⟩,⟨some 44,none,.val (.move (.slot 9))⟩,⟨some 45,none,.bslice .leaf [(.slot 44)]⟩,⟨some 46,none,.append .leaf 8 (.slot 43) (.slot 45)⟩,⟨some 8,none,.val (.move (.slot 46))⟩]
abbrev g100r14:List aA:=[⟨some 47,none,.val (.bin .add (.slot 36) (.const (.int .i64 1)))⟩,⟨some 36,none,.val (.move (.slot 47))⟩]
abbrev g100l1:cF:=(.seq (.ops g100r10) (.seq (.cond (.slot 37) .skip (.exit 2)) (.seq (.block 3 (.seq (.ops g100r11) (.seq (.ops g100r12) (.cond (.slot 42) (.ops g100r13) .skip)))) (.ops g100r14))))
abbrev g100r15:List aA:=[⟨some 11,none,.val (.move (.const (.int .i64 0)))⟩]
abbrev g100r16:List aA:=[⟨some 48,none,.val (.move (.slot 11))⟩,⟨some 49,none,.val (.move (.slot 8))⟩,⟨some 50,none,.val (.len (.slot 49))⟩,⟨some 51,none,.val (.bin .lss (.slot 48) (.slot 50))⟩]
abbrev g100r17:List aA:=[⟨some 54,none,.val (.move (.slot 1))⟩,⟨some 55,none,.val (.len (.slot 54))⟩,⟨some 56,none,.val (.move (.const (.int .i64 0)))⟩]
abbrev g100r18:List aA:=[⟨some 57,none,.val (.bin .lss (.slot 56) (.slot 55))⟩]
abbrev g100r19:List aA:=[⟨some 58,none,.val (.idxA (.agg 4) (.slot 54) (.slot 56))⟩,⟨some 59,none,.val (.load (.agg 4) (.slot 58))⟩,⟨some 13,none,.box (.agg 4) (.const (.agg [(.int .i64 0),(.int .i64 0),(.bool false),(.int .i64 0)]))⟩,⟨none,none,.store (.agg 4) (.slot 13) (.slot 59)⟩]
abbrev g100r20:List (aA×List Nat):=[(⟨some 60,none,.val (.fldA 0 (.slot 13))⟩,[]),(⟨some 61,none,.val (.load .leaf (.slot 60))⟩,[0]),(⟨some 62,none,.val (.move (.slot 8))⟩,[]),(⟨some 63,none,.val (.move (.slot 11))⟩,[]),(⟨some 64,none,.val (.idxA .leaf (.slot 62) (.slot 63))⟩,[2,3]),(⟨some 65,none,.val (.load .leaf (.slot 64))⟩,[2,3,4]),(⟨some 66,none,.val (.bin .neq (.slot 61) (.slot 65))⟩,[0,1,2,3,4,5]),(⟨some 67,none,.val (.move (.slot 66))⟩,[0,1,2,3,4,5,6]),(⟨some 68,some (67,false),.val (.fldA 2 (.slot 13))⟩,[0,1,2,3,4,5,6,7]),(⟨some 69,some (67,false),.val (.fldA 1 (.slot 68))⟩,[0,1,2,3,4,5,6,7,8]),(⟨some 70,some (67,false),.val (.load .leaf (.slot 69))⟩,[0,1,2,3,4,5,6,7,8,9]),(⟨some 71,some (67,false),.val (.bin .gtr (.slot 70) (.const (.int .i64 0)))⟩,[0,1,2,3,4,5,6,7,8,9,10]),(⟨some 72,none,.val (.pick (.slot 67) (.const (.bool true)) (.slot 71))⟩,[0,1,2,3,4,5,6,7,8,9,10,11])]
abbrev g100r20t:List aA:=[]
abbrev g100r21:List aA:=[⟨some 73,none,.val (.move (.slot 5))⟩,⟨some 74,none,.val (.fldA 1 (.slot 13))⟩,⟨some 75,none,.val (.load .leaf (.slot 74))⟩,⟨some 76,none,.val (.idxA .leaf (.slot 73) (.slot 75))⟩,⟨some 77,none,.val (.load .leaf (.slot 76))⟩,⟨some 78,none,.val (.bin .sub (.slot 77) (.const (.int .i64 1)))⟩,⟨some 79,none,.val (.idxA .leaf (.slot 73) (.slot 75))⟩,⟨none,none,.store .leaf (.slot 79) (.slot 78)⟩]
abbrev g100r22:List aA:=[⟨some 80,none,.val (.move (.slot 5))⟩,⟨some 81,none,.val (.fldA 1 (.slot 13))⟩,⟨some 82,none,.val (.load .leaf (.slot 81))⟩,⟨some 83,none,.val (.idxA .leaf (.slot 80) (.slot 82))⟩,⟨some 84,none,.val (.load .leaf (.slot 83))⟩,⟨some 85,none,.val (.bin .eql (.slot 84) (.const (.int .i64 0)))⟩]
abbrev g100r23:List aA:=[⟨some 86,none,.val (.move (.slot 8))⟩,⟨some 87,none,.val (.fldA 1 (.slot 13))⟩,⟨some 88,none,.val (.load .leaf (.slot 87))⟩,⟨some 89,none,.bslice .leaf [(.slot 88)]⟩,⟨some 90,none,.append .leaf 8 (.slot 86) (.slot 89)⟩,⟨some 8,none,.val (.move (.slot 90))⟩]
abbrev g100r24:List aA:=[⟨some 91,none,.val (.bin .add (.slot 56) (.const (.int .i64 1)))⟩,⟨some 56,none,.val (.move (.slot 91))⟩]
abbrev g100l2:cF:=(.seq (.ops g100r18) (.seq (.cond (.slot 57) .skip (.exit 6)) (.seq (.block 7 (.seq (.ops g100r19) (.seq (.seq (.draw 13 g100r20 g100r20t) (.cond (.slot 72) (.exit 7) .skip)) (.seq (.ops g100r21) (.seq (.ops g100r22) (.cond (.slot 85) (.ops g100r23) .skip)))))) (.ops g100r24))))
abbrev g100r25:List aA:=[⟨some 52,none,.val (.move (.slot 11))⟩,⟨some 53,none,.val (.bin .add (.slot 52) (.const (.int .i64 1)))⟩,⟨some 11,none,.val (.move (.slot 53))⟩]
abbrev g100l3:cF:=(.seq (.seq (.ops g100r16) (.cond (.slot 51) .skip (.exit 4))) (.seq (.block 5 (.seq (.ops g100r17) (.block 6 (.loop g100l2)))) (.ops g100r25)))
abbrev g100r26:List aA:=[⟨some 92,none,.val (.move (.slot 8))⟩,⟨some 93,none,.val (.len (.slot 92))⟩,⟨some 94,none,.val (.move (.slot 0))⟩,⟨some 95,none,.val (.bin .lss (.slot 93) (.slot 94))⟩,⟨some 4,none,.val (.move (.slot 95))⟩]
def path_idle:LFn:=⟨(.seq (.ops g100r0) (.seq (.ops g100r1) (.seq (.seq (.ops g100r2) (.block 0 (.loop g100l0))) (.seq (.ops g100r8) (.seq (.seq (.ops g100r9) (.block 2 (.loop g100l1))) (.seq (.seq (.ops g100r15) (.block 4 (.loop g100l3))) (.seq (.ops g100r26) .ret))))))),96,[.slot 4]⟩
theorem path_idle_low:aH Tryz.prog 114=some path_idle:=by kernel_rfl
abbrev g101r0:List aA:=[⟨some 2,none,.box .leaf (.slot 0)⟩,⟨some 3,none,.box .leaf (.slot 1)⟩,⟨some 4,none,.val (.move (.const (.bool false)))⟩]
abbrev g101r1:List aA:=[⟨some 5,none,.val (.load .leaf (.slot 3))⟩,⟨some 6,none,.val (.mkfn (.func 144) [] [(.slot 2),(.slot 3)])⟩,⟨some 7,none,.call 108 [(.slot 5),(.slot 6)]⟩,⟨some 4,none,.val (.move (.slot 7))⟩]
def path_turns:LFn:=⟨(.seq (.ops g101r0) (.seq (.ops g101r1) .ret)),8,[.slot 4]⟩
theorem path_turns_low:aH Tryz.prog 115=some path_turns:=by kernel_rfl
abbrev corollaryref20_Less_r0:List aA:=[⟨some 2,none,.box (.agg 2) (.slot 0)⟩,⟨some 3,none,.box (.agg 2) (.slot 1)⟩,⟨some 4,none,.val (.move (.const (.bool false)))⟩]
abbrev corollaryref20_Less_r1:List aA:=[⟨some 5,none,.val (.fldA 0 (.slot 2))⟩,⟨some 6,none,.val (.load .leaf (.slot 5))⟩,⟨some 7,none,.val (.fldA 0 (.slot 3))⟩,⟨some 8,none,.val (.load .leaf (.slot 7))⟩,⟨some 9,none,.val (.bin .lss (.slot 6) (.slot 8))⟩,⟨some 10,none,.val (.move (.slot 9))⟩,⟨some 11,some (10,false),.val (.fldA 0 (.slot 2))⟩,⟨some 12,some (10,false),.val (.load .leaf (.slot 11))⟩,⟨some 13,some (10,false),.val (.fldA 0 (.slot 3))⟩,⟨some 14,some (10,false),.val (.load .leaf (.slot 13))⟩,⟨some 15,some (10,false),.val (.bin .eql (.slot 12) (.slot 14))⟩,⟨some 16,some (10,false),.val (.move (.slot 15))⟩,⟨some 17,some (16,true),.val (.fldA 1 (.slot 2))⟩,⟨some 18,some (16,true),.val (.load .leaf (.slot 17))⟩,⟨some 19,some (16,true),.val (.fldA 1 (.slot 3))⟩,⟨some 20,some (16,true),.val (.load .leaf (.slot 19))⟩,⟨some 21,some (16,true),.val (.bin .lss (.slot 18) (.slot 20))⟩,⟨some 22,some (10,false),.val (.pick (.slot 16) (.slot 21) (.const (.bool false)))⟩,⟨some 23,none,.val (.pick (.slot 10) (.const (.bool true)) (.slot 22))⟩,⟨some 4,none,.val (.move (.slot 23))⟩]
def corollaryref20_Less:LFn:=⟨(.seq (.ops corollaryref20_Less_r0) (.seq (.ops corollaryref20_Less_r1) .ret)),24,[.slot 4]⟩
theorem corollaryref20_Less_low:aH Tryz.prog 119=some corollaryref20_Less:=by kernel_rfl
abbrev g106r0:List aA:=[⟨some 2,none,.box (.agg 2) (.slot 0)⟩,⟨some 4,none,.val (.move (.const (.sl .leaf .nil [])))⟩]
abbrev g106r1:List aA:=[⟨some 16,none,.val (.fldA 0 (.slot 2))⟩,⟨some 17,none,.val (.load .leaf (.slot 16))⟩,⟨some 18,none,.mkz .leaf 24 (.slot 17) (.sl (.agg 2) .nil [])⟩,⟨some 5,none,.val (.move (.slot 18))⟩]
abbrev g106r2:List aA:=[⟨some 19,none,.val (.move (.slot 5))⟩,⟨some 20,none,.val (.move (.slot 1))⟩,⟨some 21,none,.val (.build [(.bool false),(.int .i64 0)] [])⟩,⟨some 22,none,.bslice (.agg 2) [(.slot 21)]⟩,⟨some 23,none,.val (.idxA .leaf (.slot 19) (.slot 20))⟩,⟨none,none,.store .leaf (.slot 23) (.slot 22)⟩]
abbrev g106r3:List aA:=[⟨some 24,none,.val (.move (.slot 1))⟩,⟨some 25,none,.bslice .leaf [(.slot 24)]⟩,⟨some 6,none,.val (.move (.slot 25))⟩]
abbrev g106r4:List aA:=[⟨some 26,none,.val (.move (.slot 6))⟩,⟨some 27,none,.val (.len (.slot 26))⟩,⟨some 28,none,.val (.bin .gtr (.slot 27) (.const (.int .i64 0)))⟩]
abbrev g106r5:List aA:=[⟨some 29,none,.val (.move (.slot 6))⟩,⟨some 30,none,.val (.idxA .leaf (.slot 29) (.const (.int .i64 0)))⟩,⟨some 31,none,.val (.load .leaf (.slot 30))⟩,⟨some 7,none,.val (.move (.slot 31))⟩]
abbrev g106r6:List aA:=[⟨some 32,none,.val (.move (.slot 6))⟩,⟨some 33,none,.val (.slc .leaf (.slot 32) (.some (.const (.int .i64 1))) .none .none)⟩,⟨some 6,none,.val (.move (.slot 33))⟩]
abbrev g106r7:List aA:=[⟨some 34,none,.val (.move (.slot 5))⟩,⟨some 35,none,.val (.move (.slot 7))⟩,⟨some 36,none,.val (.idxA .leaf (.slot 34) (.slot 35))⟩,⟨some 37,none,.val (.load .leaf (.slot 36))⟩,⟨some 38,none,.call 149 [(.slot 37)]⟩,⟨some 8,none,.val (.move (.slot 38))⟩]
abbrev g106r8:List aA:=[⟨some 39,none,.val (.fldA 1 (.slot 2))⟩,⟨some 40,none,.val (.load .leaf (.slot 39))⟩,⟨some 41,none,.val (.len (.slot 40))⟩,⟨some 42,none,.val (.move (.const (.int .i64 0)))⟩]
abbrev g106r9:List aA:=[⟨some 43,none,.val (.bin .lss (.slot 42) (.slot 41))⟩]
abbrev g106r10:List aA:=[⟨some 44,none,.val (.idxA (.agg 4) (.slot 40) (.slot 42))⟩,⟨some 45,none,.val (.load (.agg 4) (.slot 44))⟩,⟨some 10,none,.box (.agg 4) (.const (.agg [(.int .i64 0),(.int .i64 0),(.bool false),(.int .i64 0)]))⟩,⟨none,none,.store (.agg 4) (.slot 10) (.slot 45)⟩]
abbrev g106r11:List aA:=[⟨some 46,none,.val (.fldA 0 (.slot 10))⟩,⟨some 47,none,.val (.load .leaf (.slot 46))⟩,⟨some 48,none,.val (.move (.slot 7))⟩,⟨some 49,none,.val (.bin .neq (.slot 47) (.slot 48))⟩]
abbrev g106r12:List aA:=[⟨some 50,none,.val (.move (.slot 8))⟩,⟨some 51,none,.val (.len (.slot 50))⟩,⟨some 52,none,.val (.move (.const (.int .i64 0)))⟩]
abbrev g106r13:List aA:=[⟨some 53,none,.val (.bin .lss (.slot 52) (.slot 51))⟩]
abbrev g106r14:List aA:=[⟨some 54,none,.val (.idxA (.agg 2) (.slot 50) (.slot 52))⟩,⟨some 55,none,.val (.load (.agg 2) (.slot 54))⟩,⟨some 12,none,.box (.agg 2) (.const (.agg [(.bool false),(.int .i64 0)]))⟩,⟨none,none,.store (.agg 2) (.slot 12) (.slot 55)⟩]
abbrev g106r15:List aA:=[⟨some 57,none,.val (.load (.agg 2) (.slot 12))⟩,⟨some 58,none,.val (.fldA 2 (.slot 10))⟩,⟨some 59,none,.val (.load (.agg 2) (.slot 58))⟩,⟨some 60,none,.call 150 [(.slot 57),(.slot 59)]⟩,⟨some 56,none,.val (.move (.slot 60))⟩,⟨some 61,none,.val (.ext (.slot 56) 0)⟩,⟨some 62,none,.val (.ext (.slot 56) 1)⟩,⟨some 13,none,.box (.agg 2) (.const (.agg [(.bool false),(.int .i64 0)]))⟩,⟨none,none,.store (.agg 2) (.slot 13) (.slot 61)⟩,⟨some 14,none,.val (.move (.slot 62))⟩]
abbrev g106r16:List aA:=[⟨some 63,none,.val (.move (.slot 14))⟩,⟨some 64,none,.val (.eq true (.iface true) (.slot 63) (.const .nilIface))⟩]
abbrev g106r17:List aA:=[⟨some 15,none,.val (.move (.const (.bool false)))⟩]
abbrev g106r18:List (aA×List Nat):=[(⟨some 66,none,.val (.move (.slot 5))⟩,[]),(⟨some 67,none,.val (.fldA 1 (.slot 10))⟩,[]),(⟨some 68,none,.val (.load .leaf (.slot 67))⟩,[1]),(⟨some 69,none,.val (.move (.slot 5))⟩,[]),(⟨some 70,none,.val (.fldA 1 (.slot 10))⟩,[]),(⟨some 71,none,.val (.load .leaf (.slot 70))⟩,[4]),(⟨some 72,none,.val (.idxA .leaf (.slot 69) (.slot 71))⟩,[3,4,5]),(⟨some 73,none,.val (.load .leaf (.slot 72))⟩,[3,4,5,6]),(⟨some 74,none,.val (.load (.agg 2) (.slot 13))⟩,[]),(⟨some 75,none,.callw 151 [(.slot 73),(.slot 74)] [(.slot 67)]⟩,[3,4,5,6,7,8]),(⟨some 65,none,.val (.move (.slot 75))⟩,[3,4,5,6,7,8,9]),(⟨some 76,none,.val (.ext (.slot 65) 0)⟩,[3,4,5,6,7,8,9,10]),(⟨some 77,none,.val (.ext (.slot 65) 1)⟩,[3,4,5,6,7,8,9,10]),(⟨some 78,none,.val (.idxA .leaf (.slot 66) (.slot 68))⟩,[0,1,2,3,4,5,6,7,8,9,10,11]),(⟨none,none,.store .leaf (.slot 78) (.slot 76)⟩,[0,1,2,3,4,5,6,7,8,9,10,11,13]),(⟨some 15,none,.val (.move (.slot 77))⟩,[0,1,2,3,4,5,6,7,8,9,10,11,12,13,14])]
abbrev g106r18t:List aA:=[]
abbrev g106r19:List aA:=[⟨some 79,none,.val (.move (.slot 15))⟩]
abbrev g106r20:List aA:=[⟨some 80,none,.val (.move (.slot 6))⟩,⟨some 81,none,.val (.fldA 1 (.slot 10))⟩,⟨some 82,none,.val (.load .leaf (.slot 81))⟩,⟨some 83,none,.bslice .leaf [(.slot 82)]⟩,⟨some 84,none,.append .leaf 8 (.slot 80) (.slot 83)⟩,⟨some 6,none,.val (.move (.slot 84))⟩]
abbrev g106r21:List aA:=[⟨some 85,none,.val (.bin .add (.slot 52) (.const (.int .i64 1)))⟩,⟨some 52,none,.val (.move (.slot 85))⟩]
abbrev g106l0:cF:=(.seq (.ops g106r13) (.seq (.cond (.slot 53) .skip (.exit 4)) (.seq (.block 5 (.seq (.ops g106r14) (.seq (.ops g106r15) (.seq (.seq (.ops g106r16) (.cond (.slot 64) (.exit 5) .skip)) (.seq (.ops g106r17) (.seq (.draw 16 g106r18 g106r18t) (.seq (.ops g106r19) (.cond (.slot 79) (.ops g106r20) .skip)))))))) (.ops g106r21))))
abbrev g106r22:List aA:=[⟨some 86,none,.val (.bin .add (.slot 42) (.const (.int .i64 1)))⟩,⟨some 42,none,.val (.move (.slot 86))⟩]
abbrev g106l1:cF:=(.seq (.ops g106r9) (.seq (.cond (.slot 43) .skip (.exit 2)) (.seq (.block 3 (.seq (.ops g106r10) (.seq (.seq (.ops g106r11) (.cond (.slot 49) (.exit 3) .skip)) (.seq (.ops g106r12) (.block 4 (.loop g106l0)))))) (.ops g106r22))))
abbrev g106l2:cF:=(.seq (.seq (.ops g106r4) (.cond (.slot 28) .skip (.exit 0))) (.block 1 (.seq (.ops g106r5) (.seq (.ops g106r6) (.seq (.ops g106r7) (.seq (.ops g106r8) (.block 2 (.loop g106l1))))))))
abbrev g106r23:List aA:=[⟨some 87,none,.val (.move (.slot 5))⟩,⟨some 4,none,.val (.move (.slot 87))⟩]
def path_from:LFn:=⟨(.seq (.ops g106r0) (.seq (.ops g106r1) (.seq (.ops g106r2) (.seq (.ops g106r3) (.seq (.block 0 (.loop g106l2)) (.seq (.ops g106r23) .ret)))))),88,[.slot 4]⟩
theorem path_from_low:aH Tryz.prog 121=some path_from:=by kernel_rfl
abbrev stamp_within_r0:List aA:=[⟨some 4,none,.val (.move (.const (.bool false)))⟩]
abbrev stamp_within_r1:List aA:=[⟨some 5,none,.val (.move (.slot 0))⟩,⟨some 6,none,.val (.bin .geq (.slot 5) (.const (.int .i64 0)))⟩,⟨some 7,none,.val (.move (.slot 6))⟩,⟨some 8,some (7,true),.val (.move (.slot 0))⟩,⟨some 9,some (7,true),.val (.move (.slot 1))⟩,⟨some 10,some (7,true),.val (.bin .leq (.slot 8) (.slot 9))⟩,⟨some 11,none,.val (.pick (.slot 7) (.slot 10) (.const (.bool false)))⟩,⟨some 4,none,.val (.move (.slot 11))⟩]
def stamp_within:LFn:=⟨(.seq (.ops stamp_within_r0) (.seq (.ops stamp_within_r1) .ret)),12,[.slot 4]⟩
theorem stamp_within_low:aH Tryz.prog 122=some stamp_within:=by kernel_rfl
abbrev g108r0:List aA:=[⟨some 2,none,.box (.agg 2) (.slot 0)⟩,⟨some 3,none,.box (.agg 2) (.slot 1)⟩,⟨some 4,none,.box (.agg 2) (.const (.agg [(.int .i64 0),(.int .i64 0)]))⟩,⟨some 5,none,.val (.move (.const .nilIface))⟩]
abbrev g108r1:List aA:=[⟨some 7,none,.val (.load (.agg 2) (.slot 2))⟩,⟨some 8,none,.call 138 [(.slot 7)]⟩,⟨some 9,none,.val (.not (.slot 8))⟩,⟨some 10,none,.val (.move (.slot 9))⟩,⟨some 11,some (10,false),.val (.load (.agg 2) (.slot 3))⟩,⟨some 12,some (10,false),.call 74 [(.slot 11)]⟩,⟨some 13,some (10,false),.val (.not (.slot 12))⟩,⟨some 14,none,.val (.pick (.slot 10) (.const (.bool true)) (.slot 13))⟩]
abbrev g108r2:List aA:=[⟨some 15,none,.val (.build [(.int .i64 0),(.int .i64 0)] [])⟩,⟨some 16,none,.val (.mkif 71 (.const (.int .i64 2)))⟩,⟨none,none,.store (.agg 2) (.slot 4) (.slot 15)⟩,⟨some 5,none,.val (.move (.slot 16))⟩]
abbrev g108r3:List aA:=[⟨some 17,none,.val (.fldA 0 (.slot 3))⟩,⟨some 18,none,.val (.load .leaf (.slot 17))⟩,⟨some 19,none,.val (.fldA 1 (.slot 2))⟩,⟨some 20,none,.val (.load .leaf (.slot 19))⟩,⟨some 21,none,.val (.build [(.int .i64 0),(.int .i64 0)] [(0,.leaf,(.slot 18)),(1,.leaf,(.slot 20))])⟩,⟨some 6,none,.box (.agg 2) (.const (.agg [(.int .i64 0),(.int .i64 0)]))⟩,⟨none,none,.store (.agg 2) (.slot 6) (.slot 21)⟩]
abbrev g108r4:List aA:=[⟨some 22,none,.val (.fldA 0 (.slot 2))⟩,⟨some 23,none,.val (.load .leaf (.slot 22))⟩,⟨some 24,none,.val (.not (.slot 23))⟩]
abbrev g108r5:List aA:=[⟨some 25,none,.val (.fldA 1 (.slot 6))⟩,⟨some 26,none,.val (.load .leaf (.slot 25))⟩,⟨some 27,none,.val (.fldA 1 (.slot 3))⟩,⟨some 28,none,.val (.load .leaf (.slot 27))⟩,⟨some 29,none,.val (.bin .add (.slot 26) (.slot 28))⟩,⟨some 30,none,.val (.fldA 1 (.slot 6))⟩,⟨none,none,.store .leaf (.slot 30) (.slot 29)⟩]
abbrev g108r6:List aA:=[⟨some 31,none,.val (.load (.agg 2) (.slot 6))⟩,⟨some 32,none,.call 74 [(.slot 31)]⟩,⟨some 33,none,.val (.not (.slot 32))⟩]
abbrev g108r7:List aA:=[⟨some 34,none,.val (.build [(.int .i64 0),(.int .i64 0)] [])⟩,⟨some 35,none,.val (.mkif 71 (.const (.int .i64 1)))⟩,⟨none,none,.store (.agg 2) (.slot 4) (.slot 34)⟩,⟨some 5,none,.val (.move (.slot 35))⟩]
abbrev g108r8:List aA:=[⟨some 36,none,.val (.load (.agg 2) (.slot 6))⟩,⟨none,none,.store (.agg 2) (.slot 4) (.slot 36)⟩,⟨some 5,none,.val (.move (.const .nilIface))⟩]
def stamp_Path_Of:LFn:=⟨(.seq (.ops g108r0) (.seq (.seq (.ops g108r1) (.cond (.slot 14) (.seq (.ops g108r2) .ret) .skip)) (.seq (.ops g108r3) (.seq (.seq (.ops g108r4) (.cond (.slot 24) (.ops g108r5) .skip)) (.seq (.seq (.ops g108r6) (.cond (.slot 33) (.seq (.ops g108r7) .ret) .skip)) (.seq (.ops g108r8) .ret)))))),37,[.cell 4 (.agg 2),.slot 5]⟩
theorem stamp_Path_Of_low:aH Tryz.prog 125=some stamp_Path_Of:=by kernel_rfl
abbrev g109r0:List aA:=[⟨some 2,none,.val (.move (.const (.sl (.agg 2) .nil [])))⟩]
abbrev g109r1:List aA:=[⟨some 3,none,.val (.move (.const (.sl (.agg 2) .nil [])))⟩]
abbrev g109r2:List aA:=[⟨some 6,none,.val (.move (.slot 0))⟩,⟨some 7,none,.call 153 [(.slot 6)]⟩,⟨some 8,none,.call 152 [(.slot 7),(.const (.fn (.func 68) [] []))]⟩,⟨some 9,none,.val (.len (.slot 8))⟩,⟨some 10,none,.val (.move (.const (.int .i64 0)))⟩]
abbrev g109r3:List aA:=[⟨some 11,none,.val (.bin .lss (.slot 10) (.slot 9))⟩]
abbrev g109r4:List aA:=[⟨some 12,none,.val (.idxA (.agg 2) (.slot 8) (.slot 10))⟩,⟨some 13,none,.val (.load (.agg 2) (.slot 12))⟩,⟨some 5,none,.box (.agg 2) (.const (.agg [(.int .i64 0),(.int .i64 0)]))⟩,⟨none,none,.store (.agg 2) (.slot 5) (.slot 13)⟩]
abbrev g109r5:List aA:=[⟨some 14,none,.val (.load (.agg 2) (.slot 5))⟩,⟨some 15,none,.call 74 [(.slot 14)]⟩,⟨some 16,none,.val (.move (.slot 15))⟩,⟨some 17,some (16,true),.val (.move (.slot 3))⟩,⟨some 18,some (16,true),.val (.load (.agg 2) (.slot 5))⟩,⟨some 19,some (16,true),.call 28 [(.slot 17),(.slot 18)]⟩,⟨some 20,some (16,true),.val (.not (.slot 19))⟩,⟨some 21,none,.val (.pick (.slot 16) (.slot 20) (.const (.bool false)))⟩]
abbrev g109r6:List aA:=[⟨some 22,none,.val (.move (.slot 3))⟩,⟨some 23,none,.val (.load (.agg 2) (.slot 5))⟩,⟨some 24,none,.bslice (.agg 2) [(.slot 23)]⟩,⟨some 25,none,.append (.agg 2) 16 (.slot 22) (.slot 24)⟩,⟨some 3,none,.val (.move (.slot 25))⟩]
abbrev g109r7:List aA:=[⟨some 26,none,.val (.bin .add (.slot 10) (.const (.int .i64 1)))⟩,⟨some 10,none,.val (.move (.slot 26))⟩]
abbrev g109l0:cF:=(.seq (.ops g109r3) (.seq (.cond (.slot 11) .skip (.exit 0)) (.seq (.block 1 (.seq (.ops g109r4) (.seq (.ops g109r5) (.cond (.slot 21) (.ops g109r6) .skip)))) (.ops g109r7))))
abbrev g109r8:List aA:=[⟨some 27,none,.val (.move (.slot 3))⟩,⟨some 2,none,.val (.move (.slot 27))⟩]
def chain_Of:LFn:=⟨(.seq (.ops g109r0) (.seq (.ops g109r1) (.seq (.seq (.ops g109r2) (.block 0 (.loop g109l0))) (.seq (.ops g109r8) .ret)))),28,[.slot 2]⟩
theorem chain_Of_low:aH Tryz.prog 126=some chain_Of:=by kernel_rfl
abbrev slices_IndexFunc_stamp_Time_stamp_Time_r0:List aA:=[⟨some 4,none,.val (.move (.const (.int .i64 0)))⟩]
abbrev slices_IndexFunc_stamp_Time_stamp_Time_r1:List aA:=[⟨some 6,none,.val (.move (.slot 0))⟩,⟨some 7,none,.val (.len (.slot 6))⟩,⟨some 8,none,.val (.move (.const (.int .i64 0)))⟩]
abbrev slices_IndexFunc_stamp_Time_stamp_Time_r2:List aA:=[⟨some 9,none,.val (.bin .lss (.slot 8) (.slot 7))⟩]
abbrev slices_IndexFunc_stamp_Time_stamp_Time_r3:List aA:=[⟨some 10,none,.val (.move (.slot 8))⟩,⟨some 5,none,.val (.move (.slot 10))⟩]
abbrev slices_IndexFunc_stamp_Time_stamp_Time_r4:List aA:=[⟨some 11,none,.val (.move (.slot 1))⟩,⟨some 12,none,.val (.move (.slot 0))⟩,⟨some 13,none,.val (.move (.slot 5))⟩,⟨some 14,none,.val (.idxA (.agg 2) (.slot 12) (.slot 13))⟩,⟨some 15,none,.val (.load (.agg 2) (.slot 14))⟩,⟨some 16,none,.callv (.slot 11) [(.slot 15)]⟩]
abbrev slices_IndexFunc_stamp_Time_stamp_Time_r5:List aA:=[⟨some 17,none,.val (.move (.slot 5))⟩,⟨some 4,none,.val (.move (.slot 17))⟩]
abbrev slices_IndexFunc_stamp_Time_stamp_Time_r6:List aA:=[⟨some 18,none,.val (.bin .add (.slot 8) (.const (.int .i64 1)))⟩,⟨some 8,none,.val (.move (.slot 18))⟩]
abbrev g110l0:cF:=(.seq (.ops slices_IndexFunc_stamp_Time_stamp_Time_r2) (.seq (.cond (.slot 9) .skip (.exit 0)) (.seq (.block 1 (.seq (.ops slices_IndexFunc_stamp_Time_stamp_Time_r3) (.seq (.ops slices_IndexFunc_stamp_Time_stamp_Time_r4) (.cond (.slot 16) (.seq (.ops slices_IndexFunc_stamp_Time_stamp_Time_r5) .ret) .skip)))) (.ops slices_IndexFunc_stamp_Time_stamp_Time_r6))))
abbrev slices_IndexFunc_stamp_Time_stamp_Time_r7:List aA:=[⟨some 4,none,.val (.move (.const (.int .i64 (-1))))⟩]
def slices_IndexFunc_stamp_Time_stamp_Time:LFn:=⟨(.seq (.ops slices_IndexFunc_stamp_Time_stamp_Time_r0) (.seq (.seq (.ops slices_IndexFunc_stamp_Time_stamp_Time_r1) (.block 0 (.loop g110l0))) (.seq (.ops slices_IndexFunc_stamp_Time_stamp_Time_r7) .ret))),19,[.slot 4]⟩
theorem slices_IndexFunc_stamp_Time_stamp_Time_low:aH Tryz.prog 127=some slices_IndexFunc_stamp_Time_stamp_Time:=by kernel_rfl
abbrev g111r0:List aA:=[⟨some 1,none,.box (.agg 2) (.slot 0)⟩,⟨some 2,none,.box (.agg 2) (.const (.agg [(.bool false),(.int .i64 0)]))⟩]
abbrev g111r1:List aA:=[⟨some 3,none,.val (.load (.agg 2) (.slot 1))⟩,⟨none,none,.store (.agg 2) (.slot 2) (.slot 3)⟩]
def corollarylaw20_Path:LFn:=⟨(.seq (.ops g111r0) (.seq (.ops g111r1) .ret)),4,[.cell 2 (.agg 2)]⟩
theorem corollarylaw20_Path_low:aH Tryz.prog 128=some corollarylaw20_Path:=by kernel_rfl
abbrev g120r0:List aA:=[⟨some 1,none,.box (.agg 2) (.slot 0)⟩,⟨some 2,none,.val (.move (.const (.bool false)))⟩]
abbrev g120r1:List aA:=[⟨some 3,none,.val (.fldA 1 (.slot 1))⟩,⟨some 4,none,.val (.load .leaf (.slot 3))⟩,⟨some 5,none,.call 122 [(.slot 4),(.const (.int .i64 1048576))]⟩,⟨some 2,none,.val (.move (.slot 5))⟩]
def stamp_RightPath:LFn:=⟨(.seq (.ops g120r0) (.seq (.ops g120r1) .ret)),6,[.slot 2]⟩
theorem stamp_RightPath_low:aH Tryz.prog 138=some stamp_RightPath:=by kernel_rfl
abbrev g125r0:List aA:=[⟨some 2,none,.val (.move (.const (.int .i64 0)))⟩]
abbrev g125r1:List aA:=[⟨some 3,none,.val (.move (.slot 0))⟩]
abbrev g125r2:List aA:=[⟨some 2,none,.val (.move (.const (.int .i64 1)))⟩]
abbrev g125r3:List aA:=[⟨some 2,none,.val (.move (.const (.int .i64 0)))⟩]
def path_number:LFn:=⟨(.seq (.ops g125r0) (.seq (.seq (.ops g125r1) (.cond (.slot 3) (.seq (.ops g125r2) .ret) .skip)) (.seq (.ops g125r3) .ret))),4,[.slot 2]⟩
theorem path_number_low:aH Tryz.prog 143=some path_number:=by kernel_rfl
abbrev g126r0:List aA:=[⟨some 3,none,.box (.agg 4) (.slot 0)⟩,⟨some 4,none,.val (.move (.const (.bool false)))⟩]
abbrev g126r1:List aA:=[⟨some 5,none,.val (.fldA 2 (.slot 3))⟩,⟨some 6,none,.val (.fldA 0 (.slot 5))⟩,⟨some 7,none,.val (.load .leaf (.slot 6))⟩,⟨some 8,none,.val (.move (.slot 7))⟩,⟨some 9,some (8,true),.val (.load .leaf (.slot 1))⟩,⟨some 10,some (8,true),.val (.load .leaf (.slot 2))⟩,⟨some 11,some (8,true),.val (.fldA 1 (.slot 3))⟩,⟨some 12,some (8,true),.val (.load .leaf (.slot 11))⟩,⟨some 13,some (8,true),.val (.fldA 0 (.slot 3))⟩,⟨some 14,some (8,true),.val (.load .leaf (.slot 13))⟩,⟨some 15,some (8,true),.call 145 [(.slot 9),(.slot 10),(.slot 12),(.slot 14)]⟩,⟨some 16,none,.val (.pick (.slot 8) (.slot 15) (.const (.bool false)))⟩,⟨some 4,none,.val (.move (.slot 16))⟩]
def path_turns_1:LFn:=⟨(.seq (.ops g126r0) (.seq (.ops g126r1) .ret)),17,[.slot 4]⟩
theorem path_turns_1_low:aH Tryz.prog 144=some path_turns_1:=by kernel_rfl
abbrev g127r0:List aA:=[⟨some 8,none,.val (.move (.const (.bool false)))⟩]
abbrev g127r1:List aA:=[⟨some 13,none,.val (.move (.slot 0))⟩,⟨some 14,none,.mkz .leaf 1 (.slot 13) (.bool false)⟩,⟨some 9,none,.val (.move (.slot 14))⟩]
abbrev g127r2:List aA:=[⟨some 15,none,.val (.move (.slot 2))⟩,⟨some 16,none,.bslice .leaf [(.slot 15)]⟩,⟨some 10,none,.val (.move (.slot 16))⟩]
abbrev g127r3:List aA:=[⟨some 17,none,.val (.move (.slot 10))⟩,⟨some 18,none,.val (.len (.slot 17))⟩,⟨some 19,none,.val (.bin .gtr (.slot 18) (.const (.int .i64 0)))⟩]
abbrev g127r4:List aA:=[⟨some 22,none,.val (.move (.slot 10))⟩,⟨some 23,none,.val (.idxA .leaf (.slot 22) (.const (.int .i64 0)))⟩,⟨some 24,none,.val (.load .leaf (.slot 23))⟩,⟨some 25,none,.val (.move (.slot 3))⟩,⟨some 26,none,.val (.bin .eql (.slot 24) (.slot 25))⟩]
abbrev g127r5:List aA:=[⟨some 8,none,.val (.move (.const (.bool true)))⟩]
abbrev g127r6:List aA:=[⟨some 27,none,.val (.move (.slot 1))⟩,⟨some 28,none,.val (.len (.slot 27))⟩,⟨some 29,none,.val (.move (.const (.int .i64 0)))⟩]
abbrev g127r7:List aA:=[⟨some 30,none,.val (.bin .lss (.slot 29) (.slot 28))⟩]
abbrev g127r8:List aA:=[⟨some 31,none,.val (.idxA (.agg 4) (.slot 27) (.slot 29))⟩,⟨some 32,none,.val (.load (.agg 4) (.slot 31))⟩,⟨some 12,none,.box (.agg 4) (.const (.agg [(.int .i64 0),(.int .i64 0),(.bool false),(.int .i64 0)]))⟩,⟨none,none,.store (.agg 4) (.slot 12) (.slot 32)⟩]
abbrev g127r9:List (aA×List Nat):=[(⟨some 33,none,.val (.fldA 0 (.slot 12))⟩,[]),(⟨some 34,none,.val (.load .leaf (.slot 33))⟩,[0]),(⟨some 35,none,.val (.move (.slot 10))⟩,[]),(⟨some 36,none,.val (.idxA .leaf (.slot 35) (.const (.int .i64 0)))⟩,[2]),(⟨some 37,none,.val (.load .leaf (.slot 36))⟩,[2,3]),(⟨some 38,none,.val (.bin .eql (.slot 34) (.slot 37))⟩,[0,1,2,3,4]),(⟨some 39,none,.val (.move (.slot 38))⟩,[0,1,2,3,4,5]),(⟨some 40,some (39,true),.val (.move (.slot 9))⟩,[0,1,2,3,4,5,6]),(⟨some 41,some (39,true),.val (.fldA 1 (.slot 12))⟩,[0,1,2,3,4,5,6]),(⟨some 42,some (39,true),.val (.load .leaf (.slot 41))⟩,[0,1,2,3,4,5,6,8]),(⟨some 43,some (39,true),.val (.idxA .leaf (.slot 40) (.slot 42))⟩,[0,1,2,3,4,5,6,7,8,9]),(⟨some 44,some (39,true),.val (.load .leaf (.slot 43))⟩,[0,1,2,3,4,5,6,7,8,9,10]),(⟨some 45,some (39,true),.val (.not (.slot 44))⟩,[0,1,2,3,4,5,6,7,8,9,10,11]),(⟨some 46,none,.val (.pick (.slot 39) (.slot 45) (.const (.bool false)))⟩,[0,1,2,3,4,5,6,7,8,9,10,11,12])]
abbrev g127r9t:List aA:=[]
abbrev g127r10:List aA:=[⟨some 47,none,.val (.move (.slot 9))⟩,⟨some 48,none,.val (.fldA 1 (.slot 12))⟩,⟨some 49,none,.val (.load .leaf (.slot 48))⟩,⟨some 50,none,.val (.idxA .leaf (.slot 47) (.slot 49))⟩,⟨none,none,.store .leaf (.slot 50) (.const (.bool true))⟩]
abbrev g127r11:List aA:=[⟨some 51,none,.val (.move (.slot 10))⟩,⟨some 52,none,.val (.fldA 1 (.slot 12))⟩,⟨some 53,none,.val (.load .leaf (.slot 52))⟩,⟨some 54,none,.bslice .leaf [(.slot 53)]⟩,⟨some 55,none,.append .leaf 8 (.slot 51) (.slot 54)⟩,⟨some 10,none,.val (.move (.slot 55))⟩]
abbrev g127r12:List aA:=[⟨some 56,none,.val (.bin .add (.slot 29) (.const (.int .i64 1)))⟩,⟨some 29,none,.val (.move (.slot 56))⟩]
abbrev g127l0:cF:=(.seq (.ops g127r7) (.seq (.cond (.slot 30) .skip (.exit 2)) (.seq (.block 3 (.seq (.ops g127r8) (.seq (.draw 14 g127r9 g127r9t) (.cond (.slot 46) (.seq (.ops g127r10) (.ops g127r11)) .skip)))) (.ops g127r12))))
abbrev g127r13:List aA:=[⟨some 20,none,.val (.move (.slot 10))⟩,⟨some 21,none,.val (.slc .leaf (.slot 20) (.some (.const (.int .i64 1))) .none .none)⟩,⟨some 10,none,.val (.move (.slot 21))⟩]
abbrev g127l1:cF:=(.seq (.seq (.ops g127r3) (.cond (.slot 19) .skip (.exit 0))) (.seq (.block 1 (.seq (.seq (.ops g127r4) (.cond (.slot 26) (.seq (.ops g127r5) .ret) .skip)) (.seq (.ops g127r6) (.block 2 (.loop g127l0))))) (.ops g127r13)))
abbrev g127r14:List aA:=[⟨some 8,none,.val (.move (.const (.bool false)))⟩]
def path_reaches:LFn:=⟨(.seq (.ops g127r0) (.seq (.ops g127r1) (.seq (.seq (.ops g127r2) (.block 0 (.loop g127l1))) (.seq (.ops g127r14) .ret)))),57,[.slot 8]⟩
theorem path_reaches_low:aH Tryz.prog 145=some path_reaches:=by kernel_rfl
abbrev g132r0:List aA:=[⟨some 2,none,.box (.agg 2) (.slot 0)⟩,⟨some 3,none,.box (.agg 2) (.slot 1)⟩,⟨some 4,none,.box (.agg 2) (.const (.agg [(.bool false),(.int .i64 0)]))⟩,⟨some 5,none,.val (.move (.const .nilIface))⟩]
abbrev g132r1:List aA:=[⟨some 7,none,.val (.load (.agg 2) (.slot 2))⟩,⟨some 8,none,.call 138 [(.slot 7)]⟩,⟨some 9,none,.val (.not (.slot 8))⟩,⟨some 10,none,.val (.move (.slot 9))⟩,⟨some 11,some (10,false),.val (.load (.agg 2) (.slot 3))⟩,⟨some 12,some (10,false),.call 138 [(.slot 11)]⟩,⟨some 13,some (10,false),.val (.not (.slot 12))⟩,⟨some 14,none,.val (.pick (.slot 10) (.const (.bool true)) (.slot 13))⟩]
abbrev g132r2:List aA:=[⟨some 15,none,.val (.build [(.bool false),(.int .i64 0)] [])⟩,⟨some 16,none,.val (.mkif 71 (.const (.int .i64 2)))⟩,⟨none,none,.store (.agg 2) (.slot 4) (.slot 15)⟩,⟨some 5,none,.val (.move (.slot 16))⟩]
abbrev g132r3:List aA:=[⟨some 17,none,.val (.fldA 0 (.slot 3))⟩,⟨some 18,none,.val (.load .leaf (.slot 17))⟩]
abbrev g132r4:List aA:=[⟨some 19,none,.val (.load (.agg 2) (.slot 3))⟩,⟨none,none,.store (.agg 2) (.slot 4) (.slot 19)⟩,⟨some 5,none,.val (.move (.const .nilIface))⟩]
abbrev g132r5:List aA:=[⟨some 20,none,.val (.fldA 0 (.slot 2))⟩,⟨some 21,none,.val (.load .leaf (.slot 20))⟩,⟨some 22,none,.val (.fldA 1 (.slot 2))⟩,⟨some 23,none,.val (.load .leaf (.slot 22))⟩,⟨some 24,none,.val (.fldA 1 (.slot 3))⟩,⟨some 25,none,.val (.load .leaf (.slot 24))⟩,⟨some 26,none,.val (.bin .add (.slot 23) (.slot 25))⟩,⟨some 27,none,.val (.build [(.bool false),(.int .i64 0)] [(0,.leaf,(.slot 21)),(1,.leaf,(.slot 26))])⟩,⟨some 6,none,.box (.agg 2) (.const (.agg [(.bool false),(.int .i64 0)]))⟩,⟨none,none,.store (.agg 2) (.slot 6) (.slot 27)⟩]
abbrev g132r6:List aA:=[⟨some 28,none,.val (.load (.agg 2) (.slot 6))⟩,⟨some 29,none,.call 138 [(.slot 28)]⟩,⟨some 30,none,.val (.not (.slot 29))⟩]
abbrev g132r7:List aA:=[⟨some 31,none,.val (.build [(.bool false),(.int .i64 0)] [])⟩,⟨some 32,none,.val (.mkif 71 (.const (.int .i64 1)))⟩,⟨none,none,.store (.agg 2) (.slot 4) (.slot 31)⟩,⟨some 5,none,.val (.move (.slot 32))⟩]
abbrev g132r8:List aA:=[⟨some 33,none,.val (.load (.agg 2) (.slot 6))⟩,⟨none,none,.store (.agg 2) (.slot 4) (.slot 33)⟩,⟨some 5,none,.val (.move (.const .nilIface))⟩]
def stamp_Path_Then:LFn:=⟨(.seq (.ops g132r0) (.seq (.seq (.ops g132r1) (.cond (.slot 14) (.seq (.ops g132r2) .ret) .skip)) (.seq (.seq (.ops g132r3) (.cond (.slot 18) (.seq (.ops g132r4) .ret) .skip)) (.seq (.ops g132r5) (.seq (.seq (.ops g132r6) (.cond (.slot 30) (.seq (.ops g132r7) .ret) .skip)) (.seq (.ops g132r8) .ret)))))),34,[.cell 4 (.agg 2),.slot 5]⟩
theorem stamp_Path_Then_low:aH Tryz.prog 150=some stamp_Path_Then:=by kernel_rfl
abbrev g133r0:List aA:=[⟨some 3,none,.box (.agg 2) (.slot 1)⟩,⟨some 4,none,.val (.move (.const (.sl (.agg 2) .nil [])))⟩,⟨some 5,none,.val (.move (.const (.bool false)))⟩]
abbrev g133r1:List aA:=[⟨some 6,none,.val (.move (.slot 0))⟩,⟨some 7,none,.val (.mkfn (.func 169) [] [(.slot 3)])⟩,⟨some 8,none,.call 137 [(.slot 6),(.slot 7)]⟩]
abbrev g133r2:List aA:=[⟨some 9,none,.val (.move (.slot 0))⟩,⟨some 4,none,.val (.move (.slot 9))⟩,⟨some 5,none,.val (.move (.const (.bool false)))⟩]
abbrev g133r3:List aA:=[⟨some 10,none,.val (.move (.slot 0))⟩,⟨some 11,none,.val (.mkfn (.func 172) [] [(.slot 3)])⟩,⟨some 12,none,.call 171 [(.slot 10),(.slot 11)]⟩,⟨some 0,none,.val (.move (.slot 12))⟩]
abbrev g133r4:List aA:=[⟨some 13,none,.val (.move (.slot 0))⟩,⟨some 14,none,.val (.load (.agg 2) (.slot 3))⟩,⟨some 15,none,.bslice (.agg 2) [(.slot 14)]⟩,⟨some 16,none,.append (.agg 2) 16 (.slot 13) (.slot 15)⟩,⟨some 0,none,.val (.move (.slot 16))⟩]
abbrev g133r5:List aA:=[⟨some 17,none,.val (.move (.slot 0))⟩,⟨some 18,none,.call 173 [(.slot 17),(.const (.fn (.func 174) [] []))]⟩]
abbrev g133r6:List aA:=[⟨some 19,none,.val (.move (.slot 0))⟩,⟨some 4,none,.val (.move (.slot 19))⟩,⟨some 5,none,.val (.move (.const (.bool true)))⟩]
def path_put:LFn:=⟨(.seq (.ops g133r0) (.seq (.seq (.ops g133r1) (.cond (.slot 8) (.seq (.ops g133r2) .ret) .skip)) (.seq (.ops g133r3) (.seq (.ops g133r4) (.seq (.ops g133r5) (.seq (.ops g133r6) .ret)))))),20,[.slot 4,.slot 5]⟩
theorem path_put_low:aH Tryz.prog 151=some path_put:=by kernel_rfl
abbrev g149r0:List aA:=[⟨some 2,none,.box (.agg 2) (.slot 0)⟩,⟨some 3,none,.val (.move (.const (.bool false)))⟩]
abbrev g149r1:List aA:=[⟨some 4,none,.val (.load (.agg 2) (.slot 2))⟩,⟨some 5,none,.val (.load (.agg 2) (.slot 1))⟩,⟨some 6,none,.call 170 [(.slot 4),(.slot 5)]⟩,⟨some 3,none,.val (.move (.slot 6))⟩]
def path_put_1:LFn:=⟨(.seq (.ops g149r0) (.seq (.ops g149r1) .ret)),7,[.slot 3]⟩
theorem path_put_1_low:aH Tryz.prog 169=some path_put_1:=by kernel_rfl
abbrev g150r0:List aA:=[⟨some 2,none,.box (.agg 2) (.slot 0)⟩,⟨some 3,none,.box (.agg 2) (.slot 1)⟩,⟨some 4,none,.val (.move (.const (.bool false)))⟩]
abbrev g150r1:List aA:=[⟨some 5,none,.val (.fldA 0 (.slot 2))⟩,⟨some 6,none,.val (.load .leaf (.slot 5))⟩,⟨some 7,none,.val (.move (.slot 6))⟩,⟨some 8,some (7,false),.val (.fldA 0 (.slot 3))⟩,⟨some 9,some (7,false),.val (.load .leaf (.slot 8))⟩,⟨some 10,some (7,false),.val (.not (.slot 9))⟩,⟨some 11,none,.val (.pick (.slot 7) (.const (.bool true)) (.slot 10))⟩,⟨some 12,none,.val (.move (.slot 11))⟩,⟨some 13,some (12,true),.val (.fldA 1 (.slot 2))⟩,⟨some 14,some (12,true),.val (.load .leaf (.slot 13))⟩,⟨some 15,some (12,true),.val (.fldA 1 (.slot 3))⟩,⟨some 16,some (12,true),.val (.load .leaf (.slot 15))⟩,⟨some 17,some (12,true),.val (.bin .leq (.slot 14) (.slot 16))⟩,⟨some 18,none,.val (.pick (.slot 12) (.slot 17) (.const (.bool false)))⟩,⟨some 4,none,.val (.move (.slot 18))⟩]
def stamp_Path_AtMost:LFn:=⟨(.seq (.ops g150r0) (.seq (.ops g150r1) .ret)),19,[.slot 4]⟩
theorem stamp_Path_AtMost_low:aH Tryz.prog 170=some stamp_Path_AtMost:=by kernel_rfl
abbrev g152r0:List aA:=[⟨some 2,none,.box (.agg 2) (.slot 0)⟩,⟨some 3,none,.val (.move (.const (.bool false)))⟩]
abbrev g152r1:List aA:=[⟨some 4,none,.val (.load (.agg 2) (.slot 1))⟩,⟨some 5,none,.val (.load (.agg 2) (.slot 2))⟩,⟨some 6,none,.call 170 [(.slot 4),(.slot 5)]⟩,⟨some 3,none,.val (.move (.slot 6))⟩]
def path_put_2:LFn:=⟨(.seq (.ops g152r0) (.seq (.ops g152r1) .ret)),7,[.slot 3]⟩
theorem path_put_2_low:aH Tryz.prog 172=some path_put_2:=by kernel_rfl
abbrev g154r0:List aA:=[⟨some 2,none,.box (.agg 2) (.slot 0)⟩,⟨some 3,none,.box (.agg 2) (.slot 1)⟩,⟨some 4,none,.val (.move (.const (.int .i64 0)))⟩]
abbrev g154r1:List (aA×List Nat):=[(⟨some 5,none,.val (.fldA 0 (.slot 2))⟩,[]),(⟨some 6,none,.val (.load .leaf (.slot 5))⟩,[0]),(⟨some 7,none,.call 143 [(.slot 6)]⟩,[0,1]),(⟨some 8,none,.val (.fldA 0 (.slot 3))⟩,[]),(⟨some 9,none,.val (.load .leaf (.slot 8))⟩,[3]),(⟨some 10,none,.call 143 [(.slot 9)]⟩,[0,1,2,3,4]),(⟨some 11,none,.val (.bin .sub (.slot 7) (.slot 10))⟩,[0,1,2,3,4,5]),(⟨some 4,none,.val (.move (.slot 11))⟩,[0,1,2,3,4,5,6])]
abbrev g154r1t:List aA:=[]
def path_put_3:LFn:=⟨(.seq (.ops g154r0) (.seq (.draw 8 g154r1 g154r1t) .ret)),12,[.slot 4]⟩
theorem path_put_3_low:aH Tryz.prog 174=some path_put_3:=by kernel_rfl
end L
end Go.Proofs.YthikfnmcjipobaaGreat
