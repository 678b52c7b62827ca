/-
The functions of the code, lowered: printed by a program, checked by the kernel. No conditions.
-/
import Derived.Test.YtmpmngakheoacaaKcb
import Derived.Test.YtmpmngakheoacaaProg
namespace Go.Proofs.Ytmpmngakheoacaa
open Go.RowKit
namespace L
abbrev corollarylaw22_PathAdds_r0 : List LOper := [
    ⟨some 3, none, .box (.agg 2) (.slot 0)⟩,
    ⟨some 4, none, .box (.agg 4) (.slot 1)⟩,
    ⟨some 5, none, .box (.agg 2) (.slot 2)⟩,
    ⟨some 6, none, .val (.move (.const (.bool false)))⟩]
abbrev corollarylaw22_PathAdds_r1 : List LOper := [
    ⟨some 15, none, .call 7 []⟩,
    ⟨some 16, none, .val (.not (.slot 15))⟩]
abbrev corollarylaw22_PathAdds_r2 : List LOper := [
    ⟨some 6, none, .val (.move (.const (.bool false)))⟩]
abbrev corollarylaw22_PathAdds_r3 : List LOper := [
    ⟨some 17, none, .val (.load (.agg 2) (.slot 3))⟩,
    ⟨some 18, none, .call 8 [(.slot 17)]⟩,
    ⟨some 19, none, .val (.move (.slot 18))⟩,
    ⟨some 20, some (19, false), .val (.load (.agg 2) (.slot 3))⟩,
    ⟨some 21, some (19, false), .call 14 [(.slot 20)]⟩,
    ⟨some 22, some (19, false), .val (.not (.slot 21))⟩,
    ⟨some 23, none, .val (.pick (.slot 19) (.const (.bool true)) (.slot 22))⟩]
abbrev corollarylaw22_PathAdds_r4 : List LOper := [
    ⟨some 6, none, .val (.move (.const (.bool true)))⟩]
abbrev corollarylaw22_PathAdds_r5 : List (LOper × List Nat) := [
    (⟨some 25, none, .val (.fldA 0 (.slot 3))⟩, []),
    (⟨some 26, none, .val (.load .leaf (.slot 25))⟩, [0]),
    (⟨some 27, none, .bslice (.agg 4) []⟩, []),
    (⟨some 28, none, .val (.fldA 1 (.slot 3))⟩, []),
    (⟨some 29, none, .val (.load .leaf (.slot 28))⟩, [3]),
    (⟨some 30, none, .append (.agg 4) 32 (.slot 27) (.slot 29)⟩, [2, 3, 4]),
    (⟨some 31, none, .val (.load (.agg 4) (.slot 4))⟩, []),
    (⟨some 32, none, .bslice (.agg 4) [(.slot 31)]⟩, [6]),
    (⟨some 33, none, .append (.agg 4) 32 (.slot 30) (.slot 32)⟩, [2, 3, 4, 5, 6, 7]),
    (⟨some 34, none, .callw 9 [(.slot 26), (.slot 33)] []⟩, [0, 1, 2, 3, 4, 5, 6, 7, 8]),
    (⟨some 24, none, .val (.move (.slot 34))⟩, [0, 1, 2, 3, 4, 5, 6, 7, 8, 9]),
    (⟨some 35, none, .val (.ext (.slot 24) 0)⟩, [0, 1, 2, 3, 4, 5, 6, 7, 8, 9, 10]),
    (⟨some 36, none, .val (.ext (.slot 24) 1)⟩, [0, 1, 2, 3, 4, 5, 6, 7, 8, 9, 10]),
    (⟨some 7, none, .box (.agg 2) (.const (.agg [(.int .i64 0), (.sl (.agg 4) .nil [])]))⟩, []),
    (⟨none, none, .store (.agg 2) (.slot 7) (.slot 35)⟩, [0, 1, 2, 3, 4, 5, 6, 7, 8, 9, 10, 11, 13]),
    (⟨some 8, none, .val (.move (.slot 36))⟩, [0, 1, 2, 3, 4, 5, 6, 7, 8, 9, 10, 11, 12, 13, 14])]
abbrev corollarylaw22_PathAdds_r5t : List LOper := []
abbrev corollarylaw22_PathAdds_r6 : List LOper := [
    ⟨some 37, none, .val (.move (.slot 8))⟩,
    ⟨some 38, none, .val (.eq true (.iface true) (.slot 37) (.const .nilIface))⟩]
abbrev corollarylaw22_PathAdds_r7 : List LOper := [
    ⟨some 39, none, .val (.fldA 1 (.slot 7))⟩,
    ⟨some 40, none, .val (.load .leaf (.slot 39))⟩,
    ⟨some 41, none, .val (.len (.slot 40))⟩,
    ⟨some 42, none, .val (.bin .eql (.slot 41) (.const (.int .i64 0)))⟩,
    ⟨some 6, none, .val (.move (.slot 42))⟩]
abbrev corollarylaw22_PathAdds_r8 : List LOper := [
    ⟨some 43, none, .val (.load (.agg 2) (.slot 7))⟩,
    ⟨some 44, none, .val (.idxP 2 .leaf (.slot 5) (.const (.int .i64 0)))⟩,
    ⟨some 45, none, .val (.load .leaf (.slot 44))⟩,
    ⟨some 46, none, .val (.idxP 2 .leaf (.slot 5) (.const (.int .i64 1)))⟩,
    ⟨some 47, none, .val (.load .leaf (.slot 46))⟩,
    ⟨some 48, none, .call 16 [(.slot 43), (.slot 45), (.slot 47)]⟩,
    ⟨some 9, none, .val (.move (.slot 48))⟩]
abbrev corollarylaw22_PathAdds_r9 : List LOper := [
    ⟨some 49, none, .val (.load (.agg 2) (.slot 3))⟩,
    ⟨some 50, none, .val (.idxP 2 .leaf (.slot 5) (.const (.int .i64 0)))⟩,
    ⟨some 51, none, .val (.load .leaf (.slot 50))⟩,
    ⟨some 52, none, .val (.idxP 2 .leaf (.slot 5) (.const (.int .i64 1)))⟩,
    ⟨some 53, none, .val (.load .leaf (.slot 52))⟩,
    ⟨some 54, none, .call 16 [(.slot 49), (.slot 51), (.slot 53)]⟩,
    ⟨some 55, none, .val (.len (.slot 54))⟩,
    ⟨some 56, none, .val (.move (.const (.int .i64 0)))⟩]
abbrev corollarylaw22_PathAdds_r10 : List LOper := [
    ⟨some 57, none, .val (.bin .lss (.slot 56) (.slot 55))⟩]
abbrev corollarylaw22_PathAdds_r11 : List LOper := [
    ⟨some 58, none, .val (.idxA (.agg 2) (.slot 54) (.slot 56))⟩,
    ⟨some 59, none, .val (.load (.agg 2) (.slot 58))⟩,
    ⟨some 11, none, .box (.agg 2) (.const (.agg [(.bool false), (.int .i64 0)]))⟩,
    ⟨none, none, .store (.agg 2) (.slot 11) (.slot 59)⟩]
abbrev corollarylaw22_PathAdds_r12 : List LOper := [
    ⟨some 12, none, .val (.move (.const (.bool false)))⟩]
abbrev corollarylaw22_PathAdds_r13 : List LOper := [
    ⟨some 60, none, .val (.move (.slot 9))⟩,
    ⟨some 61, none, .val (.len (.slot 60))⟩,
    ⟨some 62, none, .val (.move (.const (.int .i64 0)))⟩]
abbrev corollarylaw22_PathAdds_r14 : List LOper := [
    ⟨some 63, none, .val (.bin .lss (.slot 62) (.slot 61))⟩]
abbrev corollarylaw22_PathAdds_r15 : List LOper := [
    ⟨some 64, none, .val (.idxA (.agg 2) (.slot 60) (.slot 62))⟩,
    ⟨some 65, none, .val (.load (.agg 2) (.slot 64))⟩,
    ⟨some 14, none, .box (.agg 2) (.const (.agg [(.bool false), (.int .i64 0)]))⟩,
    ⟨none, none, .store (.agg 2) (.slot 14) (.slot 65)⟩]
abbrev corollarylaw22_PathAdds_r16 : List LOper := [
    ⟨some 66, none, .val (.move (.slot 12))⟩,
    ⟨some 67, none, .val (.move (.slot 66))⟩,
    ⟨some 68, some (67, false), .val (.load (.agg 2) (.slot 14))⟩,
    ⟨some 69, some (67, false), .val (.load (.agg 2) (.slot 11))⟩,
    ⟨some 70, some (67, false), .call 18 [(.slot 68), (.slot 69)]⟩,
    ⟨some 71, none, .val (.pick (.slot 67) (.const (.bool true)) (.slot 70))⟩,
    ⟨some 12, none, .val (.move (.slot 71))⟩]
abbrev corollarylaw22_PathAdds_r17 : List LOper := [
    ⟨some 72, none, .val (.bin .add (.slot 62) (.const (.int .i64 1)))⟩,
    ⟨some 62, none, .val (.move (.slot 72))⟩]
abbrev corollarylaw22_PathAdds_l0 : LCode := (.seq (.ops corollarylaw22_PathAdds_r14) (.seq (.cond (.slot 63) .skip (.exit 2)) (.seq (.block 3 (.seq (.ops corollarylaw22_PathAdds_r15) (.ops corollarylaw22_PathAdds_r16))) (.ops corollarylaw22_PathAdds_r17))))
abbrev corollarylaw22_PathAdds_r18 : List LOper := [
    ⟨some 73, none, .val (.move (.slot 12))⟩,
    ⟨some 74, none, .val (.not (.slot 73))⟩]
abbrev corollarylaw22_PathAdds_r19 : List LOper := [
    ⟨some 6, none, .val (.move (.const (.bool false)))⟩]
abbrev corollarylaw22_PathAdds_r20 : List LOper := [
    ⟨some 75, none, .val (.bin .add (.slot 56) (.const (.int .i64 1)))⟩,
    ⟨some 56, none, .val (.move (.slot 75))⟩]
abbrev corollarylaw22_PathAdds_l1 : LCode := (.seq (.ops corollarylaw22_PathAdds_r10) (.seq (.cond (.slot 57) .skip (.exit 0)) (.seq (.block 1 (.seq (.ops corollarylaw22_PathAdds_r11) (.seq (.ops corollarylaw22_PathAdds_r12) (.seq (.seq (.ops corollarylaw22_PathAdds_r13) (.block 2 (.loop corollarylaw22_PathAdds_l0))) (.seq (.ops corollarylaw22_PathAdds_r18) (.cond (.slot 74) (.seq (.ops corollarylaw22_PathAdds_r19) .ret) .skip)))))) (.ops corollarylaw22_PathAdds_r20))))
abbrev corollarylaw22_PathAdds_r21 : List LOper := [
    ⟨some 6, none, .val (.move (.const (.bool true)))⟩]
def corollarylaw22_PathAdds : LFn := ⟨(.seq (.ops corollarylaw22_PathAdds_r0) (.seq (.seq (.ops corollarylaw22_PathAdds_r1) (.cond (.slot 16) (.seq (.ops corollarylaw22_PathAdds_r2) .ret) .skip)) (.seq (.seq (.ops corollarylaw22_PathAdds_r3) (.cond (.slot 23) (.seq (.ops corollarylaw22_PathAdds_r4) .ret) .skip)) (.seq (.draw 16 corollarylaw22_PathAdds_r5 corollarylaw22_PathAdds_r5t) (.seq (.seq (.ops corollarylaw22_PathAdds_r6) (.cond (.slot 38) (.seq (.ops corollarylaw22_PathAdds_r7) .ret) .skip)) (.seq (.ops corollarylaw22_PathAdds_r8) (.seq (.seq (.ops corollarylaw22_PathAdds_r9) (.block 0 (.loop corollarylaw22_PathAdds_l1))) (.seq (.ops corollarylaw22_PathAdds_r21) .ret)))))))), 76, [.slot 6]⟩
theorem corollarylaw22_PathAdds_low : lowerFn Try.prog 5 = some corollarylaw22_PathAdds := by kernel_rfl

abbrev corollarylaw22_alive_r0 : List LOper := [
    ⟨some 0, none, .val (.move (.const (.bool false)))⟩]
abbrev corollarylaw22_alive_r1 : List LOper := [
    ⟨some 5, none, .val (.build [(.int .i64 0), (.int .i64 0), (.bool false), (.int .i64 0)] [(0, .leaf, (.const (.int .i64 0))), (1, .leaf, (.const (.int .i64 1)))])⟩,
    ⟨some 6, none, .val (.build [(.bool false), (.int .i64 0)] [(1, .leaf, (.const (.int .i64 1)))])⟩,
    ⟨some 7, none, .val (.build [(.int .i64 0), (.int .i64 0), (.bool false), (.int .i64 0)] [(0, .leaf, (.const (.int .i64 1))), (1, .leaf, (.const (.int .i64 0))), (2, (.agg 2), (.slot 6))])⟩,
    ⟨some 8, none, .bslice (.agg 4) [(.slot 5), (.slot 7)]⟩,
    ⟨some 9, none, .call 9 [(.const (.int .i64 2)), (.slot 8)]⟩,
    ⟨some 4, none, .val (.move (.slot 9))⟩,
    ⟨some 10, none, .val (.ext (.slot 4) 0)⟩,
    ⟨some 11, none, .val (.ext (.slot 4) 1)⟩,
    ⟨some 1, none, .box (.agg 2) (.const (.agg [(.int .i64 0), (.sl (.agg 4) .nil [])]))⟩,
    ⟨none, none, .store (.agg 2) (.slot 1) (.slot 10)⟩,
    ⟨some 2, none, .val (.move (.slot 11))⟩]
abbrev corollarylaw22_alive_r2 : List LOper := [
    ⟨some 12, none, .val (.load (.agg 2) (.slot 1))⟩,
    ⟨some 13, none, .call 16 [(.slot 12), (.const (.int .i64 0)), (.const (.int .i64 0))]⟩,
    ⟨some 3, none, .val (.move (.slot 13))⟩]
abbrev corollarylaw22_alive_r3 : List LOper := [
    ⟨some 14, none, .val (.move (.slot 2))⟩,
    ⟨some 15, none, .val (.eq false (.iface true) (.slot 14) (.const .nilIface))⟩,
    ⟨some 16, none, .val (.move (.slot 15))⟩,
    ⟨some 17, some (16, true), .val (.fldA 1 (.slot 1))⟩,
    ⟨some 18, some (16, true), .val (.load .leaf (.slot 17))⟩,
    ⟨some 19, some (16, true), .val (.len (.slot 18))⟩,
    ⟨some 20, some (16, true), .val (.bin .eql (.slot 19) (.const (.int .i64 2)))⟩,
    ⟨some 21, none, .val (.pick (.slot 16) (.slot 20) (.const (.bool false)))⟩,
    ⟨some 22, none, .val (.move (.slot 21))⟩,
    ⟨some 23, some (22, true), .val (.move (.slot 3))⟩,
    ⟨some 24, some (22, true), .val (.len (.slot 23))⟩,
    ⟨some 25, some (22, true), .val (.bin .eql (.slot 24) (.const (.int .i64 1)))⟩,
    ⟨some 26, none, .val (.pick (.slot 22) (.slot 25) (.const (.bool false)))⟩,
    ⟨some 27, none, .val (.move (.slot 26))⟩,
    ⟨some 28, some (27, true), .val (.move (.slot 3))⟩,
    ⟨some 29, some (27, true), .val (.idxA (.agg 2) (.slot 28) (.const (.int .i64 0)))⟩,
    ⟨some 30, some (27, true), .val (.load (.agg 2) (.slot 29))⟩,
    ⟨some 31, some (27, true), .val (.build [(.bool false), (.int .i64 0)] [])⟩,
    ⟨some 32, some (27, true), .val (.eq false (.plain (.agg 2) [.bool, .int]) (.slot 30) (.slot 31))⟩,
    ⟨some 33, none, .val (.pick (.slot 27) (.slot 32) (.const (.bool false)))⟩,
    ⟨some 0, none, .val (.move (.slot 33))⟩]
def corollarylaw22_alive : LFn := ⟨(.seq (.ops corollarylaw22_alive_r0) (.seq (.ops corollarylaw22_alive_r1) (.seq (.ops corollarylaw22_alive_r2) (.seq (.ops corollarylaw22_alive_r3) .ret)))), 34, [.slot 0]⟩
theorem corollarylaw22_alive_low : lowerFn Try.prog 7 = some corollarylaw22_alive := by kernel_rfl

abbrev corollarylaw22_Large_r0 : List LOper := [
    ⟨some 1, none, .box (.agg 2) (.slot 0)⟩,
    ⟨some 2, none, .val (.move (.const (.bool false)))⟩]
abbrev corollarylaw22_Large_r1 : List LOper := [
    ⟨some 3, none, .val (.fldA 0 (.slot 1))⟩,
    ⟨some 4, none, .val (.load .leaf (.slot 3))⟩,
    ⟨some 5, none, .val (.bin .gtr (.slot 4) (.const (.int .i64 14)))⟩,
    ⟨some 6, none, .val (.move (.slot 5))⟩,
    ⟨some 7, some (6, true), .val (.fldA 0 (.slot 1))⟩,
    ⟨some 8, some (6, true), .val (.load .leaf (.slot 7))⟩,
    ⟨some 9, some (6, true), .val (.bin .leq (.slot 8) (.const (.int .i64 200)))⟩,
    ⟨some 10, none, .val (.pick (.slot 6) (.slot 9) (.const (.bool false)))⟩,
    ⟨some 11, none, .val (.move (.slot 10))⟩,
    ⟨some 12, some (11, false), .val (.fldA 1 (.slot 1))⟩,
    ⟨some 13, some (11, false), .val (.load .leaf (.slot 12))⟩,
    ⟨some 14, some (11, false), .val (.len (.slot 13))⟩,
    ⟨some 15, some (11, false), .val (.bin .gtr (.slot 14) (.const (.int .i64 40)))⟩,
    ⟨some 16, none, .val (.pick (.slot 11) (.const (.bool true)) (.slot 15))⟩,
    ⟨some 2, none, .val (.move (.slot 16))⟩]
def corollarylaw22_Large : LFn := ⟨(.seq (.ops corollarylaw22_Large_r0) (.seq (.ops corollarylaw22_Large_r1) .ret)), 17, [.slot 2]⟩
theorem corollarylaw22_Large_low : lowerFn Try.prog 8 = some corollarylaw22_Large := by kernel_rfl

abbrev path_New_r0 : List LOper := [
    ⟨some 2, none, .box .leaf (.slot 0)⟩,
    ⟨some 4, none, .box (.agg 2) (.const (.agg [(.int .i64 0), (.sl (.agg 4) .nil [])]))⟩,
    ⟨some 5, none, .val (.move (.const .nilIface))⟩]
abbrev path_New_r1 : List LOper := [
    ⟨some 8, none, .val (.mkfn (.func 24) [] [(.slot 2)])⟩,
    ⟨some 6, none, .val (.move (.slot 8))⟩]
abbrev path_New_r2 : List LOper := [
    ⟨some 9, none, .val (.load .leaf (.slot 2))⟩,
    ⟨some 10, none, .val (.bin .lss (.slot 9) (.const (.int .i64 0)))⟩,
    ⟨some 11, none, .val (.move (.slot 10))⟩,
    ⟨some 12, some (11, false), .val (.load .leaf (.slot 2))⟩,
    ⟨some 13, some (11, false), .val (.bin .gtr (.slot 12) (.const (.int .i64 200)))⟩,
    ⟨some 14, none, .val (.pick (.slot 11) (.const (.bool true)) (.slot 13))⟩,
    ⟨some 15, none, .val (.move (.slot 14))⟩,
    ⟨some 16, some (15, false), .val (.move (.slot 1))⟩,
    ⟨some 17, some (15, false), .val (.move (.slot 6))⟩,
    ⟨some 18, some (15, false), .call 26 [(.slot 16), (.slot 17)]⟩,
    ⟨some 19, none, .val (.pick (.slot 15) (.const (.bool true)) (.slot 18))⟩]
abbrev path_New_r3 : List LOper := [
    ⟨some 20, none, .val (.build [(.int .i64 0), (.sl (.agg 4) .nil [])] [])⟩,
    ⟨some 21, none, .val (.mkif 72 (.const (.int .i64 1)))⟩,
    ⟨none, none, .store (.agg 2) (.slot 4) (.slot 20)⟩,
    ⟨some 5, none, .val (.move (.slot 21))⟩]
abbrev path_New_r4 : List LOper := [
    ⟨some 22, none, .val (.move (.slot 1))⟩,
    ⟨some 23, none, .call 29 [(.slot 22)]⟩,
    ⟨some 24, none, .call 28 [(.slot 23), (.const (.fn (.func 30) [] []))]⟩,
    ⟨some 25, none, .call 27 [(.slot 24)]⟩,
    ⟨some 7, none, .val (.move (.slot 25))⟩]
abbrev path_New_r5 : List LOper := [
    ⟨some 26, none, .val (.move (.slot 7))⟩,
    ⟨some 27, none, .call 31 [(.slot 26)]⟩,
    ⟨some 28, none, .val (.bin .gtr (.slot 27) (.const (.int .i64 1048576)))⟩]
abbrev path_New_r6 : List LOper := [
    ⟨some 29, none, .val (.build [(.int .i64 0), (.sl (.agg 4) .nil [])] [])⟩,
    ⟨some 30, none, .val (.mkif 72 (.const (.int .i64 1)))⟩,
    ⟨none, none, .store (.agg 2) (.slot 4) (.slot 29)⟩,
    ⟨some 5, none, .val (.move (.slot 30))⟩]
abbrev path_New_r7 : List LOper := [
    ⟨some 31, none, .val (.load .leaf (.slot 2))⟩,
    ⟨some 32, none, .val (.move (.slot 7))⟩,
    ⟨some 33, none, .call 32 [(.slot 31), (.slot 32)]⟩,
    ⟨some 34, none, .val (.move (.slot 33))⟩,
    ⟨some 35, some (34, false), .val (.load .leaf (.slot 2))⟩,
    ⟨some 36, some (34, false), .val (.move (.slot 7))⟩,
    ⟨some 37, some (34, false), .call 33 [(.slot 35), (.slot 36)]⟩,
    ⟨some 38, none, .val (.pick (.slot 34) (.const (.bool true)) (.slot 37))⟩]
abbrev path_New_r8 : List LOper := [
    ⟨some 39, none, .val (.build [(.int .i64 0), (.sl (.agg 4) .nil [])] [])⟩,
    ⟨some 40, none, .val (.mkif 72 (.const (.int .i64 9)))⟩,
    ⟨none, none, .store (.agg 2) (.slot 4) (.slot 39)⟩,
    ⟨some 5, none, .val (.move (.slot 40))⟩]
abbrev path_New_r9 : List LOper := [
    ⟨some 41, none, .val (.load .leaf (.slot 2))⟩,
    ⟨some 42, none, .val (.move (.slot 7))⟩,
    ⟨some 43, none, .val (.build [(.int .i64 0), (.sl (.agg 4) .nil [])] [(0, .leaf, (.slot 41)), (1, .leaf, (.slot 42))])⟩,
    ⟨none, none, .store (.agg 2) (.slot 4) (.slot 43)⟩,
    ⟨some 5, none, .val (.move (.const .nilIface))⟩]
def path_New : LFn := ⟨(.seq (.ops path_New_r0) (.seq (.ops path_New_r1) (.seq (.seq (.ops path_New_r2) (.cond (.slot 19) (.seq (.ops path_New_r3) .ret) .skip)) (.seq (.ops path_New_r4) (.seq (.seq (.ops path_New_r5) (.cond (.slot 28) (.seq (.ops path_New_r6) .ret) .skip)) (.seq (.seq (.ops path_New_r7) (.cond (.slot 38) (.seq (.ops path_New_r8) .ret) .skip)) (.seq (.ops path_New_r9) .ret))))))), 44, [.cell 4 (.agg 2), .slot 5]⟩
theorem path_New_low : lowerFn Try.prog 9 = some path_New := by kernel_rfl

abbrev path_Right_r0 : List LOper := [
    ⟨some 1, none, .box (.agg 2) (.slot 0)⟩,
    ⟨some 2, none, .val (.move (.const (.bool false)))⟩]
abbrev path_Right_r1 : List LOper := [
    ⟨some 6, none, .val (.fldA 0 (.slot 1))⟩,
    ⟨some 7, none, .val (.load .leaf (.slot 6))⟩,
    ⟨some 8, none, .val (.fldA 1 (.slot 1))⟩,
    ⟨some 9, none, .val (.load .leaf (.slot 8))⟩,
    ⟨some 10, none, .call 9 [(.slot 7), (.slot 9)]⟩,
    ⟨some 5, none, .val (.move (.slot 10))⟩,
    ⟨some 11, none, .val (.ext (.slot 5) 0)⟩,
    ⟨some 12, none, .val (.ext (.slot 5) 1)⟩,
    ⟨some 3, none, .box (.agg 2) (.const (.agg [(.int .i64 0), (.sl (.agg 4) .nil [])]))⟩,
    ⟨none, none, .store (.agg 2) (.slot 3) (.slot 11)⟩,
    ⟨some 4, none, .val (.move (.slot 12))⟩]
abbrev path_Right_r2 : List LOper := [
    ⟨some 13, none, .val (.move (.slot 4))⟩,
    ⟨some 14, none, .val (.eq false (.iface true) (.slot 13) (.const .nilIface))⟩,
    ⟨some 15, none, .val (.move (.slot 14))⟩,
    ⟨some 16, some (15, true), .val (.fldA 1 (.slot 3))⟩,
    ⟨some 17, some (15, true), .val (.load .leaf (.slot 16))⟩,
    ⟨some 18, some (15, true), .val (.fldA 1 (.slot 1))⟩,
    ⟨some 19, some (15, true), .val (.load .leaf (.slot 18))⟩,
    ⟨some 20, some (15, true), .call 37 [(.slot 17), (.slot 19)]⟩,
    ⟨some 21, none, .val (.pick (.slot 15) (.slot 20) (.const (.bool false)))⟩,
    ⟨some 2, none, .val (.move (.slot 21))⟩]
def path_Right : LFn := ⟨(.seq (.ops path_Right_r0) (.seq (.ops path_Right_r1) (.seq (.ops path_Right_r2) .ret))), 22, [.slot 2]⟩
theorem path_Right_low : lowerFn Try.prog 14 = some path_Right := by kernel_rfl

abbrev path_Least_r0 : List LOper := [
    ⟨some 3, none, .box (.agg 2) (.slot 0)⟩,
    ⟨some 6, none, .val (.move (.const (.sl (.agg 2) .nil [])))⟩]
abbrev path_Least_r1 : List LOper := [
    ⟨some 7, none, .val (.load (.agg 2) (.slot 3))⟩,
    ⟨some 8, none, .call 14 [(.slot 7)]⟩,
    ⟨some 9, none, .val (.not (.slot 8))⟩,
    ⟨some 10, none, .val (.move (.slot 9))⟩,
    ⟨some 11, some (10, false), .val (.move (.slot 1))⟩,
    ⟨some 12, some (10, false), .val (.bin .lss (.slot 11) (.const (.int .i64 0)))⟩,
    ⟨some 13, none, .val (.pick (.slot 10) (.const (.bool true)) (.slot 12))⟩,
    ⟨some 14, none, .val (.move (.slot 13))⟩,
    ⟨some 15, some (14, false), .val (.move (.slot 1))⟩,
    ⟨some 16, some (14, false), .val (.fldA 0 (.slot 3))⟩,
    ⟨some 17, some (14, false), .val (.load .leaf (.slot 16))⟩,
    ⟨some 18, some (14, false), .val (.bin .geq (.slot 15) (.slot 17))⟩,
    ⟨some 19, none, .val (.pick (.slot 14) (.const (.bool true)) (.slot 18))⟩,
    ⟨some 20, none, .val (.move (.slot 19))⟩,
    ⟨some 21, some (20, false), .val (.move (.slot 2))⟩,
    ⟨some 22, some (20, false), .val (.bin .lss (.slot 21) (.const (.int .i64 0)))⟩,
    ⟨some 23, none, .val (.pick (.slot 20) (.const (.bool true)) (.slot 22))⟩,
    ⟨some 24, none, .val (.move (.slot 23))⟩,
    ⟨some 25, some (24, false), .val (.move (.slot 2))⟩,
    ⟨some 26, some (24, false), .val (.fldA 0 (.slot 3))⟩,
    ⟨some 27, some (24, false), .val (.load .leaf (.slot 26))⟩,
    ⟨some 28, some (24, false), .val (.bin .geq (.slot 25) (.slot 27))⟩,
    ⟨some 29, none, .val (.pick (.slot 24) (.const (.bool true)) (.slot 28))⟩]
abbrev path_Least_r2 : List LOper := [
    ⟨some 6, none, .val (.move (.const (.sl (.agg 2) .nil [])))⟩]
abbrev path_Least_r3 : List LOper := [
    ⟨some 30, none, .val (.load (.agg 2) (.slot 3))⟩,
    ⟨some 31, none, .val (.move (.slot 1))⟩,
    ⟨some 32, none, .call 38 [(.slot 30), (.slot 31)]⟩,
    ⟨some 33, none, .val (.move (.slot 2))⟩,
    ⟨some 34, none, .val (.idxA .leaf (.slot 32) (.slot 33))⟩,
    ⟨some 35, none, .val (.load .leaf (.slot 34))⟩,
    ⟨some 6, none, .val (.move (.slot 35))⟩]
def path_Least : LFn := ⟨(.seq (.ops path_Least_r0) (.seq (.seq (.ops path_Least_r1) (.cond (.slot 29) (.seq (.ops path_Least_r2) .ret) .skip)) (.seq (.ops path_Least_r3) .ret))), 36, [.slot 6]⟩
theorem path_Least_low : lowerFn Try.prog 16 = some path_Least := by kernel_rfl

abbrev stamp_Path_Then_r0 : List LOper := [
    ⟨some 2, none, .box (.agg 2) (.slot 0)⟩,
    ⟨some 3, none, .box (.agg 2) (.slot 1)⟩,
    ⟨some 4, none, .box (.agg 2) (.const (.agg [(.bool false), (.int .i64 0)]))⟩,
    ⟨some 5, none, .val (.move (.const .nilIface))⟩]
abbrev stamp_Path_Then_r1 : List LOper := [
    ⟨some 7, none, .val (.load (.agg 2) (.slot 2))⟩,
    ⟨some 8, none, .call 39 [(.slot 7)]⟩,
    ⟨some 9, none, .val (.not (.slot 8))⟩,
    ⟨some 10, none, .val (.move (.slot 9))⟩,
    ⟨some 11, some (10, false), .val (.load (.agg 2) (.slot 3))⟩,
    ⟨some 12, some (10, false), .call 39 [(.slot 11)]⟩,
    ⟨some 13, some (10, false), .val (.not (.slot 12))⟩,
    ⟨some 14, none, .val (.pick (.slot 10) (.const (.bool true)) (.slot 13))⟩]
abbrev stamp_Path_Then_r2 : List LOper := [
    ⟨some 15, none, .val (.build [(.bool false), (.int .i64 0)] [])⟩,
    ⟨some 16, none, .val (.mkif 72 (.const (.int .i64 2)))⟩,
    ⟨none, none, .store (.agg 2) (.slot 4) (.slot 15)⟩,
    ⟨some 5, none, .val (.move (.slot 16))⟩]
abbrev stamp_Path_Then_r3 : List LOper := [
    ⟨some 17, none, .val (.fldA 0 (.slot 3))⟩,
    ⟨some 18, none, .val (.load .leaf (.slot 17))⟩]
abbrev stamp_Path_Then_r4 : List LOper := [
    ⟨some 19, none, .val (.load (.agg 2) (.slot 3))⟩,
    ⟨none, none, .store (.agg 2) (.slot 4) (.slot 19)⟩,
    ⟨some 5, none, .val (.move (.const .nilIface))⟩]
abbrev stamp_Path_Then_r5 : List LOper := [
    ⟨some 20, none, .val (.fldA 0 (.slot 2))⟩,
    ⟨some 21, none, .val (.load .leaf (.slot 20))⟩,
    ⟨some 22, none, .val (.fldA 1 (.slot 2))⟩,
    ⟨some 23, none, .val (.load .leaf (.slot 22))⟩,
    ⟨some 24, none, .val (.fldA 1 (.slot 3))⟩,
    ⟨some 25, none, .val (.load .leaf (.slot 24))⟩,
    ⟨some 26, none, .val (.bin .add (.slot 23) (.slot 25))⟩,
    ⟨some 27, none, .val (.build [(.bool false), (.int .i64 0)] [(0, .leaf, (.slot 21)), (1, .leaf, (.slot 26))])⟩,
    ⟨some 6, none, .box (.agg 2) (.const (.agg [(.bool false), (.int .i64 0)]))⟩,
    ⟨none, none, .store (.agg 2) (.slot 6) (.slot 27)⟩]
abbrev stamp_Path_Then_r6 : List LOper := [
    ⟨some 28, none, .val (.load (.agg 2) (.slot 6))⟩,
    ⟨some 29, none, .call 39 [(.slot 28)]⟩,
    ⟨some 30, none, .val (.not (.slot 29))⟩]
abbrev stamp_Path_Then_r7 : List LOper := [
    ⟨some 31, none, .val (.build [(.bool false), (.int .i64 0)] [])⟩,
    ⟨some 32, none, .val (.mkif 72 (.const (.int .i64 1)))⟩,
    ⟨none, none, .store (.agg 2) (.slot 4) (.slot 31)⟩,
    ⟨some 5, none, .val (.move (.slot 32))⟩]
abbrev stamp_Path_Then_r8 : List LOper := [
    ⟨some 33, none, .val (.load (.agg 2) (.slot 6))⟩,
    ⟨none, none, .store (.agg 2) (.slot 4) (.slot 33)⟩,
    ⟨some 5, none, .val (.move (.const .nilIface))⟩]
def stamp_Path_Then : LFn := ⟨(.seq (.ops stamp_Path_Then_r0) (.seq (.seq (.ops stamp_Path_Then_r1) (.cond (.slot 14) (.seq (.ops stamp_Path_Then_r2) .ret) .skip)) (.seq (.seq (.ops stamp_Path_Then_r3) (.cond (.slot 18) (.seq (.ops stamp_Path_Then_r4) .ret) .skip)) (.seq (.ops stamp_Path_Then_r5) (.seq (.seq (.ops stamp_Path_Then_r6) (.cond (.slot 30) (.seq (.ops stamp_Path_Then_r7) .ret) .skip)) (.seq (.ops stamp_Path_Then_r8) .ret)))))), 34, [.cell 4 (.agg 2), .slot 5]⟩
theorem stamp_Path_Then_low : lowerFn Try.prog 17 = some stamp_Path_Then := by kernel_rfl

abbrev stamp_Path_AtMost_r0 : List LOper := [
    ⟨some 2, none, .box (.agg 2) (.slot 0)⟩,
    ⟨some 3, none, .box (.agg 2) (.slot 1)⟩,
    ⟨some 4, none, .val (.move (.const (.bool false)))⟩]
abbrev stamp_Path_AtMost_r1 : List LOper := [
    ⟨some 5, none, .val (.fldA 0 (.slot 2))⟩,
    ⟨some 6, none, .val (.load .leaf (.slot 5))⟩,
    ⟨some 7, none, .val (.move (.slot 6))⟩,
    ⟨some 8, some (7, false), .val (.fldA 0 (.slot 3))⟩,
    ⟨some 9, some (7, false), .val (.load .leaf (.slot 8))⟩,
    ⟨some 10, some (7, false), .val (.not (.slot 9))⟩,
    ⟨some 11, none, .val (.pick (.slot 7) (.const (.bool true)) (.slot 10))⟩,
    ⟨some 12, none, .val (.move (.slot 11))⟩,
    ⟨some 13, some (12, true), .val (.fldA 1 (.slot 2))⟩,
    ⟨some 14, some (12, true), .val (.load .leaf (.slot 13))⟩,
    ⟨some 15, some (12, true), .val (.fldA 1 (.slot 3))⟩,
    ⟨some 16, some (12, true), .val (.load .leaf (.slot 15))⟩,
    ⟨some 17, some (12, true), .val (.bin .leq (.slot 14) (.slot 16))⟩,
    ⟨some 18, none, .val (.pick (.slot 12) (.slot 17) (.const (.bool false)))⟩,
    ⟨some 4, none, .val (.move (.slot 18))⟩]
def stamp_Path_AtMost : LFn := ⟨(.seq (.ops stamp_Path_AtMost_r0) (.seq (.ops stamp_Path_AtMost_r1) .ret)), 19, [.slot 4]⟩
theorem stamp_Path_AtMost_low : lowerFn Try.prog 18 = some stamp_Path_AtMost := by kernel_rfl

abbrev path_New_1_r0 : List LOper := [
    ⟨some 2, none, .box (.agg 4) (.slot 0)⟩,
    ⟨some 3, none, .val (.move (.const (.bool false)))⟩]
abbrev path_New_1_r1 : List LOper := [
    ⟨some 4, none, .val (.load (.agg 4) (.slot 2))⟩,
    ⟨some 5, none, .val (.load .leaf (.slot 1))⟩,
    ⟨some 6, none, .call 25 [(.slot 4), (.slot 5)]⟩,
    ⟨some 7, none, .val (.not (.slot 6))⟩,
    ⟨some 3, none, .val (.move (.slot 7))⟩]
def path_New_1 : LFn := ⟨(.seq (.ops path_New_1_r0) (.seq (.ops path_New_1_r1) .ret)), 8, [.slot 3]⟩
theorem path_New_1_low : lowerFn Try.prog 24 = some path_New_1 := by kernel_rfl

abbrev path_within_r0 : List LOper := [
    ⟨some 2, none, .box (.agg 4) (.slot 0)⟩,
    ⟨some 4, none, .val (.move (.const (.bool false)))⟩]
abbrev path_within_r1 : List LOper := [
    ⟨some 5, none, .val (.fldA 0 (.slot 2))⟩,
    ⟨some 6, none, .val (.load .leaf (.slot 5))⟩,
    ⟨some 7, none, .val (.bin .geq (.slot 6) (.const (.int .i64 0)))⟩,
    ⟨some 8, none, .val (.move (.slot 7))⟩,
    ⟨some 9, some (8, true), .val (.fldA 0 (.slot 2))⟩,
    ⟨some 10, some (8, true), .val (.load .leaf (.slot 9))⟩,
    ⟨some 11, some (8, true), .val (.move (.slot 1))⟩,
    ⟨some 12, some (8, true), .val (.bin .lss (.slot 10) (.slot 11))⟩,
    ⟨some 13, none, .val (.pick (.slot 8) (.slot 12) (.const (.bool false)))⟩,
    ⟨some 14, none, .val (.move (.slot 13))⟩,
    ⟨some 15, some (14, true), .val (.fldA 1 (.slot 2))⟩,
    ⟨some 16, some (14, true), .val (.load .leaf (.slot 15))⟩,
    ⟨some 17, some (14, true), .val (.bin .geq (.slot 16) (.const (.int .i64 0)))⟩,
    ⟨some 18, none, .val (.pick (.slot 14) (.slot 17) (.const (.bool false)))⟩,
    ⟨some 19, none, .val (.move (.slot 18))⟩,
    ⟨some 20, some (19, true), .val (.fldA 1 (.slot 2))⟩,
    ⟨some 21, some (19, true), .val (.load .leaf (.slot 20))⟩,
    ⟨some 22, some (19, true), .val (.move (.slot 1))⟩,
    ⟨some 23, some (19, true), .val (.bin .lss (.slot 21) (.slot 22))⟩,
    ⟨some 24, none, .val (.pick (.slot 19) (.slot 23) (.const (.bool false)))⟩,
    ⟨some 25, none, .val (.move (.slot 24))⟩,
    ⟨some 26, some (25, true), .val (.fldA 2 (.slot 2))⟩,
    ⟨some 27, some (25, true), .val (.load (.agg 2) (.slot 26))⟩,
    ⟨some 28, some (25, true), .call 39 [(.slot 27)]⟩,
    ⟨some 29, none, .val (.pick (.slot 25) (.slot 28) (.const (.bool false)))⟩,
    ⟨some 4, none, .val (.move (.slot 29))⟩]
def path_within : LFn := ⟨(.seq (.ops path_within_r0) (.seq (.ops path_within_r1) .ret)), 30, [.slot 4]⟩
theorem path_within_low : lowerFn Try.prog 25 = some path_within := by kernel_rfl

abbrev slices_Compact_path_Way_path_Way_r0 : List LOper := [
    ⟨some 2, none, .val (.move (.const (.sl (.agg 4) .nil [])))⟩]
abbrev slices_Compact_path_Way_path_Way_r1 : List LOper := [
    ⟨some 6, none, .val (.move (.slot 0))⟩,
    ⟨some 7, none, .val (.len (.slot 6))⟩,
    ⟨some 8, none, .val (.bin .lss (.slot 7) (.const (.int .i64 2)))⟩]
abbrev slices_Compact_path_Way_path_Way_r2 : List LOper := [
    ⟨some 9, none, .val (.move (.slot 0))⟩,
    ⟨some 2, none, .val (.move (.slot 9))⟩]
abbrev slices_Compact_path_Way_path_Way_r3 : List LOper := [
    ⟨some 3, none, .val (.move (.const (.int .i64 1)))⟩]
abbrev slices_Compact_path_Way_path_Way_r4 : List LOper := [
    ⟨some 10, none, .val (.move (.slot 3))⟩,
    ⟨some 11, none, .val (.move (.slot 0))⟩,
    ⟨some 12, none, .val (.len (.slot 11))⟩,
    ⟨some 13, none, .val (.bin .lss (.slot 10) (.slot 12))⟩]
abbrev slices_Compact_path_Way_path_Way_r5 : List (LOper × List Nat) := [
    (⟨some 16, none, .val (.move (.slot 0))⟩, []),
    (⟨some 17, none, .val (.move (.slot 3))⟩, []),
    (⟨some 18, none, .val (.idxA (.agg 4) (.slot 16) (.slot 17))⟩, [0, 1]),
    (⟨some 19, none, .val (.load (.agg 4) (.slot 18))⟩, [0, 1, 2]),
    (⟨some 20, none, .val (.move (.slot 0))⟩, []),
    (⟨some 21, none, .val (.move (.slot 3))⟩, []),
    (⟨some 22, none, .val (.bin .sub (.slot 21) (.const (.int .i64 1)))⟩, [5]),
    (⟨some 23, none, .val (.idxA (.agg 4) (.slot 20) (.slot 22))⟩, [4, 5, 6]),
    (⟨some 24, none, .val (.load (.agg 4) (.slot 23))⟩, [4, 5, 6, 7]),
    (⟨some 25, none, .val (.eq false (.plain (.agg 4) [.int, .int, .bool, .int]) (.slot 19) (.slot 24))⟩, [0, 1, 2, 3, 4, 5, 6, 7, 8])]
abbrev slices_Compact_path_Way_path_Way_r5t : List LOper := []
abbrev slices_Compact_path_Way_path_Way_r6 : List LOper := [
    ⟨some 26, none, .val (.move (.slot 0))⟩,
    ⟨some 27, none, .val (.move (.slot 3))⟩,
    ⟨some 28, none, .val (.slc (.agg 4) (.slot 26) (.some (.slot 27)) .none .none)⟩,
    ⟨some 4, none, .val (.move (.slot 28))⟩]
abbrev slices_Compact_path_Way_path_Way_r7 : List LOper := [
    ⟨some 5, none, .val (.move (.const (.int .i64 1)))⟩]
abbrev slices_Compact_path_Way_path_Way_r8 : List LOper := [
    ⟨some 29, none, .val (.move (.slot 5))⟩,
    ⟨some 30, none, .val (.move (.slot 4))⟩,
    ⟨some 31, none, .val (.len (.slot 30))⟩,
    ⟨some 32, none, .val (.bin .lss (.slot 29) (.slot 31))⟩]
abbrev slices_Compact_path_Way_path_Way_r9 : List (LOper × List Nat) := [
    (⟨some 35, none, .val (.move (.slot 4))⟩, []),
    (⟨some 36, none, .val (.move (.slot 5))⟩, []),
    (⟨some 37, none, .val (.idxA (.agg 4) (.slot 35) (.slot 36))⟩, [0, 1]),
    (⟨some 38, none, .val (.load (.agg 4) (.slot 37))⟩, [0, 1, 2]),
    (⟨some 39, none, .val (.move (.slot 4))⟩, []),
    (⟨some 40, none, .val (.move (.slot 5))⟩, []),
    (⟨some 41, none, .val (.bin .sub (.slot 40) (.const (.int .i64 1)))⟩, [5]),
    (⟨some 42, none, .val (.idxA (.agg 4) (.slot 39) (.slot 41))⟩, [4, 5, 6]),
    (⟨some 43, none, .val (.load (.agg 4) (.slot 42))⟩, [4, 5, 6, 7]),
    (⟨some 44, none, .val (.eq true (.plain (.agg 4) [.int, .int, .bool, .int]) (.slot 38) (.slot 43))⟩, [0, 1, 2, 3, 4, 5, 6, 7, 8])]
abbrev slices_Compact_path_Way_path_Way_r9t : List LOper := []
abbrev slices_Compact_path_Way_path_Way_r10 : List LOper := [
    ⟨some 45, none, .val (.move (.slot 0))⟩,
    ⟨some 46, none, .val (.move (.slot 3))⟩,
    ⟨some 47, none, .val (.move (.slot 4))⟩,
    ⟨some 48, none, .val (.move (.slot 5))⟩,
    ⟨some 49, none, .val (.idxA (.agg 4) (.slot 47) (.slot 48))⟩,
    ⟨some 50, none, .val (.load (.agg 4) (.slot 49))⟩,
    ⟨some 51, none, .val (.idxA (.agg 4) (.slot 45) (.slot 46))⟩,
    ⟨none, none, .store (.agg 4) (.slot 51) (.slot 50)⟩]
abbrev slices_Compact_path_Way_path_Way_r11 : List LOper := [
    ⟨some 52, none, .val (.move (.slot 3))⟩,
    ⟨some 53, none, .val (.bin .add (.slot 52) (.const (.int .i64 1)))⟩,
    ⟨some 3, none, .val (.move (.slot 53))⟩]
abbrev slices_Compact_path_Way_path_Way_r12 : List LOper := [
    ⟨some 33, none, .val (.move (.slot 5))⟩,
    ⟨some 34, none, .val (.bin .add (.slot 33) (.const (.int .i64 1)))⟩,
    ⟨some 5, none, .val (.move (.slot 34))⟩]
abbrev slices_Compact_path_Way_path_Way_l0 : LCode := (.seq (.seq (.ops slices_Compact_path_Way_path_Way_r8) (.cond (.slot 32) .skip (.exit 2))) (.seq (.block 3 (.seq (.draw 10 slices_Compact_path_Way_path_Way_r9 slices_Compact_path_Way_path_Way_r9t) (.cond (.slot 44) (.seq (.ops slices_Compact_path_Way_path_Way_r10) (.ops slices_Compact_path_Way_path_Way_r11)) .skip))) (.ops slices_Compact_path_Way_path_Way_r12)))
abbrev slices_Compact_path_Way_path_Way_r13 : List LOper := [
    ⟨some 54, none, .val (.move (.slot 0))⟩,
    ⟨some 55, none, .val (.move (.slot 3))⟩,
    ⟨some 56, none, .val (.slc (.agg 4) (.slot 54) (.some (.slot 55)) .none .none)⟩,
    ⟨none, none, .clear (.agg 4) (.slot 56) (.agg [(.int .i64 0), (.int .i64 0), (.bool false), (.int .i64 0)])⟩]
abbrev slices_Compact_path_Way_path_Way_r14 : List LOper := [
    ⟨some 57, none, .val (.move (.slot 0))⟩,
    ⟨some 58, none, .val (.move (.slot 3))⟩,
    ⟨some 59, none, .val (.slc (.agg 4) (.slot 57) .none (.some (.slot 58)) .none)⟩,
    ⟨some 2, none, .val (.move (.slot 59))⟩]
abbrev slices_Compact_path_Way_path_Way_r15 : List LOper := [
    ⟨some 14, none, .val (.move (.slot 3))⟩,
    ⟨some 15, none, .val (.bin .add (.slot 14) (.const (.int .i64 1)))⟩,
    ⟨some 3, none, .val (.move (.slot 15))⟩]
abbrev slices_Compact_path_Way_path_Way_l1 : LCode := (.seq (.seq (.ops slices_Compact_path_Way_path_Way_r4) (.cond (.slot 13) .skip (.exit 0))) (.seq (.block 1 (.seq (.draw 10 slices_Compact_path_Way_path_Way_r5 slices_Compact_path_Way_path_Way_r5t) (.cond (.slot 25) (.seq (.ops slices_Compact_path_Way_path_Way_r6) (.seq (.seq (.ops slices_Compact_path_Way_path_Way_r7) (.block 2 (.loop slices_Compact_path_Way_path_Way_l0))) (.seq (.ops slices_Compact_path_Way_path_Way_r13) (.seq (.ops slices_Compact_path_Way_path_Way_r14) .ret)))) .skip))) (.ops slices_Compact_path_Way_path_Way_r15)))
abbrev slices_Compact_path_Way_path_Way_r16 : List LOper := [
    ⟨some 60, none, .val (.move (.slot 0))⟩,
    ⟨some 2, none, .val (.move (.slot 60))⟩]
def slices_Compact_path_Way_path_Way : LFn := ⟨(.seq (.ops slices_Compact_path_Way_path_Way_r0) (.seq (.seq (.ops slices_Compact_path_Way_path_Way_r1) (.cond (.slot 8) (.seq (.ops slices_Compact_path_Way_path_Way_r2) .ret) .skip)) (.seq (.seq (.ops slices_Compact_path_Way_path_Way_r3) (.block 0 (.loop slices_Compact_path_Way_path_Way_l1))) (.seq (.ops slices_Compact_path_Way_path_Way_r16) .ret)))), 61, [.slot 2]⟩
theorem slices_Compact_path_Way_path_Way_low : lowerFn Try.prog 27 = some slices_Compact_path_Way_path_Way := by kernel_rfl

abbrev path_order_r0 : List LOper := [
    ⟨some 2, none, .box (.agg 4) (.slot 0)⟩,
    ⟨some 3, none, .box (.agg 4) (.slot 1)⟩,
    ⟨some 4, none, .val (.move (.const (.int .i64 0)))⟩]
abbrev path_order_r1 : List (LOper × List Nat) := [
    (⟨some 5, none, .val (.fldA 0 (.slot 2))⟩, []),
    (⟨some 6, none, .val (.load .leaf (.slot 5))⟩, [0]),
    (⟨some 7, none, .val (.fldA 0 (.slot 3))⟩, []),
    (⟨some 8, none, .val (.load .leaf (.slot 7))⟩, [2]),
    (⟨some 9, none, .call 49 [(.slot 6), (.slot 8)]⟩, [0, 1, 2, 3]),
    (⟨some 10, none, .val (.fldA 1 (.slot 2))⟩, []),
    (⟨some 11, none, .val (.load .leaf (.slot 10))⟩, [5]),
    (⟨some 12, none, .val (.fldA 1 (.slot 3))⟩, []),
    (⟨some 13, none, .val (.load .leaf (.slot 12))⟩, [7]),
    (⟨some 14, none, .call 49 [(.slot 11), (.slot 13)]⟩, [0, 1, 2, 3, 4, 5, 6, 7, 8]),
    (⟨some 15, none, .val (.fldA 2 (.slot 2))⟩, []),
    (⟨some 16, none, .val (.fldA 0 (.slot 15))⟩, [10]),
    (⟨some 17, none, .val (.load .leaf (.slot 16))⟩, [10, 11]),
    (⟨some 18, none, .call 50 [(.slot 17)]⟩, [0, 1, 2, 3, 4, 5, 6, 7, 8, 9, 10, 11, 12]),
    (⟨some 19, none, .val (.fldA 2 (.slot 3))⟩, []),
    (⟨some 20, none, .val (.fldA 0 (.slot 19))⟩, [14]),
    (⟨some 21, none, .val (.load .leaf (.slot 20))⟩, [14, 15]),
    (⟨some 22, none, .call 50 [(.slot 21)]⟩, [0, 1, 2, 3, 4, 5, 6, 7, 8, 9, 10, 11, 12, 13, 14, 15, 16]),
    (⟨some 23, none, .call 49 [(.slot 18), (.slot 22)]⟩, [0, 1, 2, 3, 4, 5, 6, 7, 8, 9, 10, 11, 12, 13, 14, 15, 16, 17]),
    (⟨some 24, none, .val (.fldA 2 (.slot 2))⟩, []),
    (⟨some 25, none, .val (.fldA 1 (.slot 24))⟩, [19]),
    (⟨some 26, none, .val (.load .leaf (.slot 25))⟩, [19, 20]),
    (⟨some 27, none, .val (.fldA 2 (.slot 3))⟩, []),
    (⟨some 28, none, .val (.fldA 1 (.slot 27))⟩, [22]),
    (⟨some 29, none, .val (.load .leaf (.slot 28))⟩, [22, 23]),
    (⟨some 30, none, .call 49 [(.slot 26), (.slot 29)]⟩, [0, 1, 2, 3, 4, 5, 6, 7, 8, 9, 10, 11, 12, 13, 14, 15, 16, 17, 18, 19, 20, 21, 22, 23, 24]),
    (⟨some 31, none, .bslice .leaf [(.slot 9), (.slot 14), (.slot 23), (.slot 30)]⟩, [0, 1, 2, 3, 4, 5, 6, 7, 8, 9, 10, 11, 12, 13, 14, 15, 16, 17, 18, 19, 20, 21, 22, 23, 24, 25]),
    (⟨some 32, none, .call 48 [(.slot 31)]⟩, [0, 1, 2, 3, 4, 5, 6, 7, 8, 9, 10, 11, 12, 13, 14, 15, 16, 17, 18, 19, 20, 21, 22, 23, 24, 25, 26]),
    (⟨some 4, none, .val (.move (.slot 32))⟩, [0, 1, 2, 3, 4, 5, 6, 7, 8, 9, 10, 11, 12, 13, 14, 15, 16, 17, 18, 19, 20, 21, 22, 23, 24, 25, 26, 27])]
abbrev path_order_r1t : List LOper := []
def path_order : LFn := ⟨(.seq (.ops path_order_r0) (.seq (.draw 29 path_order_r1 path_order_r1t) .ret)), 33, [.slot 4]⟩
theorem path_order_low : lowerFn Try.prog 30 = some path_order := by kernel_rfl

abbrev path_added_r0 : List LOper := [
    ⟨some 2, none, .val (.move (.const (.int .i64 0)))⟩]
abbrev path_added_r1 : List LOper := [
    ⟨some 3, none, .val (.move (.const (.int .i64 0)))⟩]
abbrev path_added_r2 : List LOper := [
    ⟨some 6, none, .val (.move (.slot 0))⟩,
    ⟨some 7, none, .val (.len (.slot 6))⟩,
    ⟨some 8, none, .val (.move (.const (.int .i64 0)))⟩]
abbrev path_added_r3 : List LOper := [
    ⟨some 9, none, .val (.bin .lss (.slot 8) (.slot 7))⟩]
abbrev path_added_r4 : List LOper := [
    ⟨some 10, none, .val (.idxA (.agg 4) (.slot 6) (.slot 8))⟩,
    ⟨some 11, none, .val (.load (.agg 4) (.slot 10))⟩,
    ⟨some 5, none, .box (.agg 4) (.const (.agg [(.int .i64 0), (.int .i64 0), (.bool false), (.int .i64 0)]))⟩,
    ⟨none, none, .store (.agg 4) (.slot 5) (.slot 11)⟩]
abbrev path_added_r5 : List LOper := [
    ⟨some 12, none, .val (.move (.slot 3))⟩,
    ⟨some 13, none, .val (.fldA 2 (.slot 5))⟩,
    ⟨some 14, none, .val (.fldA 1 (.slot 13))⟩,
    ⟨some 15, none, .val (.load .leaf (.slot 14))⟩,
    ⟨some 16, none, .val (.bin .add (.slot 12) (.slot 15))⟩,
    ⟨some 3, none, .val (.move (.slot 16))⟩]
abbrev path_added_r6 : List LOper := [
    ⟨some 17, none, .val (.bin .add (.slot 8) (.const (.int .i64 1)))⟩,
    ⟨some 8, none, .val (.move (.slot 17))⟩]
abbrev path_added_l0 : LCode := (.seq (.ops path_added_r3) (.seq (.cond (.slot 9) .skip (.exit 0)) (.seq (.block 1 (.seq (.ops path_added_r4) (.ops path_added_r5))) (.ops path_added_r6))))
abbrev path_added_r7 : List LOper := [
    ⟨some 18, none, .val (.move (.slot 3))⟩,
    ⟨some 2, none, .val (.move (.slot 18))⟩]
def path_added : LFn := ⟨(.seq (.ops path_added_r0) (.seq (.ops path_added_r1) (.seq (.seq (.ops path_added_r2) (.block 0 (.loop path_added_l0))) (.seq (.ops path_added_r7) .ret)))), 19, [.slot 2]⟩
theorem path_added_low : lowerFn Try.prog 31 = some path_added := by kernel_rfl

abbrev path_idle_r0 : List LOper := [
    ⟨some 4, none, .val (.move (.const (.bool false)))⟩]
abbrev path_idle_r1 : List LOper := [
    ⟨some 14, none, .val (.move (.slot 0))⟩,
    ⟨some 15, none, .mkz .leaf 8 (.slot 14) (.int .i64 0)⟩,
    ⟨some 5, none, .val (.move (.slot 15))⟩]
abbrev path_idle_r2 : List LOper := [
    ⟨some 16, none, .val (.move (.slot 1))⟩,
    ⟨some 17, none, .val (.len (.slot 16))⟩,
    ⟨some 18, none, .val (.move (.const (.int .i64 0)))⟩]
abbrev path_idle_r3 : List LOper := [
    ⟨some 19, none, .val (.bin .lss (.slot 18) (.slot 17))⟩]
abbrev path_idle_r4 : List LOper := [
    ⟨some 20, none, .val (.idxA (.agg 4) (.slot 16) (.slot 18))⟩,
    ⟨some 21, none, .val (.load (.agg 4) (.slot 20))⟩,
    ⟨some 7, none, .box (.agg 4) (.const (.agg [(.int .i64 0), (.int .i64 0), (.bool false), (.int .i64 0)]))⟩,
    ⟨none, none, .store (.agg 4) (.slot 7) (.slot 21)⟩]
abbrev path_idle_r5 : List LOper := [
    ⟨some 22, none, .val (.fldA 2 (.slot 7))⟩,
    ⟨some 23, none, .val (.fldA 1 (.slot 22))⟩,
    ⟨some 24, none, .val (.load .leaf (.slot 23))⟩,
    ⟨some 25, none, .val (.bin .eql (.slot 24) (.const (.int .i64 0)))⟩]
abbrev path_idle_r6 : List LOper := [
    ⟨some 26, none, .val (.move (.slot 5))⟩,
    ⟨some 27, none, .val (.fldA 1 (.slot 7))⟩,
    ⟨some 28, none, .val (.load .leaf (.slot 27))⟩,
    ⟨some 29, none, .val (.idxA .leaf (.slot 26) (.slot 28))⟩,
    ⟨some 30, none, .val (.load .leaf (.slot 29))⟩,
    ⟨some 31, none, .val (.bin .add (.slot 30) (.const (.int .i64 1)))⟩,
    ⟨some 32, none, .val (.idxA .leaf (.slot 26) (.slot 28))⟩,
    ⟨none, none, .store .leaf (.slot 32) (.slot 31)⟩]
abbrev path_idle_r7 : List LOper := [
    ⟨some 33, none, .val (.bin .add (.slot 18) (.const (.int .i64 1)))⟩,
    ⟨some 18, none, .val (.move (.slot 33))⟩]
abbrev path_idle_l0 : LCode := (.seq (.ops path_idle_r3) (.seq (.cond (.slot 19) .skip (.exit 0)) (.seq (.block 1 (.seq (.ops path_idle_r4) (.seq (.ops path_idle_r5) (.cond (.slot 25) (.ops path_idle_r6) .skip)))) (.ops path_idle_r7))))
abbrev path_idle_r8 : List LOper := [
    ⟨some 8, none, .val (.move (.const (.sl .leaf .nil [])))⟩]
abbrev path_idle_r9 : List LOper := [
    ⟨some 34, none, .val (.move (.slot 5))⟩,
    ⟨some 35, none, .val (.len (.slot 34))⟩,
    ⟨some 36, none, .val (.move (.const (.int .i64 0)))⟩]
abbrev path_idle_r10 : List LOper := [
    ⟨some 37, none, .val (.bin .lss (.slot 36) (.slot 35))⟩]
abbrev path_idle_r11 : List LOper := [
    ⟨some 38, none, .val (.move (.slot 36))⟩,
    ⟨some 39, none, .val (.idxA .leaf (.slot 34) (.slot 36))⟩,
    ⟨some 40, none, .val (.load .leaf (.slot 39))⟩,
    ⟨some 9, none, .val (.move (.slot 38))⟩,
    ⟨some 10, none, .val (.move (.slot 40))⟩]
abbrev path_idle_r12 : List LOper := [
    ⟨some 41, none, .val (.move (.slot 10))⟩,
    ⟨some 42, none, .val (.bin .eql (.slot 41) (.const (.int .i64 0)))⟩]
abbrev path_idle_r13 : List LOper := [
    ⟨some 43, none, .val (.move (.slot 8))⟩,
    ⟨some 44, none, .val (.move (.slot 9))⟩,
    ⟨some 45, none, .bslice .leaf [(.slot 44)]⟩,
    ⟨some 46, none, .append .leaf 8 (.slot 43) (.slot 45)⟩,
    ⟨some 8, none, .val (.move (.slot 46))⟩]
abbrev path_idle_r14 : List LOper := [
    ⟨some 47, none, .val (.bin .add (.slot 36) (.const (.int .i64 1)))⟩,
    ⟨some 36, none, .val (.move (.slot 47))⟩]
abbrev path_idle_l1 : LCode := (.seq (.ops path_idle_r10) (.seq (.cond (.slot 37) .skip (.exit 2)) (.seq (.block 3 (.seq (.ops path_idle_r11) (.seq (.ops path_idle_r12) (.cond (.slot 42) (.ops path_idle_r13) .skip)))) (.ops path_idle_r14))))
abbrev path_idle_r15 : List LOper := [
    ⟨some 11, none, .val (.move (.const (.int .i64 0)))⟩]
abbrev path_idle_r16 : List LOper := [
    ⟨some 48, none, .val (.move (.slot 11))⟩,
    ⟨some 49, none, .val (.move (.slot 8))⟩,
    ⟨some 50, none, .val (.len (.slot 49))⟩,
    ⟨some 51, none, .val (.bin .lss (.slot 48) (.slot 50))⟩]
abbrev path_idle_r17 : List LOper := [
    ⟨some 54, none, .val (.move (.slot 1))⟩,
    ⟨some 55, none, .val (.len (.slot 54))⟩,
    ⟨some 56, none, .val (.move (.const (.int .i64 0)))⟩]
abbrev path_idle_r18 : List LOper := [
    ⟨some 57, none, .val (.bin .lss (.slot 56) (.slot 55))⟩]
abbrev path_idle_r19 : List LOper := [
    ⟨some 58, none, .val (.idxA (.agg 4) (.slot 54) (.slot 56))⟩,
    ⟨some 59, none, .val (.load (.agg 4) (.slot 58))⟩,
    ⟨some 13, none, .box (.agg 4) (.const (.agg [(.int .i64 0), (.int .i64 0), (.bool false), (.int .i64 0)]))⟩,
    ⟨none, none, .store (.agg 4) (.slot 13) (.slot 59)⟩]
abbrev path_idle_r20 : List (LOper × List Nat) := [
    (⟨some 60, none, .val (.fldA 0 (.slot 13))⟩, []),
    (⟨some 61, none, .val (.load .leaf (.slot 60))⟩, [0]),
    (⟨some 62, none, .val (.move (.slot 8))⟩, []),
    (⟨some 63, none, .val (.move (.slot 11))⟩, []),
    (⟨some 64, none, .val (.idxA .leaf (.slot 62) (.slot 63))⟩, [2, 3]),
    (⟨some 65, none, .val (.load .leaf (.slot 64))⟩, [2, 3, 4]),
    (⟨some 66, none, .val (.bin .neq (.slot 61) (.slot 65))⟩, [0, 1, 2, 3, 4, 5]),
    (⟨some 67, none, .val (.move (.slot 66))⟩, [0, 1, 2, 3, 4, 5, 6]),
    (⟨some 68, some (67, false), .val (.fldA 2 (.slot 13))⟩, [0, 1, 2, 3, 4, 5, 6, 7]),
    (⟨some 69, some (67, false), .val (.fldA 1 (.slot 68))⟩, [0, 1, 2, 3, 4, 5, 6, 7, 8]),
    (⟨some 70, some (67, false), .val (.load .leaf (.slot 69))⟩, [0, 1, 2, 3, 4, 5, 6, 7, 8, 9]),
    (⟨some 71, some (67, false), .val (.bin .gtr (.slot 70) (.const (.int .i64 0)))⟩, [0, 1, 2, 3, 4, 5, 6, 7, 8, 9, 10]),
    (⟨some 72, none, .val (.pick (.slot 67) (.const (.bool true)) (.slot 71))⟩, [0, 1, 2, 3, 4, 5, 6, 7, 8, 9, 10, 11])]
abbrev path_idle_r20t : List LOper := []
abbrev path_idle_r21 : List LOper := [
    ⟨some 73, none, .val (.move (.slot 5))⟩,
    ⟨some 74, none, .val (.fldA 1 (.slot 13))⟩,
    ⟨some 75, none, .val (.load .leaf (.slot 74))⟩,
    ⟨some 76, none, .val (.idxA .leaf (.slot 73) (.slot 75))⟩,
    ⟨some 77, none, .val (.load .leaf (.slot 76))⟩,
    ⟨some 78, none, .val (.bin .sub (.slot 77) (.const (.int .i64 1)))⟩,
    ⟨some 79, none, .val (.idxA .leaf (.slot 73) (.slot 75))⟩,
    ⟨none, none, .store .leaf (.slot 79) (.slot 78)⟩]
abbrev path_idle_r22 : List LOper := [
    ⟨some 80, none, .val (.move (.slot 5))⟩,
    ⟨some 81, none, .val (.fldA 1 (.slot 13))⟩,
    ⟨some 82, none, .val (.load .leaf (.slot 81))⟩,
    ⟨some 83, none, .val (.idxA .leaf (.slot 80) (.slot 82))⟩,
    ⟨some 84, none, .val (.load .leaf (.slot 83))⟩,
    ⟨some 85, none, .val (.bin .eql (.slot 84) (.const (.int .i64 0)))⟩]
abbrev path_idle_r23 : List LOper := [
    ⟨some 86, none, .val (.move (.slot 8))⟩,
    ⟨some 87, none, .val (.fldA 1 (.slot 13))⟩,
    ⟨some 88, none, .val (.load .leaf (.slot 87))⟩,
    ⟨some 89, none, .bslice .leaf [(.slot 88)]⟩,
    ⟨some 90, none, .append .leaf 8 (.slot 86) (.slot 89)⟩,
    ⟨some 8, none, .val (.move (.slot 90))⟩]
abbrev path_idle_r24 : List LOper := [
    ⟨some 91, none, .val (.bin .add (.slot 56) (.const (.int .i64 1)))⟩,
    ⟨some 56, none, .val (.move (.slot 91))⟩]
abbrev path_idle_l2 : LCode := (.seq (.ops path_idle_r18) (.seq (.cond (.slot 57) .skip (.exit 6)) (.seq (.block 7 (.seq (.ops path_idle_r19) (.seq (.seq (.draw 13 path_idle_r20 path_idle_r20t) (.cond (.slot 72) (.exit 7) .skip)) (.seq (.ops path_idle_r21) (.seq (.ops path_idle_r22) (.cond (.slot 85) (.ops path_idle_r23) .skip)))))) (.ops path_idle_r24))))
abbrev path_idle_r25 : List LOper := [
    ⟨some 52, none, .val (.move (.slot 11))⟩,
    ⟨some 53, none, .val (.bin .add (.slot 52) (.const (.int .i64 1)))⟩,
    ⟨some 11, none, .val (.move (.slot 53))⟩]
abbrev path_idle_l3 : LCode := (.seq (.seq (.ops path_idle_r16) (.cond (.slot 51) .skip (.exit 4))) (.seq (.block 5 (.seq (.ops path_idle_r17) (.block 6 (.loop path_idle_l2)))) (.ops path_idle_r25)))
abbrev path_idle_r26 : List LOper := [
    ⟨some 92, none, .val (.move (.slot 8))⟩,
    ⟨some 93, none, .val (.len (.slot 92))⟩,
    ⟨some 94, none, .val (.move (.slot 0))⟩,
    ⟨some 95, none, .val (.bin .lss (.slot 93) (.slot 94))⟩,
    ⟨some 4, none, .val (.move (.slot 95))⟩]
def path_idle : LFn := ⟨(.seq (.ops path_idle_r0) (.seq (.ops path_idle_r1) (.seq (.seq (.ops path_idle_r2) (.block 0 (.loop path_idle_l0))) (.seq (.ops path_idle_r8) (.seq (.seq (.ops path_idle_r9) (.block 2 (.loop path_idle_l1))) (.seq (.seq (.ops path_idle_r15) (.block 4 (.loop path_idle_l3))) (.seq (.ops path_idle_r26) .ret))))))), 96, [.slot 4]⟩
theorem path_idle_low : lowerFn Try.prog 32 = some path_idle := by kernel_rfl

abbrev path_turns_r0 : List LOper := [
    ⟨some 2, none, .box .leaf (.slot 0)⟩,
    ⟨some 3, none, .box .leaf (.slot 1)⟩,
    ⟨some 4, none, .val (.move (.const (.bool false)))⟩]
abbrev path_turns_r1 : List LOper := [
    ⟨some 5, none, .val (.load .leaf (.slot 3))⟩,
    ⟨some 6, none, .val (.mkfn (.func 51) [] [(.slot 2), (.slot 3)])⟩,
    ⟨some 7, none, .call 26 [(.slot 5), (.slot 6)]⟩,
    ⟨some 4, none, .val (.move (.slot 7))⟩]
def path_turns : LFn := ⟨(.seq (.ops path_turns_r0) (.seq (.ops path_turns_r1) .ret)), 8, [.slot 4]⟩
theorem path_turns_low : lowerFn Try.prog 33 = some path_turns := by kernel_rfl

abbrev path_from_r0 : List LOper := [
    ⟨some 2, none, .box (.agg 2) (.slot 0)⟩,
    ⟨some 4, none, .val (.move (.const (.sl .leaf .nil [])))⟩]
abbrev path_from_r1 : List LOper := [
    ⟨some 16, none, .val (.fldA 0 (.slot 2))⟩,
    ⟨some 17, none, .val (.load .leaf (.slot 16))⟩,
    ⟨some 18, none, .mkz .leaf 24 (.slot 17) (.sl (.agg 2) .nil [])⟩,
    ⟨some 5, none, .val (.move (.slot 18))⟩]
abbrev path_from_r2 : List LOper := [
    ⟨some 19, none, .val (.move (.slot 5))⟩,
    ⟨some 20, none, .val (.move (.slot 1))⟩,
    ⟨some 21, none, .val (.build [(.bool false), (.int .i64 0)] [])⟩,
    ⟨some 22, none, .bslice (.agg 2) [(.slot 21)]⟩,
    ⟨some 23, none, .val (.idxA .leaf (.slot 19) (.slot 20))⟩,
    ⟨none, none, .store .leaf (.slot 23) (.slot 22)⟩]
abbrev path_from_r3 : List LOper := [
    ⟨some 24, none, .val (.move (.slot 1))⟩,
    ⟨some 25, none, .bslice .leaf [(.slot 24)]⟩,
    ⟨some 6, none, .val (.move (.slot 25))⟩]
abbrev path_from_r4 : List LOper := [
    ⟨some 26, none, .val (.move (.slot 6))⟩,
    ⟨some 27, none, .val (.len (.slot 26))⟩,
    ⟨some 28, none, .val (.bin .gtr (.slot 27) (.const (.int .i64 0)))⟩]
abbrev path_from_r5 : List LOper := [
    ⟨some 29, none, .val (.move (.slot 6))⟩,
    ⟨some 30, none, .val (.idxA .leaf (.slot 29) (.const (.int .i64 0)))⟩,
    ⟨some 31, none, .val (.load .leaf (.slot 30))⟩,
    ⟨some 7, none, .val (.move (.slot 31))⟩]
abbrev path_from_r6 : List LOper := [
    ⟨some 32, none, .val (.move (.slot 6))⟩,
    ⟨some 33, none, .val (.slc .leaf (.slot 32) (.some (.const (.int .i64 1))) .none .none)⟩,
    ⟨some 6, none, .val (.move (.slot 33))⟩]
abbrev path_from_r7 : List LOper := [
    ⟨some 34, none, .val (.move (.slot 5))⟩,
    ⟨some 35, none, .val (.move (.slot 7))⟩,
    ⟨some 36, none, .val (.idxA .leaf (.slot 34) (.slot 35))⟩,
    ⟨some 37, none, .val (.load .leaf (.slot 36))⟩,
    ⟨some 38, none, .call 54 [(.slot 37)]⟩,
    ⟨some 8, none, .val (.move (.slot 38))⟩]
abbrev path_from_r8 : List LOper := [
    ⟨some 39, none, .val (.fldA 1 (.slot 2))⟩,
    ⟨some 40, none, .val (.load .leaf (.slot 39))⟩,
    ⟨some 41, none, .val (.len (.slot 40))⟩,
    ⟨some 42, none, .val (.move (.const (.int .i64 0)))⟩]
abbrev path_from_r9 : List LOper := [
    ⟨some 43, none, .val (.bin .lss (.slot 42) (.slot 41))⟩]
abbrev path_from_r10 : List LOper := [
    ⟨some 44, none, .val (.idxA (.agg 4) (.slot 40) (.slot 42))⟩,
    ⟨some 45, none, .val (.load (.agg 4) (.slot 44))⟩,
    ⟨some 10, none, .box (.agg 4) (.const (.agg [(.int .i64 0), (.int .i64 0), (.bool false), (.int .i64 0)]))⟩,
    ⟨none, none, .store (.agg 4) (.slot 10) (.slot 45)⟩]
abbrev path_from_r11 : List LOper := [
    ⟨some 46, none, .val (.fldA 0 (.slot 10))⟩,
    ⟨some 47, none, .val (.load .leaf (.slot 46))⟩,
    ⟨some 48, none, .val (.move (.slot 7))⟩,
    ⟨some 49, none, .val (.bin .neq (.slot 47) (.slot 48))⟩]
abbrev path_from_r12 : List LOper := [
    ⟨some 50, none, .val (.move (.slot 8))⟩,
    ⟨some 51, none, .val (.len (.slot 50))⟩,
    ⟨some 52, none, .val (.move (.const (.int .i64 0)))⟩]
abbrev path_from_r13 : List LOper := [
    ⟨some 53, none, .val (.bin .lss (.slot 52) (.slot 51))⟩]
abbrev path_from_r14 : List LOper := [
    ⟨some 54, none, .val (.idxA (.agg 2) (.slot 50) (.slot 52))⟩,
    ⟨some 55, none, .val (.load (.agg 2) (.slot 54))⟩,
    ⟨some 12, none, .box (.agg 2) (.const (.agg [(.bool false), (.int .i64 0)]))⟩,
    ⟨none, none, .store (.agg 2) (.slot 12) (.slot 55)⟩]
abbrev path_from_r15 : List LOper := [
    ⟨some 57, none, .val (.load (.agg 2) (.slot 12))⟩,
    ⟨some 58, none, .val (.fldA 2 (.slot 10))⟩,
    ⟨some 59, none, .val (.load (.agg 2) (.slot 58))⟩,
    ⟨some 60, none, .call 17 [(.slot 57), (.slot 59)]⟩,
    ⟨some 56, none, .val (.move (.slot 60))⟩,
    ⟨some 61, none, .val (.ext (.slot 56) 0)⟩,
    ⟨some 62, none, .val (.ext (.slot 56) 1)⟩,
    ⟨some 13, none, .box (.agg 2) (.const (.agg [(.bool false), (.int .i64 0)]))⟩,
    ⟨none, none, .store (.agg 2) (.slot 13) (.slot 61)⟩,
    ⟨some 14, none, .val (.move (.slot 62))⟩]
abbrev path_from_r16 : List LOper := [
    ⟨some 63, none, .val (.move (.slot 14))⟩,
    ⟨some 64, none, .val (.eq true (.iface true) (.slot 63) (.const .nilIface))⟩]
abbrev path_from_r17 : List LOper := [
    ⟨some 15, none, .val (.move (.const (.bool false)))⟩]
abbrev path_from_r18 : List (LOper × List Nat) := [
    (⟨some 66, none, .val (.move (.slot 5))⟩, []),
    (⟨some 67, none, .val (.fldA 1 (.slot 10))⟩, []),
    (⟨some 68, none, .val (.load .leaf (.slot 67))⟩, [1]),
    (⟨some 69, none, .val (.move (.slot 5))⟩, []),
    (⟨some 70, none, .val (.fldA 1 (.slot 10))⟩, []),
    (⟨some 71, none, .val (.load .leaf (.slot 70))⟩, [4]),
    (⟨some 72, none, .val (.idxA .leaf (.slot 69) (.slot 71))⟩, [3, 4, 5]),
    (⟨some 73, none, .val (.load .leaf (.slot 72))⟩, [3, 4, 5, 6]),
    (⟨some 74, none, .val (.load (.agg 2) (.slot 13))⟩, []),
    (⟨some 75, none, .callw 55 [(.slot 73), (.slot 74)] [(.slot 67)]⟩, [3, 4, 5, 6, 7, 8]),
    (⟨some 65, none, .val (.move (.slot 75))⟩, [3, 4, 5, 6, 7, 8, 9]),
    (⟨some 76, none, .val (.ext (.slot 65) 0)⟩, [3, 4, 5, 6, 7, 8, 9, 10]),
    (⟨some 77, none, .val (.ext (.slot 65) 1)⟩, [3, 4, 5, 6, 7, 8, 9, 10]),
    (⟨some 78, none, .val (.idxA .leaf (.slot 66) (.slot 68))⟩, [0, 1, 2, 3, 4, 5, 6, 7, 8, 9, 10, 11]),
    (⟨none, none, .store .leaf (.slot 78) (.slot 76)⟩, [0, 1, 2, 3, 4, 5, 6, 7, 8, 9, 10, 11, 13]),
    (⟨some 15, none, .val (.move (.slot 77))⟩, [0, 1, 2, 3, 4, 5, 6, 7, 8, 9, 10, 11, 12, 13, 14])]
abbrev path_from_r18t : List LOper := []
abbrev path_from_r19 : List LOper := [
    ⟨some 79, none, .val (.move (.slot 15))⟩]
abbrev path_from_r20 : List LOper := [
    ⟨some 80, none, .val (.move (.slot 6))⟩,
    ⟨some 81, none, .val (.fldA 1 (.slot 10))⟩,
    ⟨some 82, none, .val (.load .leaf (.slot 81))⟩,
    ⟨some 83, none, .bslice .leaf [(.slot 82)]⟩,
    ⟨some 84, none, .append .leaf 8 (.slot 80) (.slot 83)⟩,
    ⟨some 6, none, .val (.move (.slot 84))⟩]
abbrev path_from_r21 : List LOper := [
    ⟨some 85, none, .val (.bin .add (.slot 52) (.const (.int .i64 1)))⟩,
    ⟨some 52, none, .val (.move (.slot 85))⟩]
abbrev path_from_l0 : LCode := (.seq (.ops path_from_r13) (.seq (.cond (.slot 53) .skip (.exit 4)) (.seq (.block 5 (.seq (.ops path_from_r14) (.seq (.ops path_from_r15) (.seq (.seq (.ops path_from_r16) (.cond (.slot 64) (.exit 5) .skip)) (.seq (.ops path_from_r17) (.seq (.draw 16 path_from_r18 path_from_r18t) (.seq (.ops path_from_r19) (.cond (.slot 79) (.ops path_from_r20) .skip)))))))) (.ops path_from_r21))))
abbrev path_from_r22 : List LOper := [
    ⟨some 86, none, .val (.bin .add (.slot 42) (.const (.int .i64 1)))⟩,
    ⟨some 42, none, .val (.move (.slot 86))⟩]
abbrev path_from_l1 : LCode := (.seq (.ops path_from_r9) (.seq (.cond (.slot 43) .skip (.exit 2)) (.seq (.block 3 (.seq (.ops path_from_r10) (.seq (.seq (.ops path_from_r11) (.cond (.slot 49) (.exit 3) .skip)) (.seq (.ops path_from_r12) (.block 4 (.loop path_from_l0)))))) (.ops path_from_r22))))
abbrev path_from_l2 : LCode := (.seq (.seq (.ops path_from_r4) (.cond (.slot 28) .skip (.exit 0))) (.block 1 (.seq (.ops path_from_r5) (.seq (.ops path_from_r6) (.seq (.ops path_from_r7) (.seq (.ops path_from_r8) (.block 2 (.loop path_from_l1))))))))
abbrev path_from_r23 : List LOper := [
    ⟨some 87, none, .val (.move (.slot 5))⟩,
    ⟨some 4, none, .val (.move (.slot 87))⟩]
def path_from : LFn := ⟨(.seq (.ops path_from_r0) (.seq (.ops path_from_r1) (.seq (.ops path_from_r2) (.seq (.ops path_from_r3) (.seq (.block 0 (.loop path_from_l2)) (.seq (.ops path_from_r23) .ret)))))), 88, [.slot 4]⟩
theorem path_from_low : lowerFn Try.prog 38 = some path_from := by kernel_rfl

abbrev stamp_RightPath_r0 : List LOper := [
    ⟨some 1, none, .box (.agg 2) (.slot 0)⟩,
    ⟨some 2, none, .val (.move (.const (.bool false)))⟩]
abbrev stamp_RightPath_r1 : List LOper := [
    ⟨some 3, none, .val (.fldA 1 (.slot 1))⟩,
    ⟨some 4, none, .val (.load .leaf (.slot 3))⟩,
    ⟨some 5, none, .call 56 [(.slot 4), (.const (.int .i64 1048576))]⟩,
    ⟨some 2, none, .val (.move (.slot 5))⟩]
def stamp_RightPath : LFn := ⟨(.seq (.ops stamp_RightPath_r0) (.seq (.ops stamp_RightPath_r1) .ret)), 6, [.slot 2]⟩
theorem stamp_RightPath_low : lowerFn Try.prog 39 = some stamp_RightPath := by kernel_rfl

abbrev path_number_r0 : List LOper := [
    ⟨some 2, none, .val (.move (.const (.int .i64 0)))⟩]
abbrev path_number_r1 : List LOper := [
    ⟨some 3, none, .val (.move (.slot 0))⟩]
abbrev path_number_r2 : List LOper := [
    ⟨some 2, none, .val (.move (.const (.int .i64 1)))⟩]
abbrev path_number_r3 : List LOper := [
    ⟨some 2, none, .val (.move (.const (.int .i64 0)))⟩]
def path_number : LFn := ⟨(.seq (.ops path_number_r0) (.seq (.seq (.ops path_number_r1) (.cond (.slot 3) (.seq (.ops path_number_r2) .ret) .skip)) (.seq (.ops path_number_r3) .ret))), 4, [.slot 2]⟩
theorem path_number_low : lowerFn Try.prog 50 = some path_number := by kernel_rfl

abbrev path_turns_1_r0 : List LOper := [
    ⟨some 3, none, .box (.agg 4) (.slot 0)⟩,
    ⟨some 4, none, .val (.move (.const (.bool false)))⟩]
abbrev path_turns_1_r1 : List LOper := [
    ⟨some 5, none, .val (.fldA 2 (.slot 3))⟩,
    ⟨some 6, none, .val (.fldA 0 (.slot 5))⟩,
    ⟨some 7, none, .val (.load .leaf (.slot 6))⟩,
    ⟨some 8, none, .val (.move (.slot 7))⟩,
    ⟨some 9, some (8, true), .val (.load .leaf (.slot 1))⟩,
    ⟨some 10, some (8, true), .val (.load .leaf (.slot 2))⟩,
    ⟨some 11, some (8, true), .val (.fldA 1 (.slot 3))⟩,
    ⟨some 12, some (8, true), .val (.load .leaf (.slot 11))⟩,
    ⟨some 13, some (8, true), .val (.fldA 0 (.slot 3))⟩,
    ⟨some 14, some (8, true), .val (.load .leaf (.slot 13))⟩,
    ⟨some 15, some (8, true), .call 52 [(.slot 9), (.slot 10), (.slot 12), (.slot 14)]⟩,
    ⟨some 16, none, .val (.pick (.slot 8) (.slot 15) (.const (.bool false)))⟩,
    ⟨some 4, none, .val (.move (.slot 16))⟩]
def path_turns_1 : LFn := ⟨(.seq (.ops path_turns_1_r0) (.seq (.ops path_turns_1_r1) .ret)), 17, [.slot 4]⟩
theorem path_turns_1_low : lowerFn Try.prog 51 = some path_turns_1 := by kernel_rfl

abbrev path_reaches_r0 : List LOper := [
    ⟨some 8, none, .val (.move (.const (.bool false)))⟩]
abbrev path_reaches_r1 : List LOper := [
    ⟨some 13, none, .val (.move (.slot 0))⟩,
    ⟨some 14, none, .mkz .leaf 1 (.slot 13) (.bool false)⟩,
    ⟨some 9, none, .val (.move (.slot 14))⟩]
abbrev path_reaches_r2 : List LOper := [
    ⟨some 15, none, .val (.move (.slot 2))⟩,
    ⟨some 16, none, .bslice .leaf [(.slot 15)]⟩,
    ⟨some 10, none, .val (.move (.slot 16))⟩]
abbrev path_reaches_r3 : List LOper := [
    ⟨some 17, none, .val (.move (.slot 10))⟩,
    ⟨some 18, none, .val (.len (.slot 17))⟩,
    ⟨some 19, none, .val (.bin .gtr (.slot 18) (.const (.int .i64 0)))⟩]
abbrev path_reaches_r4 : List LOper := [
    ⟨some 22, none, .val (.move (.slot 10))⟩,
    ⟨some 23, none, .val (.idxA .leaf (.slot 22) (.const (.int .i64 0)))⟩,
    ⟨some 24, none, .val (.load .leaf (.slot 23))⟩,
    ⟨some 25, none, .val (.move (.slot 3))⟩,
    ⟨some 26, none, .val (.bin .eql (.slot 24) (.slot 25))⟩]
abbrev path_reaches_r5 : List LOper := [
    ⟨some 8, none, .val (.move (.const (.bool true)))⟩]
abbrev path_reaches_r6 : List LOper := [
    ⟨some 27, none, .val (.move (.slot 1))⟩,
    ⟨some 28, none, .val (.len (.slot 27))⟩,
    ⟨some 29, none, .val (.move (.const (.int .i64 0)))⟩]
abbrev path_reaches_r7 : List LOper := [
    ⟨some 30, none, .val (.bin .lss (.slot 29) (.slot 28))⟩]
abbrev path_reaches_r8 : List LOper := [
    ⟨some 31, none, .val (.idxA (.agg 4) (.slot 27) (.slot 29))⟩,
    ⟨some 32, none, .val (.load (.agg 4) (.slot 31))⟩,
    ⟨some 12, none, .box (.agg 4) (.const (.agg [(.int .i64 0), (.int .i64 0), (.bool false), (.int .i64 0)]))⟩,
    ⟨none, none, .store (.agg 4) (.slot 12) (.slot 32)⟩]
abbrev path_reaches_r9 : List (LOper × List Nat) := [
    (⟨some 33, none, .val (.fldA 0 (.slot 12))⟩, []),
    (⟨some 34, none, .val (.load .leaf (.slot 33))⟩, [0]),
    (⟨some 35, none, .val (.move (.slot 10))⟩, []),
    (⟨some 36, none, .val (.idxA .leaf (.slot 35) (.const (.int .i64 0)))⟩, [2]),
    (⟨some 37, none, .val (.load .leaf (.slot 36))⟩, [2, 3]),
    (⟨some 38, none, .val (.bin .eql (.slot 34) (.slot 37))⟩, [0, 1, 2, 3, 4]),
    (⟨some 39, none, .val (.move (.slot 38))⟩, [0, 1, 2, 3, 4, 5]),
    (⟨some 40, some (39, true), .val (.move (.slot 9))⟩, [0, 1, 2, 3, 4, 5, 6]),
    (⟨some 41, some (39, true), .val (.fldA 1 (.slot 12))⟩, [0, 1, 2, 3, 4, 5, 6]),
    (⟨some 42, some (39, true), .val (.load .leaf (.slot 41))⟩, [0, 1, 2, 3, 4, 5, 6, 8]),
    (⟨some 43, some (39, true), .val (.idxA .leaf (.slot 40) (.slot 42))⟩, [0, 1, 2, 3, 4, 5, 6, 7, 8, 9]),
    (⟨some 44, some (39, true), .val (.load .leaf (.slot 43))⟩, [0, 1, 2, 3, 4, 5, 6, 7, 8, 9, 10]),
    (⟨some 45, some (39, true), .val (.not (.slot 44))⟩, [0, 1, 2, 3, 4, 5, 6, 7, 8, 9, 10, 11]),
    (⟨some 46, none, .val (.pick (.slot 39) (.slot 45) (.const (.bool false)))⟩, [0, 1, 2, 3, 4, 5, 6, 7, 8, 9, 10, 11, 12])]
abbrev path_reaches_r9t : List LOper := []
abbrev path_reaches_r10 : List LOper := [
    ⟨some 47, none, .val (.move (.slot 9))⟩,
    ⟨some 48, none, .val (.fldA 1 (.slot 12))⟩,
    ⟨some 49, none, .val (.load .leaf (.slot 48))⟩,
    ⟨some 50, none, .val (.idxA .leaf (.slot 47) (.slot 49))⟩,
    ⟨none, none, .store .leaf (.slot 50) (.const (.bool true))⟩]
abbrev path_reaches_r11 : List LOper := [
    ⟨some 51, none, .val (.move (.slot 10))⟩,
    ⟨some 52, none, .val (.fldA 1 (.slot 12))⟩,
    ⟨some 53, none, .val (.load .leaf (.slot 52))⟩,
    ⟨some 54, none, .bslice .leaf [(.slot 53)]⟩,
    ⟨some 55, none, .append .leaf 8 (.slot 51) (.slot 54)⟩,
    ⟨some 10, none, .val (.move (.slot 55))⟩]
abbrev path_reaches_r12 : List LOper := [
    ⟨some 56, none, .val (.bin .add (.slot 29) (.const (.int .i64 1)))⟩,
    ⟨some 29, none, .val (.move (.slot 56))⟩]
abbrev path_reaches_l0 : LCode := (.seq (.ops path_reaches_r7) (.seq (.cond (.slot 30) .skip (.exit 2)) (.seq (.block 3 (.seq (.ops path_reaches_r8) (.seq (.draw 14 path_reaches_r9 path_reaches_r9t) (.cond (.slot 46) (.seq (.ops path_reaches_r10) (.ops path_reaches_r11)) .skip)))) (.ops path_reaches_r12))))
abbrev path_reaches_r13 : List LOper := [
    ⟨some 20, none, .val (.move (.slot 10))⟩,
    ⟨some 21, none, .val (.slc .leaf (.slot 20) (.some (.const (.int .i64 1))) .none .none)⟩,
    ⟨some 10, none, .val (.move (.slot 21))⟩]
abbrev path_reaches_l1 : LCode := (.seq (.seq (.ops path_reaches_r3) (.cond (.slot 19) .skip (.exit 0))) (.seq (.block 1 (.seq (.seq (.ops path_reaches_r4) (.cond (.slot 26) (.seq (.ops path_reaches_r5) .ret) .skip)) (.seq (.ops path_reaches_r6) (.block 2 (.loop path_reaches_l0))))) (.ops path_reaches_r13)))
abbrev path_reaches_r14 : List LOper := [
    ⟨some 8, none, .val (.move (.const (.bool false)))⟩]
def path_reaches : LFn := ⟨(.seq (.ops path_reaches_r0) (.seq (.ops path_reaches_r1) (.seq (.seq (.ops path_reaches_r2) (.block 0 (.loop path_reaches_l1))) (.seq (.ops path_reaches_r14) .ret)))), 57, [.slot 8]⟩
theorem path_reaches_low : lowerFn Try.prog 52 = some path_reaches := by kernel_rfl

abbrev path_put_r0 : List LOper := [
    ⟨some 3, none, .box (.agg 2) (.slot 1)⟩,
    ⟨some 4, none, .val (.move (.const (.sl (.agg 2) .nil [])))⟩,
    ⟨some 5, none, .val (.move (.const (.bool false)))⟩]
abbrev path_put_r1 : List LOper := [
    ⟨some 6, none, .val (.move (.slot 0))⟩,
    ⟨some 7, none, .val (.mkfn (.func 63) [] [(.slot 3)])⟩,
    ⟨some 8, none, .call 62 [(.slot 6), (.slot 7)]⟩]
abbrev path_put_r2 : List LOper := [
    ⟨some 9, none, .val (.move (.slot 0))⟩,
    ⟨some 4, none, .val (.move (.slot 9))⟩,
    ⟨some 5, none, .val (.move (.const (.bool false)))⟩]
abbrev path_put_r3 : List LOper := [
    ⟨some 10, none, .val (.move (.slot 0))⟩,
    ⟨some 11, none, .val (.mkfn (.func 65) [] [(.slot 3)])⟩,
    ⟨some 12, none, .call 64 [(.slot 10), (.slot 11)]⟩,
    ⟨some 0, none, .val (.move (.slot 12))⟩]
abbrev path_put_r4 : List LOper := [
    ⟨some 13, none, .val (.move (.slot 0))⟩,
    ⟨some 14, none, .val (.load (.agg 2) (.slot 3))⟩,
    ⟨some 15, none, .bslice (.agg 2) [(.slot 14)]⟩,
    ⟨some 16, none, .append (.agg 2) 16 (.slot 13) (.slot 15)⟩,
    ⟨some 0, none, .val (.move (.slot 16))⟩]
abbrev path_put_r5 : List LOper := [
    ⟨some 17, none, .val (.move (.slot 0))⟩,
    ⟨some 18, none, .call 66 [(.slot 17), (.const (.fn (.func 67) [] []))]⟩]
abbrev path_put_r6 : List LOper := [
    ⟨some 19, none, .val (.move (.slot 0))⟩,
    ⟨some 4, none, .val (.move (.slot 19))⟩,
    ⟨some 5, none, .val (.move (.const (.bool true)))⟩]
def path_put : LFn := ⟨(.seq (.ops path_put_r0) (.seq (.seq (.ops path_put_r1) (.cond (.slot 8) (.seq (.ops path_put_r2) .ret) .skip)) (.seq (.ops path_put_r3) (.seq (.ops path_put_r4) (.seq (.ops path_put_r5) (.seq (.ops path_put_r6) .ret)))))), 20, [.slot 4, .slot 5]⟩
theorem path_put_low : lowerFn Try.prog 55 = some path_put := by kernel_rfl

abbrev stamp_within_r0 : List LOper := [
    ⟨some 4, none, .val (.move (.const (.bool false)))⟩]
abbrev stamp_within_r1 : List LOper := [
    ⟨some 5, none, .val (.move (.slot 0))⟩,
    ⟨some 6, none, .val (.bin .geq (.slot 5) (.const (.int .i64 0)))⟩,
    ⟨some 7, none, .val (.move (.slot 6))⟩,
    ⟨some 8, some (7, true), .val (.move (.slot 0))⟩,
    ⟨some 9, some (7, true), .val (.move (.slot 1))⟩,
    ⟨some 10, some (7, true), .val (.bin .leq (.slot 8) (.slot 9))⟩,
    ⟨some 11, none, .val (.pick (.slot 7) (.slot 10) (.const (.bool false)))⟩,
    ⟨some 4, none, .val (.move (.slot 11))⟩]
def stamp_within : LFn := ⟨(.seq (.ops stamp_within_r0) (.seq (.ops stamp_within_r1) .ret)), 12, [.slot 4]⟩
theorem stamp_within_low : lowerFn Try.prog 56 = some stamp_within := by kernel_rfl

abbrev path_put_1_r0 : List LOper := [
    ⟨some 2, none, .box (.agg 2) (.slot 0)⟩,
    ⟨some 3, none, .val (.move (.const (.bool false)))⟩]
abbrev path_put_1_r1 : List LOper := [
    ⟨some 4, none, .val (.load (.agg 2) (.slot 2))⟩,
    ⟨some 5, none, .val (.load (.agg 2) (.slot 1))⟩,
    ⟨some 6, none, .call 18 [(.slot 4), (.slot 5)]⟩,
    ⟨some 3, none, .val (.move (.slot 6))⟩]
def path_put_1 : LFn := ⟨(.seq (.ops path_put_1_r0) (.seq (.ops path_put_1_r1) .ret)), 7, [.slot 3]⟩
theorem path_put_1_low : lowerFn Try.prog 63 = some path_put_1 := by kernel_rfl

abbrev path_put_2_r0 : List LOper := [
    ⟨some 2, none, .box (.agg 2) (.slot 0)⟩,
    ⟨some 3, none, .val (.move (.const (.bool false)))⟩]
abbrev path_put_2_r1 : List LOper := [
    ⟨some 4, none, .val (.load (.agg 2) (.slot 1))⟩,
    ⟨some 5, none, .val (.load (.agg 2) (.slot 2))⟩,
    ⟨some 6, none, .call 18 [(.slot 4), (.slot 5)]⟩,
    ⟨some 3, none, .val (.move (.slot 6))⟩]
def path_put_2 : LFn := ⟨(.seq (.ops path_put_2_r0) (.seq (.ops path_put_2_r1) .ret)), 7, [.slot 3]⟩
theorem path_put_2_low : lowerFn Try.prog 65 = some path_put_2 := by kernel_rfl

abbrev path_put_3_r0 : List LOper := [
    ⟨some 2, none, .box (.agg 2) (.slot 0)⟩,
    ⟨some 3, none, .box (.agg 2) (.slot 1)⟩,
    ⟨some 4, none, .val (.move (.const (.int .i64 0)))⟩]
abbrev path_put_3_r1 : List (LOper × List Nat) := [
    (⟨some 5, none, .val (.fldA 0 (.slot 2))⟩, []),
    (⟨some 6, none, .val (.load .leaf (.slot 5))⟩, [0]),
    (⟨some 7, none, .call 50 [(.slot 6)]⟩, [0, 1]),
    (⟨some 8, none, .val (.fldA 0 (.slot 3))⟩, []),
    (⟨some 9, none, .val (.load .leaf (.slot 8))⟩, [3]),
    (⟨some 10, none, .call 50 [(.slot 9)]⟩, [0, 1, 2, 3, 4]),
    (⟨some 11, none, .val (.bin .sub (.slot 7) (.slot 10))⟩, [0, 1, 2, 3, 4, 5]),
    (⟨some 4, none, .val (.move (.slot 11))⟩, [0, 1, 2, 3, 4, 5, 6])]
abbrev path_put_3_r1t : List LOper := []
def path_put_3 : LFn := ⟨(.seq (.ops path_put_3_r0) (.seq (.draw 8 path_put_3_r1 path_put_3_r1t) .ret)), 12, [.slot 4]⟩
theorem path_put_3_low : lowerFn Try.prog 67 = some path_put_3 := by kernel_rfl

end L
end Go.Proofs.Ytmpmngakheoacaa
