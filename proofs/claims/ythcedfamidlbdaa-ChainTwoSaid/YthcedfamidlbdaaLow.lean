/-
The functions of the code, lowered: printed by a program, checked by the kernel. No conditions.
-/
import Derived.Test.YthcedfamidlbdaaZv
import Derived.Test.YthcedfamidlbdaaProg
namespace Go.Proofs.Ythcedfamidlbdaa
open Go.RowKit
namespace L
abbrev corollarylaw21_ChainTells_r0 : List LOper := [
    ⟨some 4, none, .box (.agg 2) (.slot 1)⟩,
    ⟨some 6, none, .val (.move (.const (.bool false)))⟩]
abbrev corollarylaw21_ChainTells_r1 : List LOper := [
    ⟨some 8, none, .call 7 []⟩,
    ⟨some 9, none, .val (.not (.slot 8))⟩]
abbrev corollarylaw21_ChainTells_r2 : List LOper := [
    ⟨some 6, none, .val (.move (.const (.bool false)))⟩]
abbrev corollarylaw21_ChainTells_r3 : List LOper := [
    ⟨some 10, none, .val (.move (.slot 0))⟩,
    ⟨some 11, none, .val (.len (.slot 10))⟩,
    ⟨some 12, none, .val (.bin .gtr (.slot 11) (.const (.int .i64 60)))⟩]
abbrev corollarylaw21_ChainTells_r4 : List LOper := [
    ⟨some 6, none, .val (.move (.const (.bool true)))⟩]
abbrev corollarylaw21_ChainTells_r5 : List LOper := [
    ⟨some 13, none, .val (.move (.slot 0))⟩,
    ⟨some 14, none, .call 8 [(.slot 13)]⟩,
    ⟨some 7, none, .val (.move (.slot 14))⟩]
abbrev corollarylaw21_ChainTells_r6 : List (LOper × List Nat) := [
    (⟨some 15, none, .val (.move (.slot 0))⟩, []),
    (⟨some 16, none, .val (.load (.agg 2) (.slot 4))⟩, []),
    (⟨some 17, none, .call 9 [(.slot 15), (.slot 16)]⟩, [0, 1]),
    (⟨some 18, none, .val (.move (.slot 7))⟩, []),
    (⟨some 19, none, .val (.load (.agg 2) (.slot 4))⟩, []),
    (⟨some 20, none, .call 11 [(.slot 19)]⟩, [4, 2]),
    (⟨some 21, none, .call 10 [(.slot 18), (.slot 20)]⟩, [3, 5, 5]),
    (⟨some 22, none, .val (.eq false (.plain .leaf [.bool]) (.slot 17) (.slot 21))⟩, [2, 6]),
    (⟨some 23, none, .val (.move (.slot 22))⟩, [7, 6]),
    (⟨some 24, some (23, true), .val (.move (.slot 0))⟩, [8]),
    (⟨some 25, some (23, true), .val (.move (.slot 2))⟩, [8]),
    (⟨some 26, some (23, true), .call 12 [(.slot 24), (.slot 25)]⟩, [9, 10, 8, 8]),
    (⟨some 27, some (23, true), .val (.move (.slot 7))⟩, [8]),
    (⟨some 28, some (23, true), .val (.move (.slot 2))⟩, [8]),
    (⟨some 29, some (23, true), .call 13 [(.slot 27), (.slot 28)]⟩, [12, 13, 11, 8]),
    (⟨some 30, some (23, true), .val (.eq false (.plain .leaf [.bool]) (.slot 26) (.slot 29))⟩, [11, 14, 8]),
    (⟨some 31, none, .val (.pick (.slot 23) (.slot 30) (.const (.bool false)))⟩, [8, 15]),
    (⟨some 6, none, .val (.move (.slot 31))⟩, [16, 14, 0, 1, 2, 3, 4, 5, 6, 7, 8, 9, 10, 11, 12, 13, 14, 15, 16])]
abbrev corollarylaw21_ChainTells_r6t : List LOper := []
def corollarylaw21_ChainTells : LFn := ⟨(.seq (.ops corollarylaw21_ChainTells_r0) (.seq (.seq (.ops corollarylaw21_ChainTells_r1) (.cond (.slot 9) (.seq (.ops corollarylaw21_ChainTells_r2) .ret) .skip)) (.seq (.seq (.ops corollarylaw21_ChainTells_r3) (.cond (.slot 12) (.seq (.ops corollarylaw21_ChainTells_r4) .ret) .skip)) (.seq (.ops corollarylaw21_ChainTells_r5) (.seq (.draw 18 corollarylaw21_ChainTells_r6 corollarylaw21_ChainTells_r6t) .ret))))), 32, [.slot 6]⟩
theorem corollarylaw21_ChainTells_low : lowerFn Try.prog 3 = some corollarylaw21_ChainTells := by kernel_rfl

abbrev corollarylaw21_ChainOf_r0 : List LOper := [
    ⟨some 3, none, .box (.agg 2) (.slot 1)⟩,
    ⟨some 4, none, .val (.move (.const (.bool false)))⟩]
abbrev corollarylaw21_ChainOf_r1 : List LOper := [
    ⟨some 9, none, .call 7 []⟩,
    ⟨some 10, none, .val (.not (.slot 9))⟩]
abbrev corollarylaw21_ChainOf_r2 : List LOper := [
    ⟨some 4, none, .val (.move (.const (.bool false)))⟩]
abbrev corollarylaw21_ChainOf_r3 : List LOper := [
    ⟨some 11, none, .val (.move (.slot 0))⟩,
    ⟨some 12, none, .val (.len (.slot 11))⟩,
    ⟨some 13, none, .val (.bin .gtr (.slot 12) (.const (.int .i64 60)))⟩]
abbrev corollarylaw21_ChainOf_r4 : List LOper := [
    ⟨some 4, none, .val (.move (.const (.bool true)))⟩]
abbrev corollarylaw21_ChainOf_r5 : List LOper := [
    ⟨some 14, none, .val (.move (.slot 0))⟩,
    ⟨some 15, none, .call 8 [(.slot 14)]⟩,
    ⟨some 5, none, .val (.move (.slot 15))⟩]
abbrev corollarylaw21_ChainOf_r6 : List LOper := [
    ⟨some 16, none, .bslice (.agg 2) []⟩,
    ⟨some 17, none, .val (.move (.slot 0))⟩,
    ⟨some 18, none, .append (.agg 2) 16 (.slot 16) (.slot 17)⟩,
    ⟨some 6, none, .val (.move (.slot 18))⟩]
abbrev corollarylaw21_ChainOf_r7 : List LOper := [
    ⟨some 19, none, .val (.move (.slot 5))⟩,
    ⟨some 20, none, .call 14 [(.slot 19)]⟩,
    ⟨some 7, none, .val (.move (.slot 20))⟩]
abbrev corollarylaw21_ChainOf_r8 : List (LOper × List Nat) := [
    (⟨some 21, none, .bslice (.agg 2) []⟩, []),
    (⟨some 22, none, .val (.move (.slot 5))⟩, []),
    (⟨some 23, none, .append (.agg 2) 16 (.slot 21) (.slot 22)⟩, [0, 1]),
    (⟨some 24, none, .val (.load (.agg 2) (.slot 3))⟩, []),
    (⟨some 25, none, .call 11 [(.slot 24)]⟩, [3, 2]),
    (⟨some 26, none, .bslice (.agg 2) [(.slot 25)]⟩, [4]),
    (⟨some 27, none, .append (.agg 2) 16 (.slot 23) (.slot 26)⟩, [2, 5, 4]),
    (⟨some 28, none, .call 14 [(.slot 27)]⟩, [6, 6]),
    (⟨some 8, none, .val (.move (.slot 28))⟩, [7, 7, 0, 1, 2, 3, 4, 5, 6, 7])]
abbrev corollarylaw21_ChainOf_r8t : List LOper := []
abbrev corollarylaw21_ChainOf_r9 : List LOper := [
    ⟨some 29, none, .val (.move (.slot 6))⟩,
    ⟨some 30, none, .call 16 [(.slot 29)]⟩,
    ⟨some 31, none, .val (.move (.slot 7))⟩,
    ⟨some 32, none, .call 15 [(.slot 30), (.slot 31)]⟩,
    ⟨some 33, none, .val (.move (.slot 32))⟩,
    ⟨some 34, some (33, true), .val (.move (.slot 6))⟩,
    ⟨some 35, some (33, true), .call 17 [(.slot 34)]⟩,
    ⟨some 36, some (33, true), .val (.move (.slot 5))⟩,
    ⟨some 37, some (33, true), .val (.move (.slot 7))⟩,
    ⟨some 38, some (33, true), .call 18 [(.slot 36), (.slot 37)]⟩,
    ⟨some 39, some (33, true), .val (.eq false (.plain .leaf [.bool]) (.slot 35) (.slot 38))⟩,
    ⟨some 40, none, .val (.pick (.slot 33) (.slot 39) (.const (.bool false)))⟩,
    ⟨some 41, none, .val (.move (.slot 40))⟩,
    ⟨some 42, some (41, true), .val (.move (.slot 6))⟩,
    ⟨some 43, some (41, true), .val (.load (.agg 2) (.slot 3))⟩,
    ⟨some 44, some (41, true), .call 19 [(.slot 42), (.slot 43)]⟩,
    ⟨some 45, some (41, true), .val (.move (.slot 8))⟩,
    ⟨some 46, some (41, true), .call 15 [(.slot 44), (.slot 45)]⟩,
    ⟨some 47, none, .val (.pick (.slot 41) (.slot 46) (.const (.bool false)))⟩,
    ⟨some 48, none, .val (.move (.slot 47))⟩,
    ⟨some 49, some (48, true), .val (.move (.slot 6))⟩,
    ⟨some 50, some (48, true), .val (.move (.slot 5))⟩,
    ⟨some 51, some (48, true), .call 15 [(.slot 49), (.slot 50)]⟩,
    ⟨some 52, none, .val (.pick (.slot 48) (.slot 51) (.const (.bool false)))⟩,
    ⟨some 4, none, .val (.move (.slot 52))⟩]
def corollarylaw21_ChainOf : LFn := ⟨(.seq (.ops corollarylaw21_ChainOf_r0) (.seq (.seq (.ops corollarylaw21_ChainOf_r1) (.cond (.slot 10) (.seq (.ops corollarylaw21_ChainOf_r2) .ret) .skip)) (.seq (.seq (.ops corollarylaw21_ChainOf_r3) (.cond (.slot 13) (.seq (.ops corollarylaw21_ChainOf_r4) .ret) .skip)) (.seq (.ops corollarylaw21_ChainOf_r5) (.seq (.ops corollarylaw21_ChainOf_r6) (.seq (.ops corollarylaw21_ChainOf_r7) (.seq (.draw 9 corollarylaw21_ChainOf_r8 corollarylaw21_ChainOf_r8t) (.seq (.ops corollarylaw21_ChainOf_r9) .ret)))))))), 53, [.slot 4]⟩
theorem corollarylaw21_ChainOf_low : lowerFn Try.prog 4 = some corollarylaw21_ChainOf := by kernel_rfl

abbrev corollarylaw21_ChainLaws_r0 : List LOper := [
    ⟨some 5, none, .box (.agg 2) (.slot 2)⟩,
    ⟨some 6, none, .val (.move (.const (.bool false)))⟩]
abbrev corollarylaw21_ChainLaws_r1 : List LOper := [
    ⟨some 14, none, .call 7 []⟩,
    ⟨some 15, none, .val (.not (.slot 14))⟩]
abbrev corollarylaw21_ChainLaws_r2 : List LOper := [
    ⟨some 6, none, .val (.move (.const (.bool false)))⟩]
abbrev corollarylaw21_ChainLaws_r3 : List LOper := [
    ⟨some 16, none, .val (.move (.slot 0))⟩,
    ⟨some 17, none, .val (.len (.slot 16))⟩,
    ⟨some 18, none, .val (.bin .gtr (.slot 17) (.const (.int .i64 40)))⟩,
    ⟨some 19, none, .val (.move (.slot 18))⟩,
    ⟨some 20, some (19, false), .val (.move (.slot 1))⟩,
    ⟨some 21, some (19, false), .val (.len (.slot 20))⟩,
    ⟨some 22, some (19, false), .val (.bin .gtr (.slot 21) (.const (.int .i64 40)))⟩,
    ⟨some 23, none, .val (.pick (.slot 19) (.const (.bool true)) (.slot 22))⟩]
abbrev corollarylaw21_ChainLaws_r4 : List LOper := [
    ⟨some 6, none, .val (.move (.const (.bool true)))⟩]
abbrev corollarylaw21_ChainLaws_r5 : List LOper := [
    ⟨some 24, none, .bslice (.agg 2) []⟩,
    ⟨some 7, none, .val (.move (.slot 24))⟩]
abbrev corollarylaw21_ChainLaws_r6 : List LOper := [
    ⟨some 25, none, .bslice (.agg 2) []⟩,
    ⟨some 8, none, .val (.move (.slot 25))⟩]
abbrev corollarylaw21_ChainLaws_r7 : List LOper := [
    ⟨some 26, none, .val (.move (.slot 0))⟩,
    ⟨some 27, none, .val (.len (.slot 26))⟩,
    ⟨some 28, none, .val (.bin .sub (.slot 27) (.const (.int .i64 1)))⟩,
    ⟨some 9, none, .val (.move (.slot 28))⟩]
abbrev corollarylaw21_ChainLaws_r8 : List LOper := [
    ⟨some 29, none, .val (.move (.slot 9))⟩,
    ⟨some 30, none, .val (.bin .geq (.slot 29) (.const (.int .i64 0)))⟩]
abbrev corollarylaw21_ChainLaws_r9 : List LOper := [
    ⟨some 33, none, .val (.move (.slot 7))⟩,
    ⟨some 34, none, .val (.move (.slot 0))⟩,
    ⟨some 35, none, .val (.move (.slot 9))⟩,
    ⟨some 36, none, .val (.idxA (.agg 2) (.slot 34) (.slot 35))⟩,
    ⟨some 37, none, .val (.load (.agg 2) (.slot 36))⟩,
    ⟨some 38, none, .bslice (.agg 2) [(.slot 37)]⟩,
    ⟨some 39, none, .append (.agg 2) 16 (.slot 33) (.slot 38)⟩,
    ⟨some 7, none, .val (.move (.slot 39))⟩]
abbrev corollarylaw21_ChainLaws_r10 : List LOper := [
    ⟨some 40, none, .val (.move (.slot 0))⟩,
    ⟨some 41, none, .val (.move (.slot 9))⟩,
    ⟨some 42, none, .val (.idxA (.agg 2) (.slot 40) (.slot 41))⟩,
    ⟨some 43, none, .val (.load (.agg 2) (.slot 42))⟩,
    ⟨some 44, none, .call 20 [(.slot 43)]⟩]
abbrev corollarylaw21_ChainLaws_r11 : List LOper := [
    ⟨some 45, none, .val (.move (.slot 8))⟩,
    ⟨some 46, none, .val (.move (.slot 0))⟩,
    ⟨some 47, none, .val (.move (.slot 9))⟩,
    ⟨some 48, none, .val (.idxA (.agg 2) (.slot 46) (.slot 47))⟩,
    ⟨some 49, none, .val (.load (.agg 2) (.slot 48))⟩,
    ⟨some 50, none, .bslice (.agg 2) [(.slot 49)]⟩,
    ⟨some 51, none, .append (.agg 2) 16 (.slot 45) (.slot 50)⟩,
    ⟨some 8, none, .val (.move (.slot 51))⟩]
abbrev corollarylaw21_ChainLaws_r12 : List LOper := [
    ⟨some 31, none, .val (.move (.slot 9))⟩,
    ⟨some 32, none, .val (.bin .sub (.slot 31) (.const (.int .i64 1)))⟩,
    ⟨some 9, none, .val (.move (.slot 32))⟩]
abbrev corollarylaw21_ChainLaws_l0 : LCode := (.seq (.seq (.ops corollarylaw21_ChainLaws_r8) (.cond (.slot 30) .skip (.exit 0))) (.seq (.block 1 (.seq (.ops corollarylaw21_ChainLaws_r9) (.seq (.ops corollarylaw21_ChainLaws_r10) (.cond (.slot 44) (.ops corollarylaw21_ChainLaws_r11) .skip)))) (.ops corollarylaw21_ChainLaws_r12)))
abbrev corollarylaw21_ChainLaws_r13 : List LOper := [
    ⟨some 52, none, .val (.move (.slot 0))⟩,
    ⟨some 53, none, .call 16 [(.slot 52)]⟩,
    ⟨some 54, none, .val (.move (.slot 7))⟩,
    ⟨some 55, none, .call 16 [(.slot 54)]⟩,
    ⟨some 10, none, .val (.move (.slot 53))⟩,
    ⟨some 11, none, .val (.move (.slot 55))⟩]
abbrev corollarylaw21_ChainLaws_r14 : List (LOper × List Nat) := [
    (⟨some 56, none, .val (.move (.slot 10))⟩, []),
    (⟨some 57, none, .val (.len (.slot 56))⟩, [0]),
    (⟨some 58, none, .val (.move (.slot 11))⟩, []),
    (⟨some 59, none, .val (.len (.slot 58))⟩, [2]),
    (⟨some 60, none, .val (.bin .neq (.slot 57) (.slot 59))⟩, [1, 3]),
    (⟨some 61, none, .val (.move (.slot 60))⟩, [4]),
    (⟨some 62, some (61, false), .val (.move (.slot 10))⟩, [5]),
    (⟨some 63, some (61, false), .val (.load (.agg 2) (.slot 5))⟩, [5]),
    (⟨some 64, some (61, false), .call 9 [(.slot 62), (.slot 63)]⟩, [6, 7, 5, 5]),
    (⟨some 65, some (61, false), .val (.move (.slot 8))⟩, [5]),
    (⟨some 66, some (61, false), .val (.load (.agg 2) (.slot 5))⟩, [5]),
    (⟨some 67, some (61, false), .call 9 [(.slot 65), (.slot 66)]⟩, [9, 10, 8, 5]),
    (⟨some 68, some (61, false), .val (.eq true (.plain .leaf [.bool]) (.slot 64) (.slot 67))⟩, [8, 11, 5]),
    (⟨some 69, none, .val (.pick (.slot 61) (.const (.bool true)) (.slot 68))⟩, [5, 12]),
    (⟨some 70, none, .val (.move (.slot 69))⟩, [13, 11]),
    (⟨some 71, some (70, false), .val (.move (.slot 10))⟩, [14]),
    (⟨some 72, some (70, false), .call 17 [(.slot 71)]⟩, [15, 14, 14]),
    (⟨some 73, some (70, false), .val (.not (.slot 72))⟩, [16, 14]),
    (⟨some 74, none, .val (.pick (.slot 70) (.const (.bool true)) (.slot 73))⟩, [14, 17])]
abbrev corollarylaw21_ChainLaws_r14t : List LOper := []
abbrev corollarylaw21_ChainLaws_r15 : List LOper := [
    ⟨some 6, none, .val (.move (.const (.bool false)))⟩]
abbrev corollarylaw21_ChainLaws_r16 : List LOper := [
    ⟨some 75, none, .val (.move (.slot 10))⟩,
    ⟨some 76, none, .val (.len (.slot 75))⟩,
    ⟨some 77, none, .val (.move (.const (.int .i64 0)))⟩]
abbrev corollarylaw21_ChainLaws_r17 : List LOper := [
    ⟨some 78, none, .val (.bin .lss (.slot 77) (.slot 76))⟩]
abbrev corollarylaw21_ChainLaws_r18 : List LOper := [
    ⟨some 79, none, .val (.move (.slot 77))⟩,
    ⟨some 12, none, .val (.move (.slot 79))⟩]
abbrev corollarylaw21_ChainLaws_r19 : List (LOper × List Nat) := [
    (⟨some 80, none, .val (.move (.slot 10))⟩, []),
    (⟨some 81, none, .val (.move (.slot 12))⟩, []),
    (⟨some 82, none, .val (.idxA (.agg 2) (.slot 80) (.slot 81))⟩, [0, 1]),
    (⟨some 83, none, .val (.load (.agg 2) (.slot 82))⟩, [2]),
    (⟨some 84, none, .val (.move (.slot 11))⟩, []),
    (⟨some 85, none, .val (.move (.slot 12))⟩, []),
    (⟨some 86, none, .val (.idxA (.agg 2) (.slot 84) (.slot 85))⟩, [4, 5]),
    (⟨some 87, none, .val (.load (.agg 2) (.slot 86))⟩, [6]),
    (⟨some 88, none, .val (.eq true (.plain (.agg 2) [.int, .int]) (.slot 83) (.slot 87))⟩, [3, 7])]
abbrev corollarylaw21_ChainLaws_r19t : List LOper := []
abbrev corollarylaw21_ChainLaws_r20 : List LOper := [
    ⟨some 6, none, .val (.move (.const (.bool false)))⟩]
abbrev corollarylaw21_ChainLaws_r21 : List LOper := [
    ⟨some 89, none, .val (.bin .add (.slot 77) (.const (.int .i64 1)))⟩,
    ⟨some 77, none, .val (.move (.slot 89))⟩]
abbrev corollarylaw21_ChainLaws_l1 : LCode := (.seq (.ops corollarylaw21_ChainLaws_r17) (.seq (.cond (.slot 78) .skip (.exit 2)) (.seq (.block 3 (.seq (.ops corollarylaw21_ChainLaws_r18) (.seq (.draw 9 corollarylaw21_ChainLaws_r19 corollarylaw21_ChainLaws_r19t) (.cond (.slot 88) (.seq (.ops corollarylaw21_ChainLaws_r20) .ret) .skip)))) (.ops corollarylaw21_ChainLaws_r21))))
abbrev corollarylaw21_ChainLaws_r22 : List LOper := [
    ⟨some 90, none, .val (.move (.slot 1))⟩,
    ⟨some 91, none, .call 16 [(.slot 90)]⟩,
    ⟨some 13, none, .val (.move (.slot 91))⟩]
abbrev corollarylaw21_ChainLaws_r23 : List LOper := [
    ⟨some 92, none, .val (.move (.slot 10))⟩,
    ⟨some 93, none, .val (.move (.slot 10))⟩,
    ⟨some 94, none, .call 21 [(.slot 92), (.slot 93)]⟩,
    ⟨some 95, none, .val (.not (.slot 94))⟩,
    ⟨some 96, none, .val (.move (.slot 95))⟩,
    ⟨some 97, some (96, false), .val (.move (.slot 10))⟩,
    ⟨some 98, some (96, false), .val (.move (.slot 13))⟩,
    ⟨some 99, some (96, false), .call 22 [(.slot 97), (.slot 98)]⟩,
    ⟨some 100, some (96, false), .val (.move (.slot 10))⟩,
    ⟨some 101, some (96, false), .call 21 [(.slot 99), (.slot 100)]⟩,
    ⟨some 102, some (96, false), .val (.not (.slot 101))⟩,
    ⟨some 103, none, .val (.pick (.slot 96) (.const (.bool true)) (.slot 102))⟩]
abbrev corollarylaw21_ChainLaws_r24 : List LOper := [
    ⟨some 6, none, .val (.move (.const (.bool false)))⟩]
abbrev corollarylaw21_ChainLaws_r25 : List LOper := [
    ⟨some 104, none, .val (.move (.slot 10))⟩,
    ⟨some 105, none, .val (.move (.slot 13))⟩,
    ⟨some 106, none, .call 21 [(.slot 104), (.slot 105)]⟩,
    ⟨some 107, none, .val (.move (.slot 106))⟩,
    ⟨some 108, some (107, true), .val (.move (.slot 13))⟩,
    ⟨some 109, some (107, true), .val (.move (.slot 10))⟩,
    ⟨some 110, some (107, true), .call 21 [(.slot 108), (.slot 109)]⟩,
    ⟨some 111, none, .val (.pick (.slot 107) (.slot 110) (.const (.bool false)))⟩,
    ⟨some 112, none, .val (.move (.slot 111))⟩,
    ⟨some 113, some (112, true), .val (.move (.slot 10))⟩,
    ⟨some 114, some (112, true), .val (.len (.slot 113))⟩,
    ⟨some 115, some (112, true), .val (.move (.slot 13))⟩,
    ⟨some 116, some (112, true), .val (.len (.slot 115))⟩,
    ⟨some 117, some (112, true), .val (.bin .neq (.slot 114) (.slot 116))⟩,
    ⟨some 118, none, .val (.pick (.slot 112) (.slot 117) (.const (.bool false)))⟩]
abbrev corollarylaw21_ChainLaws_r26 : List LOper := [
    ⟨some 6, none, .val (.move (.const (.bool false)))⟩]
abbrev corollarylaw21_ChainLaws_r27 : List LOper := [
    ⟨some 119, none, .val (.move (.slot 10))⟩,
    ⟨some 120, none, .val (.move (.slot 13))⟩,
    ⟨some 121, none, .call 21 [(.slot 119), (.slot 120)]⟩,
    ⟨some 122, none, .val (.not (.slot 121))⟩,
    ⟨some 123, none, .val (.move (.slot 122))⟩,
    ⟨some 124, some (123, false), .val (.move (.slot 13))⟩,
    ⟨some 125, some (123, false), .val (.load (.agg 2) (.slot 5))⟩,
    ⟨some 126, some (123, false), .call 9 [(.slot 124), (.slot 125)]⟩,
    ⟨some 127, some (123, false), .val (.not (.slot 126))⟩,
    ⟨some 128, none, .val (.pick (.slot 123) (.const (.bool true)) (.slot 127))⟩,
    ⟨some 129, none, .val (.move (.slot 128))⟩,
    ⟨some 130, some (129, false), .val (.move (.slot 10))⟩,
    ⟨some 131, some (129, false), .val (.load (.agg 2) (.slot 5))⟩,
    ⟨some 132, some (129, false), .call 9 [(.slot 130), (.slot 131)]⟩,
    ⟨some 133, none, .val (.pick (.slot 129) (.const (.bool true)) (.slot 132))⟩,
    ⟨some 6, none, .val (.move (.slot 133))⟩]
def corollarylaw21_ChainLaws : LFn := ⟨(.seq (.ops corollarylaw21_ChainLaws_r0) (.seq (.seq (.ops corollarylaw21_ChainLaws_r1) (.cond (.slot 15) (.seq (.ops corollarylaw21_ChainLaws_r2) .ret) .skip)) (.seq (.seq (.ops corollarylaw21_ChainLaws_r3) (.cond (.slot 23) (.seq (.ops corollarylaw21_ChainLaws_r4) .ret) .skip)) (.seq (.ops corollarylaw21_ChainLaws_r5) (.seq (.ops corollarylaw21_ChainLaws_r6) (.seq (.seq (.ops corollarylaw21_ChainLaws_r7) (.block 0 (.loop corollarylaw21_ChainLaws_l0))) (.seq (.ops corollarylaw21_ChainLaws_r13) (.seq (.seq (.draw 19 corollarylaw21_ChainLaws_r14 corollarylaw21_ChainLaws_r14t) (.cond (.slot 74) (.seq (.ops corollarylaw21_ChainLaws_r15) .ret) .skip)) (.seq (.seq (.ops corollarylaw21_ChainLaws_r16) (.block 2 (.loop corollarylaw21_ChainLaws_l1))) (.seq (.ops corollarylaw21_ChainLaws_r22) (.seq (.seq (.ops corollarylaw21_ChainLaws_r23) (.cond (.slot 103) (.seq (.ops corollarylaw21_ChainLaws_r24) .ret) .skip)) (.seq (.seq (.ops corollarylaw21_ChainLaws_r25) (.cond (.slot 118) (.seq (.ops corollarylaw21_ChainLaws_r26) .ret) .skip)) (.seq (.ops corollarylaw21_ChainLaws_r27) .ret))))))))))))), 134, [.slot 6]⟩
theorem corollarylaw21_ChainLaws_low : lowerFn Try.prog 5 = some corollarylaw21_ChainLaws := by kernel_rfl

abbrev corollarylaw21_ChainTwo_r0 : List LOper := [
    ⟨some 5, none, .box (.agg 2) (.slot 2)⟩,
    ⟨some 6, none, .val (.move (.const (.bool false)))⟩]
abbrev corollarylaw21_ChainTwo_r1 : List LOper := [
    ⟨some 10, none, .call 7 []⟩,
    ⟨some 11, none, .val (.not (.slot 10))⟩]
abbrev corollarylaw21_ChainTwo_r2 : List LOper := [
    ⟨some 6, none, .val (.move (.const (.bool false)))⟩]
abbrev corollarylaw21_ChainTwo_r3 : List LOper := [
    ⟨some 12, none, .val (.move (.slot 0))⟩,
    ⟨some 13, none, .val (.len (.slot 12))⟩,
    ⟨some 14, none, .val (.bin .gtr (.slot 13) (.const (.int .i64 40)))⟩,
    ⟨some 15, none, .val (.move (.slot 14))⟩,
    ⟨some 16, some (15, false), .val (.move (.slot 1))⟩,
    ⟨some 17, some (15, false), .val (.len (.slot 16))⟩,
    ⟨some 18, some (15, false), .val (.bin .gtr (.slot 17) (.const (.int .i64 40)))⟩,
    ⟨some 19, none, .val (.pick (.slot 15) (.const (.bool true)) (.slot 18))⟩]
abbrev corollarylaw21_ChainTwo_r4 : List LOper := [
    ⟨some 6, none, .val (.move (.const (.bool true)))⟩]
abbrev corollarylaw21_ChainTwo_r5 : List LOper := [
    ⟨some 20, none, .val (.move (.slot 0))⟩,
    ⟨some 21, none, .call 8 [(.slot 20)]⟩,
    ⟨some 22, none, .val (.move (.slot 1))⟩,
    ⟨some 23, none, .call 8 [(.slot 22)]⟩,
    ⟨some 7, none, .val (.move (.slot 21))⟩,
    ⟨some 8, none, .val (.move (.slot 23))⟩]
abbrev corollarylaw21_ChainTwo_r6 : List LOper := [
    ⟨some 24, none, .bslice (.agg 2) []⟩,
    ⟨some 25, none, .val (.move (.slot 7))⟩,
    ⟨some 26, none, .append (.agg 2) 16 (.slot 24) (.slot 25)⟩,
    ⟨some 27, none, .val (.move (.slot 8))⟩,
    ⟨some 28, none, .append (.agg 2) 16 (.slot 26) (.slot 27)⟩,
    ⟨some 29, none, .call 14 [(.slot 28)]⟩,
    ⟨some 9, none, .val (.move (.slot 29))⟩]
abbrev corollarylaw21_ChainTwo_r7 : List (LOper × List Nat) := [
    (⟨some 30, none, .val (.move (.slot 0))⟩, []),
    (⟨some 31, none, .val (.move (.slot 1))⟩, []),
    (⟨some 32, none, .call 21 [(.slot 30), (.slot 31)]⟩, [0, 1]),
    (⟨some 33, none, .val (.move (.slot 7))⟩, []),
    (⟨some 34, none, .val (.move (.slot 8))⟩, []),
    (⟨some 35, none, .call 23 [(.slot 33), (.slot 34)]⟩, [3, 4, 2]),
    (⟨some 36, none, .val (.eq false (.plain .leaf [.bool]) (.slot 32) (.slot 35))⟩, [2, 5]),
    (⟨some 37, none, .val (.move (.slot 36))⟩, [6, 5]),
    (⟨some 38, some (37, true), .val (.move (.slot 0))⟩, [7]),
    (⟨some 39, some (37, true), .val (.move (.slot 1))⟩, [7]),
    (⟨some 40, some (37, true), .call 22 [(.slot 38), (.slot 39)]⟩, [8, 9, 7, 7]),
    (⟨some 41, some (37, true), .val (.move (.slot 9))⟩, [7]),
    (⟨some 42, some (37, true), .call 15 [(.slot 40), (.slot 41)]⟩, [10, 11, 10, 7]),
    (⟨some 43, none, .val (.pick (.slot 37) (.slot 42) (.const (.bool false)))⟩, [7, 12]),
    (⟨some 44, none, .val (.move (.slot 43))⟩, [13, 12]),
    (⟨some 45, some (44, true), .val (.move (.slot 0))⟩, [14]),
    (⟨some 46, some (44, true), .val (.load (.agg 2) (.slot 5))⟩, [14]),
    (⟨some 47, some (44, true), .call 24 [(.slot 45), (.slot 46)]⟩, [15, 16, 14, 14]),
    (⟨some 48, some (44, true), .val (.move (.slot 7))⟩, [14]),
    (⟨some 49, some (44, true), .val (.load (.agg 2) (.slot 5))⟩, [14]),
    (⟨some 50, some (44, true), .call 26 [(.slot 49)]⟩, [19, 17, 14]),
    (⟨some 51, some (44, true), .call 25 [(.slot 48), (.slot 50)]⟩, [18, 20, 20, 14]),
    (⟨some 52, some (44, true), .call 15 [(.slot 47), (.slot 51)]⟩, [17, 21, 21, 14]),
    (⟨some 53, none, .val (.pick (.slot 44) (.slot 52) (.const (.bool false)))⟩, [14, 22]),
    (⟨some 6, none, .val (.move (.slot 53))⟩, [23, 22, 0, 1, 2, 3, 4, 5, 6, 7, 8, 9, 10, 11, 12, 13, 14, 15, 16, 17, 18, 19, 20, 21, 22, 23])]
abbrev corollarylaw21_ChainTwo_r7t : List LOper := []
def corollarylaw21_ChainTwo : LFn := ⟨(.seq (.ops corollarylaw21_ChainTwo_r0) (.seq (.seq (.ops corollarylaw21_ChainTwo_r1) (.cond (.slot 11) (.seq (.ops corollarylaw21_ChainTwo_r2) .ret) .skip)) (.seq (.seq (.ops corollarylaw21_ChainTwo_r3) (.cond (.slot 19) (.seq (.ops corollarylaw21_ChainTwo_r4) .ret) .skip)) (.seq (.ops corollarylaw21_ChainTwo_r5) (.seq (.ops corollarylaw21_ChainTwo_r6) (.seq (.draw 25 corollarylaw21_ChainTwo_r7 corollarylaw21_ChainTwo_r7t) .ret)))))), 54, [.slot 6]⟩
theorem corollarylaw21_ChainTwo_low : lowerFn Try.prog 6 = some corollarylaw21_ChainTwo := by kernel_rfl

abbrev corollarylaw21_alive_r0 : List LOper := [
    ⟨some 0, none, .val (.move (.const (.bool false)))⟩]
abbrev corollarylaw21_alive_r1 : List LOper := [
    ⟨some 1, none, .val (.move (.const (.fn (.func 27) [] [])))⟩]
abbrev corollarylaw21_alive_r2 : List LOper := [
    ⟨some 3, none, .val (.move (.slot 1))⟩,
    ⟨some 4, none, .callv (.slot 3) [(.const (.int .i64 2)), (.const (.int .i64 3))]⟩,
    ⟨some 5, none, .val (.move (.slot 1))⟩,
    ⟨some 6, none, .callv (.slot 5) [(.const (.int .i64 2)), (.const (.int .i64 1))]⟩,
    ⟨some 7, none, .val (.move (.slot 1))⟩,
    ⟨some 8, none, .callv (.slot 7) [(.const (.int .i64 1)), (.const (.int .i64 3))]⟩,
    ⟨some 9, none, .bslice (.agg 2) [(.slot 4), (.slot 6), (.slot 8)]⟩,
    ⟨some 10, none, .call 16 [(.slot 9)]⟩,
    ⟨some 2, none, .val (.move (.slot 10))⟩]
abbrev corollarylaw21_alive_r3 : List (LOper × List Nat) := [
    (⟨some 11, none, .val (.move (.slot 2))⟩, []),
    (⟨some 12, none, .val (.len (.slot 11))⟩, [0]),
    (⟨some 13, none, .val (.bin .eql (.slot 12) (.const (.int .i64 2)))⟩, [1]),
    (⟨some 14, none, .val (.move (.slot 13))⟩, [2]),
    (⟨some 15, some (14, true), .val (.move (.slot 2))⟩, [3]),
    (⟨some 16, some (14, true), .val (.idxA (.agg 2) (.slot 15) (.const (.int .i64 0)))⟩, [4, 3]),
    (⟨some 17, some (14, true), .val (.load (.agg 2) (.slot 16))⟩, [5, 3]),
    (⟨some 18, some (14, true), .val (.move (.slot 1))⟩, [3]),
    (⟨some 19, some (14, true), .callv (.slot 18) [(.const (.int .i64 1)), (.const (.int .i64 3))]⟩, [7, 3, 3]),
    (⟨some 20, some (14, true), .val (.eq false (.plain (.agg 2) [.int, .int]) (.slot 17) (.slot 19))⟩, [6, 8, 3]),
    (⟨some 21, none, .val (.pick (.slot 14) (.slot 20) (.const (.bool false)))⟩, [3, 9]),
    (⟨some 22, none, .val (.move (.slot 21))⟩, [10, 8]),
    (⟨some 23, some (22, true), .val (.move (.slot 2))⟩, [11]),
    (⟨some 24, some (22, true), .val (.idxA (.agg 2) (.slot 23) (.const (.int .i64 1)))⟩, [12, 11]),
    (⟨some 25, some (22, true), .val (.load (.agg 2) (.slot 24))⟩, [13, 11]),
    (⟨some 26, some (22, true), .val (.move (.slot 1))⟩, [11]),
    (⟨some 27, some (22, true), .callv (.slot 26) [(.const (.int .i64 2)), (.const (.int .i64 1))]⟩, [15, 11, 11]),
    (⟨some 28, some (22, true), .val (.eq false (.plain (.agg 2) [.int, .int]) (.slot 25) (.slot 27))⟩, [14, 16, 11]),
    (⟨some 29, none, .val (.pick (.slot 22) (.slot 28) (.const (.bool false)))⟩, [11, 17]),
    (⟨some 0, none, .val (.move (.slot 29))⟩, [18, 16, 0, 1, 2, 3, 4, 5, 6, 7, 8, 9, 10, 11, 12, 13, 14, 15, 16, 17, 18])]
abbrev corollarylaw21_alive_r3t : List LOper := []
def corollarylaw21_alive : LFn := ⟨(.seq (.ops corollarylaw21_alive_r0) (.seq (.ops corollarylaw21_alive_r1) (.seq (.ops corollarylaw21_alive_r2) (.seq (.draw 20 corollarylaw21_alive_r3 corollarylaw21_alive_r3t) .ret)))), 30, [.slot 0]⟩
theorem corollarylaw21_alive_low : lowerFn Try.prog 7 = some corollarylaw21_alive := by kernel_rfl

abbrev corollarylaw21_Document_r0 : List LOper := [
    ⟨some 2, none, .val (.move (.const (.sl (.agg 2) .nil [])))⟩]
abbrev corollarylaw21_Document_r1 : List LOper := [
    ⟨some 3, none, .val (.move (.const (.sl (.agg 2) .nil [])))⟩]
abbrev corollarylaw21_Document_r2 : List LOper := [
    ⟨some 6, none, .val (.move (.slot 0))⟩,
    ⟨some 7, none, .val (.len (.slot 6))⟩,
    ⟨some 8, none, .val (.move (.const (.int .i64 0)))⟩]
abbrev corollarylaw21_Document_r3 : List LOper := [
    ⟨some 9, none, .val (.bin .lss (.slot 8) (.slot 7))⟩]
abbrev corollarylaw21_Document_r4 : List LOper := [
    ⟨some 10, none, .val (.idxA (.agg 2) (.slot 6) (.slot 8))⟩,
    ⟨some 11, none, .val (.load (.agg 2) (.slot 10))⟩,
    ⟨some 5, none, .box (.agg 2) (.const (.agg [(.int .i64 0), (.int .i64 0)]))⟩,
    ⟨none, none, .store (.agg 2) (.slot 5) (.slot 11)⟩]
abbrev corollarylaw21_Document_r5 : List LOper := [
    ⟨some 12, none, .val (.move (.slot 3))⟩,
    ⟨some 13, none, .val (.load (.agg 2) (.slot 5))⟩,
    ⟨some 14, none, .call 11 [(.slot 13)]⟩,
    ⟨some 15, none, .bslice (.agg 2) [(.slot 14)]⟩,
    ⟨some 16, none, .append (.agg 2) 16 (.slot 12) (.slot 15)⟩,
    ⟨some 3, none, .val (.move (.slot 16))⟩]
abbrev corollarylaw21_Document_r6 : List LOper := [
    ⟨some 17, none, .val (.bin .add (.slot 8) (.const (.int .i64 1)))⟩,
    ⟨some 8, none, .val (.move (.slot 17))⟩]
abbrev corollarylaw21_Document_l0 : LCode := (.seq (.ops corollarylaw21_Document_r3) (.seq (.cond (.slot 9) .skip (.exit 0)) (.seq (.block 1 (.seq (.ops corollarylaw21_Document_r4) (.ops corollarylaw21_Document_r5))) (.ops corollarylaw21_Document_r6))))
abbrev corollarylaw21_Document_r7 : List LOper := [
    ⟨some 18, none, .val (.move (.slot 3))⟩,
    ⟨some 2, none, .val (.move (.slot 18))⟩]
def corollarylaw21_Document : LFn := ⟨(.seq (.ops corollarylaw21_Document_r0) (.seq (.ops corollarylaw21_Document_r1) (.seq (.seq (.ops corollarylaw21_Document_r2) (.block 0 (.loop corollarylaw21_Document_l0))) (.seq (.ops corollarylaw21_Document_r7) .ret)))), 19, [.slot 2]⟩
theorem corollarylaw21_Document_low : lowerFn Try.prog 8 = some corollarylaw21_Document := by kernel_rfl

abbrev chain_Reaches_r0 : List LOper := [
    ⟨some 3, none, .box (.agg 2) (.slot 1)⟩,
    ⟨some 4, none, .val (.move (.const (.bool false)))⟩]
abbrev chain_Reaches_r1 : List LOper := [
    ⟨some 5, none, .val (.move (.slot 0))⟩,
    ⟨some 6, none, .val (.mkfn (.func 29) [] [(.slot 3)])⟩,
    ⟨some 7, none, .call 28 [(.slot 5), (.slot 6)]⟩,
    ⟨some 4, none, .val (.move (.slot 7))⟩]
def chain_Reaches : LFn := ⟨(.seq (.ops chain_Reaches_r0) (.seq (.ops chain_Reaches_r1) .ret)), 8, [.slot 4]⟩
theorem chain_Reaches_low : lowerFn Try.prog 9 = some chain_Reaches := by kernel_rfl

abbrev corollaryref21_Reaches_r0 : List LOper := [
    ⟨some 3, none, .box (.agg 2) (.slot 1)⟩,
    ⟨some 4, none, .val (.move (.const (.bool false)))⟩]
abbrev corollaryref21_Reaches_r1 : List LOper := [
    ⟨some 5, none, .val (.move (.const (.int .i64 0)))⟩]
abbrev corollaryref21_Reaches_r2 : List LOper := [
    ⟨some 6, none, .val (.move (.slot 5))⟩,
    ⟨some 7, none, .val (.move (.slot 0))⟩,
    ⟨some 8, none, .val (.len (.slot 7))⟩,
    ⟨some 9, none, .val (.bin .lss (.slot 6) (.slot 8))⟩]
abbrev corollaryref21_Reaches_r3 : List (LOper × List Nat) := [
    (⟨some 12, none, .val (.move (.slot 0))⟩, []),
    (⟨some 13, none, .val (.move (.slot 5))⟩, []),
    (⟨some 14, none, .val (.idxA (.agg 2) (.slot 12) (.slot 13))⟩, [0, 1]),
    (⟨some 15, none, .val (.load (.agg 2) (.slot 14))⟩, [2]),
    (⟨some 16, none, .val (.load (.agg 2) (.slot 3))⟩, []),
    (⟨some 17, none, .call 31 [(.slot 15), (.slot 16)]⟩, [3, 4])]
abbrev corollaryref21_Reaches_r3t : List LOper := []
abbrev corollaryref21_Reaches_r4 : List LOper := [
    ⟨some 4, none, .val (.move (.const (.bool true)))⟩]
abbrev corollaryref21_Reaches_r5 : List LOper := [
    ⟨some 10, none, .val (.move (.slot 5))⟩,
    ⟨some 11, none, .val (.bin .add (.slot 10) (.const (.int .i64 1)))⟩,
    ⟨some 5, none, .val (.move (.slot 11))⟩]
abbrev corollaryref21_Reaches_l0 : LCode := (.seq (.seq (.ops corollaryref21_Reaches_r2) (.cond (.slot 9) .skip (.exit 0))) (.seq (.block 1 (.seq (.draw 6 corollaryref21_Reaches_r3 corollaryref21_Reaches_r3t) (.cond (.slot 17) (.seq (.ops corollaryref21_Reaches_r4) .ret) .skip))) (.ops corollaryref21_Reaches_r5)))
abbrev corollaryref21_Reaches_r6 : List LOper := [
    ⟨some 4, none, .val (.move (.const (.bool false)))⟩]
def corollaryref21_Reaches : LFn := ⟨(.seq (.ops corollaryref21_Reaches_r0) (.seq (.seq (.ops corollaryref21_Reaches_r1) (.block 0 (.loop corollaryref21_Reaches_l0))) (.seq (.ops corollaryref21_Reaches_r6) .ret))), 18, [.slot 4]⟩
theorem corollaryref21_Reaches_low : lowerFn Try.prog 10 = some corollaryref21_Reaches := by kernel_rfl

abbrev corollarylaw20_Time_r0 : List LOper := [
    ⟨some 1, none, .box (.agg 2) (.slot 0)⟩,
    ⟨some 2, none, .box (.agg 2) (.const (.agg [(.int .i64 0), (.int .i64 0)]))⟩]
abbrev corollarylaw20_Time_r1 : List LOper := [
    ⟨some 3, none, .val (.load (.agg 2) (.slot 1))⟩,
    ⟨none, none, .store (.agg 2) (.slot 2) (.slot 3)⟩]
def corollarylaw20_Time : LFn := ⟨(.seq (.ops corollarylaw20_Time_r0) (.seq (.ops corollarylaw20_Time_r1) .ret)), 4, [.cell 2 (.agg 2)]⟩
theorem corollarylaw20_Time_low : lowerFn Try.prog 11 = some corollarylaw20_Time := by kernel_rfl

abbrev chain_Done_r0 : List LOper := [
    ⟨some 3, none, .box .leaf (.slot 1)⟩,
    ⟨some 4, none, .val (.move (.const (.bool false)))⟩]
abbrev chain_Done_r1 : List LOper := [
    ⟨some 5, none, .val (.move (.slot 0))⟩,
    ⟨some 6, none, .val (.mkfn (.func 32) [] [(.slot 3)])⟩,
    ⟨some 7, none, .call 28 [(.slot 5), (.slot 6)]⟩,
    ⟨some 8, none, .val (.not (.slot 7))⟩,
    ⟨some 4, none, .val (.move (.slot 8))⟩]
def chain_Done : LFn := ⟨(.seq (.ops chain_Done_r0) (.seq (.ops chain_Done_r1) .ret)), 9, [.slot 4]⟩
theorem chain_Done_low : lowerFn Try.prog 12 = some chain_Done := by kernel_rfl

abbrev corollaryref21_Done_r0 : List LOper := [
    ⟨some 4, none, .val (.move (.const (.bool false)))⟩]
abbrev corollaryref21_Done_r1 : List LOper := [
    ⟨some 5, none, .val (.move (.const (.int .i64 0)))⟩]
abbrev corollaryref21_Done_r2 : List LOper := [
    ⟨some 6, none, .val (.move (.slot 5))⟩,
    ⟨some 7, none, .val (.move (.slot 0))⟩,
    ⟨some 8, none, .val (.len (.slot 7))⟩,
    ⟨some 9, none, .val (.bin .lss (.slot 6) (.slot 8))⟩]
abbrev corollaryref21_Done_r3 : List LOper := [
    ⟨some 12, none, .val (.move (.slot 0))⟩,
    ⟨some 13, none, .val (.move (.slot 5))⟩,
    ⟨some 14, none, .val (.idxA (.agg 2) (.slot 12) (.slot 13))⟩,
    ⟨some 15, none, .val (.fldA 0 (.slot 14))⟩,
    ⟨some 16, none, .val (.load .leaf (.slot 15))⟩,
    ⟨some 17, none, .val (.move (.slot 1))⟩,
    ⟨some 18, none, .val (.bin .leq (.slot 16) (.slot 17))⟩]
abbrev corollaryref21_Done_r4 : List LOper := [
    ⟨some 4, none, .val (.move (.const (.bool false)))⟩]
abbrev corollaryref21_Done_r5 : List LOper := [
    ⟨some 10, none, .val (.move (.slot 5))⟩,
    ⟨some 11, none, .val (.bin .add (.slot 10) (.const (.int .i64 1)))⟩,
    ⟨some 5, none, .val (.move (.slot 11))⟩]
abbrev corollaryref21_Done_l0 : LCode := (.seq (.seq (.ops corollaryref21_Done_r2) (.cond (.slot 9) .skip (.exit 0))) (.seq (.block 1 (.seq (.ops corollaryref21_Done_r3) (.cond (.slot 18) (.seq (.ops corollaryref21_Done_r4) .ret) .skip))) (.ops corollaryref21_Done_r5)))
abbrev corollaryref21_Done_r6 : List LOper := [
    ⟨some 4, none, .val (.move (.const (.bool true)))⟩]
def corollaryref21_Done : LFn := ⟨(.seq (.ops corollaryref21_Done_r0) (.seq (.seq (.ops corollaryref21_Done_r1) (.block 0 (.loop corollaryref21_Done_l0))) (.seq (.ops corollaryref21_Done_r6) .ret))), 19, [.slot 4]⟩
theorem corollaryref21_Done_low : lowerFn Try.prog 13 = some corollaryref21_Done := by kernel_rfl

abbrev corollaryref21_Of_r0 : List LOper := [
    ⟨some 2, none, .val (.move (.const (.sl (.agg 2) .nil [])))⟩]
abbrev corollaryref21_Of_r1 : List LOper := [
    ⟨some 3, none, .val (.move (.const (.sl (.agg 2) .nil [])))⟩]
abbrev corollaryref21_Of_r2 : List LOper := [
    ⟨some 4, none, .val (.move (.const (.int .i64 0)))⟩]
abbrev corollaryref21_Of_r3 : List LOper := [
    ⟨some 8, none, .val (.move (.slot 4))⟩,
    ⟨some 9, none, .val (.move (.slot 0))⟩,
    ⟨some 10, none, .val (.len (.slot 9))⟩,
    ⟨some 11, none, .val (.bin .lss (.slot 8) (.slot 10))⟩]
abbrev corollaryref21_Of_r4 : List LOper := [
    ⟨some 14, none, .val (.move (.slot 0))⟩,
    ⟨some 15, none, .val (.move (.slot 4))⟩,
    ⟨some 16, none, .val (.idxA (.agg 2) (.slot 14) (.slot 15))⟩,
    ⟨some 17, none, .val (.load (.agg 2) (.slot 16))⟩,
    ⟨some 18, none, .call 33 [(.slot 17)]⟩,
    ⟨some 5, none, .val (.move (.slot 18))⟩]
abbrev corollaryref21_Of_r5 : List LOper := [
    ⟨some 6, none, .val (.move (.const (.int .i64 0)))⟩]
abbrev corollaryref21_Of_r6 : List LOper := [
    ⟨some 19, none, .val (.move (.slot 6))⟩,
    ⟨some 20, none, .val (.move (.slot 0))⟩,
    ⟨some 21, none, .val (.len (.slot 20))⟩,
    ⟨some 22, none, .val (.bin .lss (.slot 19) (.slot 21))⟩]
abbrev corollaryref21_Of_r7 : List (LOper × List Nat) := [
    (⟨some 25, none, .val (.move (.slot 0))⟩, []),
    (⟨some 26, none, .val (.move (.slot 6))⟩, []),
    (⟨some 27, none, .val (.idxA (.agg 2) (.slot 25) (.slot 26))⟩, [0, 1]),
    (⟨some 28, none, .val (.load (.agg 2) (.slot 27))⟩, [2]),
    (⟨some 29, none, .call 33 [(.slot 28)]⟩, [3]),
    (⟨some 30, none, .val (.move (.slot 29))⟩, [4, 4]),
    (⟨some 31, some (30, true), .val (.move (.slot 0))⟩, [5]),
    (⟨some 32, some (30, true), .val (.move (.slot 6))⟩, [5]),
    (⟨some 33, some (30, true), .val (.idxA (.agg 2) (.slot 31) (.slot 32))⟩, [6, 7, 5]),
    (⟨some 34, some (30, true), .val (.load (.agg 2) (.slot 33))⟩, [8, 5]),
    (⟨some 35, some (30, true), .val (.move (.slot 0))⟩, [5]),
    (⟨some 36, some (30, true), .val (.move (.slot 4))⟩, [5]),
    (⟨some 37, some (30, true), .val (.idxA (.agg 2) (.slot 35) (.slot 36))⟩, [10, 11, 5]),
    (⟨some 38, some (30, true), .val (.load (.agg 2) (.slot 37))⟩, [12, 5]),
    (⟨some 39, some (30, true), .call 31 [(.slot 34), (.slot 38)]⟩, [9, 13, 5, 5]),
    (⟨some 40, none, .val (.pick (.slot 30) (.slot 39) (.const (.bool false)))⟩, [5, 14]),
    (⟨some 41, none, .val (.move (.slot 40))⟩, [15, 14]),
    (⟨some 42, some (41, true), .val (.move (.slot 0))⟩, [16]),
    (⟨some 43, some (41, true), .val (.move (.slot 6))⟩, [16]),
    (⟨some 44, some (41, true), .val (.idxA (.agg 2) (.slot 42) (.slot 43))⟩, [17, 18, 16]),
    (⟨some 45, some (41, true), .val (.load (.agg 2) (.slot 44))⟩, [19, 16]),
    (⟨some 46, some (41, true), .val (.move (.slot 0))⟩, [16]),
    (⟨some 47, some (41, true), .val (.move (.slot 4))⟩, [16]),
    (⟨some 48, some (41, true), .val (.idxA (.agg 2) (.slot 46) (.slot 47))⟩, [21, 22, 16]),
    (⟨some 49, some (41, true), .val (.load (.agg 2) (.slot 48))⟩, [23, 16]),
    (⟨some 50, some (41, true), .val (.eq true (.plain (.agg 2) [.int, .int]) (.slot 45) (.slot 49))⟩, [20, 24, 16]),
    (⟨some 51, some (41, true), .val (.move (.slot 50))⟩, [25, 16, 16]),
    (⟨some 52, some (51, false), .val (.move (.slot 6))⟩, [26]),
    (⟨some 53, some (51, false), .val (.move (.slot 4))⟩, [26]),
    (⟨some 54, some (51, false), .val (.bin .lss (.slot 52) (.slot 53))⟩, [27, 28, 26]),
    (⟨some 55, some (41, true), .val (.pick (.slot 51) (.const (.bool true)) (.slot 54))⟩, [26, 29, 16]),
    (⟨some 56, none, .val (.pick (.slot 41) (.slot 55) (.const (.bool false)))⟩, [16, 30])]
abbrev corollaryref21_Of_r7t : List LOper := []
abbrev corollaryref21_Of_r8 : List LOper := [
    ⟨some 5, none, .val (.move (.const (.bool false)))⟩]
abbrev corollaryref21_Of_r9 : List LOper := [
    ⟨some 23, none, .val (.move (.slot 6))⟩,
    ⟨some 24, none, .val (.bin .add (.slot 23) (.const (.int .i64 1)))⟩,
    ⟨some 6, none, .val (.move (.slot 24))⟩]
abbrev corollaryref21_Of_l0 : LCode := (.seq (.seq (.ops corollaryref21_Of_r6) (.cond (.slot 22) .skip (.exit 2))) (.seq (.block 3 (.seq (.draw 32 corollaryref21_Of_r7 corollaryref21_Of_r7t) (.cond (.slot 56) (.ops corollaryref21_Of_r8) .skip))) (.ops corollaryref21_Of_r9)))
abbrev corollaryref21_Of_r10 : List LOper := [
    ⟨some 57, none, .val (.move (.slot 5))⟩,
    ⟨some 58, none, .val (.not (.slot 57))⟩]
abbrev corollaryref21_Of_r11 : List LOper := [
    ⟨some 7, none, .val (.move (.const (.int .i64 0)))⟩]
abbrev corollaryref21_Of_r12 : List (LOper × List Nat) := [
    (⟨some 59, none, .val (.move (.slot 7))⟩, []),
    (⟨some 60, none, .val (.move (.slot 3))⟩, []),
    (⟨some 61, none, .val (.len (.slot 60))⟩, [1]),
    (⟨some 62, none, .val (.bin .lss (.slot 59) (.slot 61))⟩, [0, 2]),
    (⟨some 63, none, .val (.move (.slot 62))⟩, [3]),
    (⟨some 64, some (63, true), .val (.move (.slot 3))⟩, [4]),
    (⟨some 65, some (63, true), .val (.move (.slot 7))⟩, [4]),
    (⟨some 66, some (63, true), .val (.idxA (.agg 2) (.slot 64) (.slot 65))⟩, [5, 6, 4]),
    (⟨some 67, some (63, true), .val (.load (.agg 2) (.slot 66))⟩, [7, 4]),
    (⟨some 68, some (63, true), .val (.move (.slot 0))⟩, [4]),
    (⟨some 69, some (63, true), .val (.move (.slot 4))⟩, [4]),
    (⟨some 70, some (63, true), .val (.idxA (.agg 2) (.slot 68) (.slot 69))⟩, [9, 10, 4]),
    (⟨some 71, some (63, true), .val (.load (.agg 2) (.slot 70))⟩, [11, 4]),
    (⟨some 72, some (63, true), .call 34 [(.slot 67), (.slot 71)]⟩, [8, 12, 4, 4]),
    (⟨some 73, none, .val (.pick (.slot 63) (.slot 72) (.const (.bool false)))⟩, [4, 13])]
abbrev corollaryref21_Of_r12t : List LOper := []
abbrev corollaryref21_Of_r13 : List LOper := [
    ⟨some 74, none, .val (.move (.slot 7))⟩,
    ⟨some 75, none, .val (.bin .add (.slot 74) (.const (.int .i64 1)))⟩,
    ⟨some 7, none, .val (.move (.slot 75))⟩]
abbrev corollaryref21_Of_l1 : LCode := (.seq (.seq (.draw 15 corollaryref21_Of_r12 corollaryref21_Of_r12t) (.cond (.slot 73) .skip (.exit 4))) (.block 5 (.ops corollaryref21_Of_r13)))
abbrev corollaryref21_Of_r14 : List (LOper × List Nat) := [
    (⟨some 76, none, .bslice (.agg 2) []⟩, []),
    (⟨some 77, none, .val (.move (.slot 3))⟩, []),
    (⟨some 78, none, .val (.move (.slot 7))⟩, []),
    (⟨some 79, none, .val (.slc (.agg 2) (.slot 77) .none (.some (.slot 78)) .none)⟩, [1, 2]),
    (⟨some 80, none, .append (.agg 2) 16 (.slot 76) (.slot 79)⟩, [0, 3]),
    (⟨some 81, none, .val (.move (.slot 0))⟩, []),
    (⟨some 82, none, .val (.move (.slot 4))⟩, []),
    (⟨some 83, none, .val (.idxA (.agg 2) (.slot 81) (.slot 82))⟩, [5, 6]),
    (⟨some 84, none, .val (.load (.agg 2) (.slot 83))⟩, [7]),
    (⟨some 85, none, .bslice (.agg 2) [(.slot 84)]⟩, [8]),
    (⟨some 86, none, .append (.agg 2) 16 (.slot 80) (.slot 85)⟩, [4, 9, 4]),
    (⟨some 87, none, .val (.move (.slot 3))⟩, []),
    (⟨some 88, none, .val (.move (.slot 7))⟩, []),
    (⟨some 89, none, .val (.slc (.agg 2) (.slot 87) (.some (.slot 88)) .none .none)⟩, [11, 12]),
    (⟨some 90, none, .append (.agg 2) 16 (.slot 86) (.slot 89)⟩, [10, 13, 10])]
abbrev corollaryref21_Of_r14t : List LOper := [
    ⟨some 3, none, .val (.move (.slot 90))⟩]
abbrev corollaryref21_Of_r15 : List LOper := [
    ⟨some 12, none, .val (.move (.slot 4))⟩,
    ⟨some 13, none, .val (.bin .add (.slot 12) (.const (.int .i64 1)))⟩,
    ⟨some 4, none, .val (.move (.slot 13))⟩]
abbrev corollaryref21_Of_l2 : LCode := (.seq (.seq (.ops corollaryref21_Of_r3) (.cond (.slot 11) .skip (.exit 0))) (.seq (.block 1 (.seq (.ops corollaryref21_Of_r4) (.seq (.seq (.ops corollaryref21_Of_r5) (.block 2 (.loop corollaryref21_Of_l0))) (.seq (.seq (.ops corollaryref21_Of_r10) (.cond (.slot 58) (.exit 1) .skip)) (.seq (.ops corollaryref21_Of_r11) (.seq (.block 4 (.loop corollaryref21_Of_l1)) (.draw 15 corollaryref21_Of_r14 corollaryref21_Of_r14t))))))) (.ops corollaryref21_Of_r15)))
abbrev corollaryref21_Of_r16 : List LOper := [
    ⟨some 91, none, .val (.move (.slot 3))⟩,
    ⟨some 2, none, .val (.move (.slot 91))⟩]
def corollaryref21_Of : LFn := ⟨(.seq (.ops corollaryref21_Of_r0) (.seq (.ops corollaryref21_Of_r1) (.seq (.seq (.ops corollaryref21_Of_r2) (.block 0 (.loop corollaryref21_Of_l2))) (.seq (.ops corollaryref21_Of_r16) .ret)))), 92, [.slot 2]⟩
theorem corollaryref21_Of_low : lowerFn Try.prog 14 = some corollaryref21_Of := by kernel_rfl

abbrev corollarylaw21_Is_r0 : List LOper := [
    ⟨some 4, none, .val (.move (.const (.bool false)))⟩]
abbrev corollarylaw21_Is_r1 : List LOper := [
    ⟨some 5, none, .val (.move (.slot 0))⟩,
    ⟨some 6, none, .call 8 [(.slot 5)]⟩,
    ⟨some 7, none, .val (.move (.slot 1))⟩,
    ⟨some 8, none, .call 18 [(.slot 6), (.slot 7)]⟩,
    ⟨some 4, none, .val (.move (.slot 8))⟩]
def corollarylaw21_Is : LFn := ⟨(.seq (.ops corollarylaw21_Is_r0) (.seq (.ops corollarylaw21_Is_r1) .ret)), 9, [.slot 4]⟩
theorem corollarylaw21_Is_low : lowerFn Try.prog 15 = some corollarylaw21_Is := by kernel_rfl

abbrev chain_Of_r0 : List LOper := [
    ⟨some 2, none, .val (.move (.const (.sl (.agg 2) .nil [])))⟩]
abbrev chain_Of_r1 : List LOper := [
    ⟨some 3, none, .val (.move (.const (.sl (.agg 2) .nil [])))⟩]
abbrev chain_Of_r2 : List LOper := [
    ⟨some 6, none, .val (.move (.slot 0))⟩,
    ⟨some 7, none, .call 36 [(.slot 6)]⟩,
    ⟨some 8, none, .call 35 [(.slot 7), (.const (.fn (.func 37) [] []))]⟩,
    ⟨some 9, none, .val (.len (.slot 8))⟩,
    ⟨some 10, none, .val (.move (.const (.int .i64 0)))⟩]
abbrev chain_Of_r3 : List LOper := [
    ⟨some 11, none, .val (.bin .lss (.slot 10) (.slot 9))⟩]
abbrev chain_Of_r4 : List LOper := [
    ⟨some 12, none, .val (.idxA (.agg 2) (.slot 8) (.slot 10))⟩,
    ⟨some 13, none, .val (.load (.agg 2) (.slot 12))⟩,
    ⟨some 5, none, .box (.agg 2) (.const (.agg [(.int .i64 0), (.int .i64 0)]))⟩,
    ⟨none, none, .store (.agg 2) (.slot 5) (.slot 13)⟩]
abbrev chain_Of_r5 : List LOper := [
    ⟨some 14, none, .val (.load (.agg 2) (.slot 5))⟩,
    ⟨some 15, none, .call 20 [(.slot 14)]⟩,
    ⟨some 16, none, .val (.move (.slot 15))⟩,
    ⟨some 17, some (16, true), .val (.move (.slot 3))⟩,
    ⟨some 18, some (16, true), .val (.load (.agg 2) (.slot 5))⟩,
    ⟨some 19, some (16, true), .call 9 [(.slot 17), (.slot 18)]⟩,
    ⟨some 20, some (16, true), .val (.not (.slot 19))⟩,
    ⟨some 21, none, .val (.pick (.slot 16) (.slot 20) (.const (.bool false)))⟩]
abbrev chain_Of_r6 : List LOper := [
    ⟨some 22, none, .val (.move (.slot 3))⟩,
    ⟨some 23, none, .val (.load (.agg 2) (.slot 5))⟩,
    ⟨some 24, none, .bslice (.agg 2) [(.slot 23)]⟩,
    ⟨some 25, none, .append (.agg 2) 16 (.slot 22) (.slot 24)⟩,
    ⟨some 3, none, .val (.move (.slot 25))⟩]
abbrev chain_Of_r7 : List LOper := [
    ⟨some 26, none, .val (.bin .add (.slot 10) (.const (.int .i64 1)))⟩,
    ⟨some 10, none, .val (.move (.slot 26))⟩]
abbrev chain_Of_l0 : LCode := (.seq (.ops chain_Of_r3) (.seq (.cond (.slot 11) .skip (.exit 0)) (.seq (.block 1 (.seq (.ops chain_Of_r4) (.seq (.ops chain_Of_r5) (.cond (.slot 21) (.ops chain_Of_r6) .skip)))) (.ops chain_Of_r7))))
abbrev chain_Of_r8 : List LOper := [
    ⟨some 27, none, .val (.move (.slot 3))⟩,
    ⟨some 2, none, .val (.move (.slot 27))⟩]
def chain_Of : LFn := ⟨(.seq (.ops chain_Of_r0) (.seq (.ops chain_Of_r1) (.seq (.seq (.ops chain_Of_r2) (.block 0 (.loop chain_Of_l0))) (.seq (.ops chain_Of_r8) .ret)))), 28, [.slot 2]⟩
theorem chain_Of_low : lowerFn Try.prog 16 = some chain_Of := by kernel_rfl

abbrev chain_Right_r0 : List LOper := [
    ⟨some 2, none, .val (.move (.const (.bool false)))⟩]
abbrev chain_Right_r1 : List LOper := [
    ⟨some 3, none, .val (.move (.slot 0))⟩,
    ⟨some 4, none, .val (.move (.slot 0))⟩,
    ⟨some 5, none, .call 16 [(.slot 4)]⟩,
    ⟨some 6, none, .call 38 [(.slot 3), (.slot 5)]⟩,
    ⟨some 2, none, .val (.move (.slot 6))⟩]
def chain_Right : LFn := ⟨(.seq (.ops chain_Right_r0) (.seq (.ops chain_Right_r1) .ret)), 7, [.slot 2]⟩
theorem chain_Right_low : lowerFn Try.prog 17 = some chain_Right := by kernel_rfl

abbrev corollaryref21_Same_r0 : List LOper := [
    ⟨some 4, none, .val (.move (.const (.bool false)))⟩]
abbrev corollaryref21_Same_r1 : List LOper := [
    ⟨some 6, none, .val (.move (.slot 0))⟩,
    ⟨some 7, none, .val (.len (.slot 6))⟩,
    ⟨some 8, none, .val (.move (.slot 1))⟩,
    ⟨some 9, none, .val (.len (.slot 8))⟩,
    ⟨some 10, none, .val (.bin .neq (.slot 7) (.slot 9))⟩]
abbrev corollaryref21_Same_r2 : List LOper := [
    ⟨some 4, none, .val (.move (.const (.bool false)))⟩]
abbrev corollaryref21_Same_r3 : List LOper := [
    ⟨some 5, none, .val (.move (.const (.int .i64 0)))⟩]
abbrev corollaryref21_Same_r4 : List LOper := [
    ⟨some 11, none, .val (.move (.slot 5))⟩,
    ⟨some 12, none, .val (.move (.slot 0))⟩,
    ⟨some 13, none, .val (.len (.slot 12))⟩,
    ⟨some 14, none, .val (.bin .lss (.slot 11) (.slot 13))⟩]
abbrev corollaryref21_Same_r5 : List (LOper × List Nat) := [
    (⟨some 17, none, .val (.move (.slot 0))⟩, []),
    (⟨some 18, none, .val (.move (.slot 5))⟩, []),
    (⟨some 19, none, .val (.idxA (.agg 2) (.slot 17) (.slot 18))⟩, [0, 1]),
    (⟨some 20, none, .val (.load (.agg 2) (.slot 19))⟩, [2]),
    (⟨some 21, none, .val (.move (.slot 1))⟩, []),
    (⟨some 22, none, .val (.move (.slot 5))⟩, []),
    (⟨some 23, none, .val (.idxA (.agg 2) (.slot 21) (.slot 22))⟩, [4, 5]),
    (⟨some 24, none, .val (.load (.agg 2) (.slot 23))⟩, [6]),
    (⟨some 25, none, .val (.eq true (.plain (.agg 2) [.int, .int]) (.slot 20) (.slot 24))⟩, [3, 7])]
abbrev corollaryref21_Same_r5t : List LOper := []
abbrev corollaryref21_Same_r6 : List LOper := [
    ⟨some 4, none, .val (.move (.const (.bool false)))⟩]
abbrev corollaryref21_Same_r7 : List LOper := [
    ⟨some 15, none, .val (.move (.slot 5))⟩,
    ⟨some 16, none, .val (.bin .add (.slot 15) (.const (.int .i64 1)))⟩,
    ⟨some 5, none, .val (.move (.slot 16))⟩]
abbrev corollaryref21_Same_l0 : LCode := (.seq (.seq (.ops corollaryref21_Same_r4) (.cond (.slot 14) .skip (.exit 0))) (.seq (.block 1 (.seq (.draw 9 corollaryref21_Same_r5 corollaryref21_Same_r5t) (.cond (.slot 25) (.seq (.ops corollaryref21_Same_r6) .ret) .skip))) (.ops corollaryref21_Same_r7)))
abbrev corollaryref21_Same_r8 : List LOper := [
    ⟨some 4, none, .val (.move (.const (.bool true)))⟩]
def corollaryref21_Same : LFn := ⟨(.seq (.ops corollaryref21_Same_r0) (.seq (.seq (.ops corollaryref21_Same_r1) (.cond (.slot 10) (.seq (.ops corollaryref21_Same_r2) .ret) .skip)) (.seq (.seq (.ops corollaryref21_Same_r3) (.block 0 (.loop corollaryref21_Same_l0))) (.seq (.ops corollaryref21_Same_r8) .ret)))), 26, [.slot 4]⟩
theorem corollaryref21_Same_low : lowerFn Try.prog 18 = some corollaryref21_Same := by kernel_rfl

abbrev chain_Put_r0 : List LOper := [
    ⟨some 3, none, .box (.agg 2) (.slot 1)⟩,
    ⟨some 4, none, .val (.move (.const (.sl (.agg 2) .nil [])))⟩]
abbrev chain_Put_r1 : List (LOper × List Nat) := [
    (⟨some 5, none, .val (.move (.slot 0))⟩, []),
    (⟨some 6, none, .call 39 [(.slot 5)]⟩, [0]),
    (⟨some 7, none, .val (.load (.agg 2) (.slot 3))⟩, []),
    (⟨some 8, none, .bslice (.agg 2) [(.slot 7)]⟩, [2]),
    (⟨some 9, none, .append (.agg 2) 16 (.slot 6) (.slot 8)⟩, [1, 3, 1]),
    (⟨some 10, none, .call 16 [(.slot 9)]⟩, [4, 4]),
    (⟨some 4, none, .val (.move (.slot 10))⟩, [5, 5, 0, 1, 2, 3, 4, 5])]
abbrev chain_Put_r1t : List LOper := []
def chain_Put : LFn := ⟨(.seq (.ops chain_Put_r0) (.seq (.draw 7 chain_Put_r1 chain_Put_r1t) .ret)), 11, [.slot 4]⟩
theorem chain_Put_low : lowerFn Try.prog 19 = some chain_Put := by kernel_rfl

abbrev stamp_Right_r0 : List LOper := [
    ⟨some 1, none, .box (.agg 2) (.slot 0)⟩,
    ⟨some 2, none, .val (.move (.const (.bool false)))⟩]
abbrev stamp_Right_r1 : List LOper := [
    ⟨some 3, none, .val (.fldA 0 (.slot 1))⟩,
    ⟨some 4, none, .val (.load .leaf (.slot 3))⟩,
    ⟨some 5, none, .call 40 [(.slot 4), (.const (.int .i64 1048576))]⟩,
    ⟨some 6, none, .val (.move (.slot 5))⟩,
    ⟨some 7, some (6, true), .val (.fldA 1 (.slot 1))⟩,
    ⟨some 8, some (6, true), .val (.load .leaf (.slot 7))⟩,
    ⟨some 9, some (6, true), .call 40 [(.slot 8), (.const (.int .i64 1048576))]⟩,
    ⟨some 10, none, .val (.pick (.slot 6) (.slot 9) (.const (.bool false)))⟩,
    ⟨some 2, none, .val (.move (.slot 10))⟩]
def stamp_Right : LFn := ⟨(.seq (.ops stamp_Right_r0) (.seq (.ops stamp_Right_r1) .ret)), 11, [.slot 2]⟩
theorem stamp_Right_low : lowerFn Try.prog 20 = some stamp_Right := by kernel_rfl

abbrev chain_AtMost_r0 : List LOper := [
    ⟨some 2, none, .box .leaf (.slot 0)⟩,
    ⟨some 4, none, .val (.move (.const (.bool false)))⟩]
abbrev chain_AtMost_r1 : List LOper := [
    ⟨some 5, none, .val (.move (.slot 1))⟩,
    ⟨some 6, none, .val (.mkfn (.func 41) [] [(.slot 2)])⟩,
    ⟨some 7, none, .call 28 [(.slot 5), (.slot 6)]⟩,
    ⟨some 8, none, .val (.not (.slot 7))⟩,
    ⟨some 4, none, .val (.move (.slot 8))⟩]
def chain_AtMost : LFn := ⟨(.seq (.ops chain_AtMost_r0) (.seq (.ops chain_AtMost_r1) .ret)), 9, [.slot 4]⟩
theorem chain_AtMost_low : lowerFn Try.prog 21 = some chain_AtMost := by kernel_rfl

abbrev chain_Join_r0 : List LOper := [
    ⟨some 4, none, .val (.move (.const (.sl (.agg 2) .nil [])))⟩]
abbrev chain_Join_r1 : List LOper := [
    ⟨some 5, none, .val (.move (.slot 0))⟩,
    ⟨some 6, none, .val (.move (.slot 1))⟩,
    ⟨some 7, none, .bslice .leaf [(.slot 5), (.slot 6)]⟩,
    ⟨some 8, none, .call 42 [(.slot 7)]⟩,
    ⟨some 9, none, .call 16 [(.slot 8)]⟩,
    ⟨some 4, none, .val (.move (.slot 9))⟩]
def chain_Join : LFn := ⟨(.seq (.ops chain_Join_r0) (.seq (.ops chain_Join_r1) .ret)), 10, [.slot 4]⟩
theorem chain_Join_low : lowerFn Try.prog 22 = some chain_Join := by kernel_rfl

abbrev corollaryref21_AtMost_r0 : List LOper := [
    ⟨some 4, none, .val (.move (.const (.bool false)))⟩]
abbrev corollaryref21_AtMost_r1 : List LOper := [
    ⟨some 5, none, .val (.move (.const (.int .i64 0)))⟩]
abbrev corollaryref21_AtMost_r2 : List LOper := [
    ⟨some 6, none, .val (.move (.slot 5))⟩,
    ⟨some 7, none, .val (.move (.slot 1))⟩,
    ⟨some 8, none, .val (.len (.slot 7))⟩,
    ⟨some 9, none, .val (.bin .lss (.slot 6) (.slot 8))⟩]
abbrev corollaryref21_AtMost_r3 : List LOper := [
    ⟨some 12, none, .val (.move (.slot 0))⟩,
    ⟨some 13, none, .val (.move (.slot 1))⟩,
    ⟨some 14, none, .val (.move (.slot 5))⟩,
    ⟨some 15, none, .val (.idxA (.agg 2) (.slot 13) (.slot 14))⟩,
    ⟨some 16, none, .val (.load (.agg 2) (.slot 15))⟩,
    ⟨some 17, none, .call 10 [(.slot 12), (.slot 16)]⟩,
    ⟨some 18, none, .val (.not (.slot 17))⟩]
abbrev corollaryref21_AtMost_r4 : List LOper := [
    ⟨some 4, none, .val (.move (.const (.bool false)))⟩]
abbrev corollaryref21_AtMost_r5 : List LOper := [
    ⟨some 10, none, .val (.move (.slot 5))⟩,
    ⟨some 11, none, .val (.bin .add (.slot 10) (.const (.int .i64 1)))⟩,
    ⟨some 5, none, .val (.move (.slot 11))⟩]
abbrev corollaryref21_AtMost_l0 : LCode := (.seq (.seq (.ops corollaryref21_AtMost_r2) (.cond (.slot 9) .skip (.exit 0))) (.seq (.block 1 (.seq (.ops corollaryref21_AtMost_r3) (.cond (.slot 18) (.seq (.ops corollaryref21_AtMost_r4) .ret) .skip))) (.ops corollaryref21_AtMost_r5)))
abbrev corollaryref21_AtMost_r6 : List LOper := [
    ⟨some 4, none, .val (.move (.const (.bool true)))⟩]
def corollaryref21_AtMost : LFn := ⟨(.seq (.ops corollaryref21_AtMost_r0) (.seq (.seq (.ops corollaryref21_AtMost_r1) (.block 0 (.loop corollaryref21_AtMost_l0))) (.seq (.ops corollaryref21_AtMost_r6) .ret))), 19, [.slot 4]⟩
theorem corollaryref21_AtMost_low : lowerFn Try.prog 23 = some corollaryref21_AtMost := by kernel_rfl

abbrev chain_Moved_r0 : List LOper := [
    ⟨some 3, none, .box (.agg 2) (.slot 1)⟩,
    ⟨some 4, none, .val (.move (.const (.sl (.agg 2) .nil [])))⟩]
abbrev chain_Moved_r1 : List LOper := [
    ⟨some 5, none, .val (.move (.const (.sl (.agg 2) .nil [])))⟩]
abbrev chain_Moved_r2 : List LOper := [
    ⟨some 10, none, .val (.move (.slot 0))⟩,
    ⟨some 11, none, .val (.len (.slot 10))⟩,
    ⟨some 12, none, .val (.move (.const (.int .i64 0)))⟩]
abbrev chain_Moved_r3 : List LOper := [
    ⟨some 13, none, .val (.bin .lss (.slot 12) (.slot 11))⟩]
abbrev chain_Moved_r4 : List LOper := [
    ⟨some 14, none, .val (.idxA (.agg 2) (.slot 10) (.slot 12))⟩,
    ⟨some 15, none, .val (.load (.agg 2) (.slot 14))⟩,
    ⟨some 7, none, .box (.agg 2) (.const (.agg [(.int .i64 0), (.int .i64 0)]))⟩,
    ⟨none, none, .store (.agg 2) (.slot 7) (.slot 15)⟩]
abbrev chain_Moved_r5 : List LOper := [
    ⟨some 17, none, .val (.load (.agg 2) (.slot 3))⟩,
    ⟨some 18, none, .val (.load (.agg 2) (.slot 7))⟩,
    ⟨some 19, none, .call 43 [(.slot 17), (.slot 18)]⟩,
    ⟨some 16, none, .val (.move (.slot 19))⟩,
    ⟨some 20, none, .val (.ext (.slot 16) 0)⟩,
    ⟨some 21, none, .val (.ext (.slot 16) 1)⟩,
    ⟨some 8, none, .box (.agg 2) (.const (.agg [(.int .i64 0), (.int .i64 0)]))⟩,
    ⟨none, none, .store (.agg 2) (.slot 8) (.slot 20)⟩,
    ⟨some 9, none, .val (.move (.slot 21))⟩]
abbrev chain_Moved_r6 : List LOper := [
    ⟨some 22, none, .val (.move (.slot 9))⟩,
    ⟨some 23, none, .val (.eq false (.iface true) (.slot 22) (.const .nilIface))⟩]
abbrev chain_Moved_r7 : List LOper := [
    ⟨some 24, none, .val (.move (.slot 5))⟩,
    ⟨some 25, none, .val (.load (.agg 2) (.slot 8))⟩,
    ⟨some 26, none, .bslice (.agg 2) [(.slot 25)]⟩,
    ⟨some 27, none, .append (.agg 2) 16 (.slot 24) (.slot 26)⟩,
    ⟨some 5, none, .val (.move (.slot 27))⟩]
abbrev chain_Moved_r8 : List LOper := [
    ⟨some 28, none, .val (.bin .add (.slot 12) (.const (.int .i64 1)))⟩,
    ⟨some 12, none, .val (.move (.slot 28))⟩]
abbrev chain_Moved_l0 : LCode := (.seq (.ops chain_Moved_r3) (.seq (.cond (.slot 13) .skip (.exit 0)) (.seq (.block 1 (.seq (.ops chain_Moved_r4) (.seq (.ops chain_Moved_r5) (.seq (.ops chain_Moved_r6) (.cond (.slot 23) (.ops chain_Moved_r7) .skip))))) (.ops chain_Moved_r8))))
abbrev chain_Moved_r9 : List LOper := [
    ⟨some 29, none, .val (.move (.slot 5))⟩,
    ⟨some 30, none, .call 16 [(.slot 29)]⟩,
    ⟨some 4, none, .val (.move (.slot 30))⟩]
def chain_Moved : LFn := ⟨(.seq (.ops chain_Moved_r0) (.seq (.ops chain_Moved_r1) (.seq (.seq (.ops chain_Moved_r2) (.block 0 (.loop chain_Moved_l0))) (.seq (.ops chain_Moved_r9) .ret)))), 31, [.slot 4]⟩
theorem chain_Moved_low : lowerFn Try.prog 24 = some chain_Moved := by kernel_rfl

abbrev corollaryref21_Moved_r0 : List LOper := [
    ⟨some 3, none, .box (.agg 2) (.slot 1)⟩,
    ⟨some 4, none, .val (.move (.const (.sl (.agg 2) .nil [])))⟩]
abbrev corollaryref21_Moved_r1 : List LOper := [
    ⟨some 5, none, .val (.move (.const (.sl (.agg 2) .nil [])))⟩]
abbrev corollaryref21_Moved_r2 : List LOper := [
    ⟨some 6, none, .val (.move (.const (.int .i64 0)))⟩]
abbrev corollaryref21_Moved_r3 : List LOper := [
    ⟨some 9, none, .val (.move (.slot 6))⟩,
    ⟨some 10, none, .val (.move (.slot 0))⟩,
    ⟨some 11, none, .val (.len (.slot 10))⟩,
    ⟨some 12, none, .val (.bin .lss (.slot 9) (.slot 11))⟩]
abbrev corollaryref21_Moved_r4 : List (LOper × List Nat) := [
    (⟨some 16, none, .val (.load (.agg 2) (.slot 3))⟩, []),
    (⟨some 17, none, .val (.move (.slot 0))⟩, []),
    (⟨some 18, none, .val (.move (.slot 6))⟩, []),
    (⟨some 19, none, .val (.idxA (.agg 2) (.slot 17) (.slot 18))⟩, [1, 2]),
    (⟨some 20, none, .val (.load (.agg 2) (.slot 19))⟩, [3]),
    (⟨some 21, none, .callw 44 [(.slot 16), (.slot 20)] []⟩, [0, 4]),
    (⟨some 15, none, .val (.move (.slot 21))⟩, [5]),
    (⟨some 22, none, .val (.ext (.slot 15) 0)⟩, [6]),
    (⟨some 23, none, .val (.ext (.slot 15) 1)⟩, [6]),
    (⟨some 7, none, .box (.agg 2) (.const (.agg [(.int .i64 0), (.int .i64 0)]))⟩, []),
    (⟨none, none, .store (.agg 2) (.slot 7) (.slot 22)⟩, [9, 7, 5, 0, 1, 2, 3, 4, 5, 6, 7, 9]),
    (⟨some 8, none, .val (.move (.slot 23))⟩, [8, 10, 0, 1, 2, 3, 4, 5, 6, 7, 8, 9, 10])]
abbrev corollaryref21_Moved_r4t : List LOper := []
abbrev corollaryref21_Moved_r5 : List LOper := [
    ⟨some 24, none, .val (.move (.slot 8))⟩,
    ⟨some 25, none, .val (.bin .eql (.slot 24) (.const (.int .i64 0)))⟩]
abbrev corollaryref21_Moved_r6 : List LOper := [
    ⟨some 26, none, .val (.move (.slot 5))⟩,
    ⟨some 27, none, .val (.load (.agg 2) (.slot 7))⟩,
    ⟨some 28, none, .bslice (.agg 2) [(.slot 27)]⟩,
    ⟨some 29, none, .append (.agg 2) 16 (.slot 26) (.slot 28)⟩,
    ⟨some 5, none, .val (.move (.slot 29))⟩]
abbrev corollaryref21_Moved_r7 : List LOper := [
    ⟨some 13, none, .val (.move (.slot 6))⟩,
    ⟨some 14, none, .val (.bin .add (.slot 13) (.const (.int .i64 1)))⟩,
    ⟨some 6, none, .val (.move (.slot 14))⟩]
abbrev corollaryref21_Moved_l0 : LCode := (.seq (.seq (.ops corollaryref21_Moved_r3) (.cond (.slot 12) .skip (.exit 0))) (.seq (.block 1 (.seq (.draw 12 corollaryref21_Moved_r4 corollaryref21_Moved_r4t) (.seq (.ops corollaryref21_Moved_r5) (.cond (.slot 25) (.ops corollaryref21_Moved_r6) .skip)))) (.ops corollaryref21_Moved_r7)))
abbrev corollaryref21_Moved_r8 : List LOper := [
    ⟨some 30, none, .val (.move (.slot 5))⟩,
    ⟨some 31, none, .call 14 [(.slot 30)]⟩,
    ⟨some 4, none, .val (.move (.slot 31))⟩]
def corollaryref21_Moved : LFn := ⟨(.seq (.ops corollaryref21_Moved_r0) (.seq (.ops corollaryref21_Moved_r1) (.seq (.seq (.ops corollaryref21_Moved_r2) (.block 0 (.loop corollaryref21_Moved_l0))) (.seq (.ops corollaryref21_Moved_r8) .ret)))), 32, [.slot 4]⟩
theorem corollaryref21_Moved_low : lowerFn Try.prog 25 = some corollaryref21_Moved := by kernel_rfl

abbrev corollarylaw20_Path_r0 : List LOper := [
    ⟨some 1, none, .box (.agg 2) (.slot 0)⟩,
    ⟨some 2, none, .box (.agg 2) (.const (.agg [(.bool false), (.int .i64 0)]))⟩]
abbrev corollarylaw20_Path_r1 : List LOper := [
    ⟨some 3, none, .val (.load (.agg 2) (.slot 1))⟩,
    ⟨none, none, .store (.agg 2) (.slot 2) (.slot 3)⟩]
def corollarylaw20_Path : LFn := ⟨(.seq (.ops corollarylaw20_Path_r0) (.seq (.ops corollarylaw20_Path_r1) .ret)), 4, [.cell 2 (.agg 2)]⟩
theorem corollarylaw20_Path_low : lowerFn Try.prog 26 = some corollarylaw20_Path := by kernel_rfl

abbrev corollarylaw21_alive_1_r0 : List LOper := [
    ⟨some 4, none, .box (.agg 2) (.const (.agg [(.int .i64 0), (.int .i64 0)]))⟩]
abbrev corollarylaw21_alive_1_r1 : List LOper := [
    ⟨some 5, none, .val (.move (.slot 0))⟩,
    ⟨some 6, none, .val (.move (.slot 1))⟩,
    ⟨some 7, none, .val (.build [(.int .i64 0), (.int .i64 0)] [(0, .leaf, (.slot 5)), (1, .leaf, (.slot 6))])⟩,
    ⟨none, none, .store (.agg 2) (.slot 4) (.slot 7)⟩]
def corollarylaw21_alive_1 : LFn := ⟨(.seq (.ops corollarylaw21_alive_1_r0) (.seq (.ops corollarylaw21_alive_1_r1) .ret)), 8, [.cell 4 (.agg 2)]⟩
theorem corollarylaw21_alive_1_low : lowerFn Try.prog 27 = some corollarylaw21_alive_1 := by kernel_rfl

abbrev slices_ContainsFunc_stamp_Time_stamp_Time_r0 : List LOper := [
    ⟨some 4, none, .val (.move (.const (.bool false)))⟩]
abbrev slices_ContainsFunc_stamp_Time_stamp_Time_r1 : List LOper := [
    ⟨some 5, none, .val (.move (.slot 0))⟩,
    ⟨some 6, none, .val (.move (.slot 1))⟩,
    ⟨some 7, none, .call 45 [(.slot 5), (.slot 6)]⟩,
    ⟨some 8, none, .val (.bin .geq (.slot 7) (.const (.int .i64 0)))⟩,
    ⟨some 4, none, .val (.move (.slot 8))⟩]
def slices_ContainsFunc_stamp_Time_stamp_Time : LFn := ⟨(.seq (.ops slices_ContainsFunc_stamp_Time_stamp_Time_r0) (.seq (.ops slices_ContainsFunc_stamp_Time_stamp_Time_r1) .ret)), 9, [.slot 4]⟩
theorem slices_ContainsFunc_stamp_Time_stamp_Time_low : lowerFn Try.prog 28 = some slices_ContainsFunc_stamp_Time_stamp_Time := by kernel_rfl

abbrev chain_Reaches_1_r0 : List LOper := [
    ⟨some 2, none, .box (.agg 2) (.slot 0)⟩,
    ⟨some 3, none, .val (.move (.const (.bool false)))⟩]
abbrev chain_Reaches_1_r1 : List LOper := [
    ⟨some 4, none, .val (.load (.agg 2) (.slot 2))⟩,
    ⟨some 5, none, .val (.load (.agg 2) (.slot 1))⟩,
    ⟨some 6, none, .call 30 [(.slot 4), (.slot 5)]⟩,
    ⟨some 3, none, .val (.move (.slot 6))⟩]
def chain_Reaches_1 : LFn := ⟨(.seq (.ops chain_Reaches_1_r0) (.seq (.ops chain_Reaches_1_r1) .ret)), 7, [.slot 3]⟩
theorem chain_Reaches_1_low : lowerFn Try.prog 29 = some chain_Reaches_1 := by kernel_rfl

abbrev stamp_AtMost_r0 : List LOper := [
    ⟨some 2, none, .box (.agg 2) (.slot 0)⟩,
    ⟨some 3, none, .box (.agg 2) (.slot 1)⟩,
    ⟨some 4, none, .val (.move (.const (.bool false)))⟩]
abbrev stamp_AtMost_r1 : List LOper := [
    ⟨some 5, none, .val (.fldA 0 (.slot 2))⟩,
    ⟨some 6, none, .val (.load .leaf (.slot 5))⟩,
    ⟨some 7, none, .val (.fldA 0 (.slot 3))⟩,
    ⟨some 8, none, .val (.load .leaf (.slot 7))⟩,
    ⟨some 9, none, .val (.bin .leq (.slot 6) (.slot 8))⟩,
    ⟨some 10, none, .val (.move (.slot 9))⟩,
    ⟨some 11, some (10, true), .val (.fldA 1 (.slot 2))⟩,
    ⟨some 12, some (10, true), .val (.load .leaf (.slot 11))⟩,
    ⟨some 13, some (10, true), .val (.fldA 1 (.slot 3))⟩,
    ⟨some 14, some (10, true), .val (.load .leaf (.slot 13))⟩,
    ⟨some 15, some (10, true), .val (.bin .leq (.slot 12) (.slot 14))⟩,
    ⟨some 16, none, .val (.pick (.slot 10) (.slot 15) (.const (.bool false)))⟩,
    ⟨some 4, none, .val (.move (.slot 16))⟩]
def stamp_AtMost : LFn := ⟨(.seq (.ops stamp_AtMost_r0) (.seq (.ops stamp_AtMost_r1) .ret)), 17, [.slot 4]⟩
theorem stamp_AtMost_low : lowerFn Try.prog 30 = some stamp_AtMost := by kernel_rfl

abbrev corollaryref20_AtMost_r0 : List LOper := [
    ⟨some 2, none, .box (.agg 2) (.slot 0)⟩,
    ⟨some 3, none, .box (.agg 2) (.slot 1)⟩,
    ⟨some 4, none, .val (.move (.const (.bool false)))⟩]
abbrev corollaryref20_AtMost_r1 : List LOper := [
    ⟨some 5, none, .val (.fldA 0 (.slot 2))⟩,
    ⟨some 6, none, .val (.load .leaf (.slot 5))⟩,
    ⟨some 7, none, .val (.fldA 0 (.slot 3))⟩,
    ⟨some 8, none, .val (.load .leaf (.slot 7))⟩,
    ⟨some 9, none, .val (.bin .gtr (.slot 6) (.slot 8))⟩,
    ⟨some 10, none, .val (.not (.slot 9))⟩,
    ⟨some 11, none, .val (.move (.slot 10))⟩,
    ⟨some 12, some (11, true), .val (.fldA 1 (.slot 2))⟩,
    ⟨some 13, some (11, true), .val (.load .leaf (.slot 12))⟩,
    ⟨some 14, some (11, true), .val (.fldA 1 (.slot 3))⟩,
    ⟨some 15, some (11, true), .val (.load .leaf (.slot 14))⟩,
    ⟨some 16, some (11, true), .val (.bin .gtr (.slot 13) (.slot 15))⟩,
    ⟨some 17, some (11, true), .val (.not (.slot 16))⟩,
    ⟨some 18, none, .val (.pick (.slot 11) (.slot 17) (.const (.bool false)))⟩,
    ⟨some 4, none, .val (.move (.slot 18))⟩]
def corollaryref20_AtMost : LFn := ⟨(.seq (.ops corollaryref20_AtMost_r0) (.seq (.ops corollaryref20_AtMost_r1) .ret)), 19, [.slot 4]⟩
theorem corollaryref20_AtMost_low : lowerFn Try.prog 31 = some corollaryref20_AtMost := by kernel_rfl

abbrev chain_Done_1_r0 : List LOper := [
    ⟨some 2, none, .box (.agg 2) (.slot 0)⟩,
    ⟨some 3, none, .val (.move (.const (.bool false)))⟩]
abbrev chain_Done_1_r1 : List LOper := [
    ⟨some 4, none, .val (.fldA 0 (.slot 2))⟩,
    ⟨some 5, none, .val (.load .leaf (.slot 4))⟩,
    ⟨some 6, none, .val (.load .leaf (.slot 1))⟩,
    ⟨some 7, none, .val (.bin .leq (.slot 5) (.slot 6))⟩,
    ⟨some 3, none, .val (.move (.slot 7))⟩]
def chain_Done_1 : LFn := ⟨(.seq (.ops chain_Done_1_r0) (.seq (.ops chain_Done_1_r1) .ret)), 8, [.slot 3]⟩
theorem chain_Done_1_low : lowerFn Try.prog 32 = some chain_Done_1 := by kernel_rfl

abbrev corollaryref20_Right_r0 : List LOper := [
    ⟨some 1, none, .box (.agg 2) (.slot 0)⟩,
    ⟨some 2, none, .val (.move (.const (.bool false)))⟩]
abbrev corollaryref20_Right_r1 : List LOper := [
    ⟨some 3, none, .val (.fldA 0 (.slot 1))⟩,
    ⟨some 4, none, .val (.load .leaf (.slot 3))⟩,
    ⟨some 5, none, .val (.bin .geq (.slot 4) (.const (.int .i64 0)))⟩,
    ⟨some 6, none, .val (.move (.slot 5))⟩,
    ⟨some 7, some (6, true), .val (.fldA 1 (.slot 1))⟩,
    ⟨some 8, some (6, true), .val (.load .leaf (.slot 7))⟩,
    ⟨some 9, some (6, true), .val (.bin .geq (.slot 8) (.const (.int .i64 0)))⟩,
    ⟨some 10, none, .val (.pick (.slot 6) (.slot 9) (.const (.bool false)))⟩,
    ⟨some 11, none, .val (.move (.slot 10))⟩,
    ⟨some 12, some (11, true), .val (.fldA 0 (.slot 1))⟩,
    ⟨some 13, some (11, true), .val (.load .leaf (.slot 12))⟩,
    ⟨some 14, some (11, true), .val (.bin .leq (.slot 13) (.const (.int .i64 1048576)))⟩,
    ⟨some 15, none, .val (.pick (.slot 11) (.slot 14) (.const (.bool false)))⟩,
    ⟨some 16, none, .val (.move (.slot 15))⟩,
    ⟨some 17, some (16, true), .val (.fldA 1 (.slot 1))⟩,
    ⟨some 18, some (16, true), .val (.load .leaf (.slot 17))⟩,
    ⟨some 19, some (16, true), .val (.bin .leq (.slot 18) (.const (.int .i64 1048576)))⟩,
    ⟨some 20, none, .val (.pick (.slot 16) (.slot 19) (.const (.bool false)))⟩,
    ⟨some 2, none, .val (.move (.slot 20))⟩]
def corollaryref20_Right : LFn := ⟨(.seq (.ops corollaryref20_Right_r0) (.seq (.ops corollaryref20_Right_r1) .ret)), 21, [.slot 2]⟩
theorem corollaryref20_Right_low : lowerFn Try.prog 33 = some corollaryref20_Right := by kernel_rfl

abbrev corollaryref20_Less_r0 : List LOper := [
    ⟨some 2, none, .box (.agg 2) (.slot 0)⟩,
    ⟨some 3, none, .box (.agg 2) (.slot 1)⟩,
    ⟨some 4, none, .val (.move (.const (.bool false)))⟩]
abbrev corollaryref20_Less_r1 : List LOper := [
    ⟨some 5, none, .val (.fldA 0 (.slot 2))⟩,
    ⟨some 6, none, .val (.load .leaf (.slot 5))⟩,
    ⟨some 7, none, .val (.fldA 0 (.slot 3))⟩,
    ⟨some 8, none, .val (.load .leaf (.slot 7))⟩,
    ⟨some 9, none, .val (.bin .lss (.slot 6) (.slot 8))⟩,
    ⟨some 10, none, .val (.move (.slot 9))⟩,
    ⟨some 11, some (10, false), .val (.fldA 0 (.slot 2))⟩,
    ⟨some 12, some (10, false), .val (.load .leaf (.slot 11))⟩,
    ⟨some 13, some (10, false), .val (.fldA 0 (.slot 3))⟩,
    ⟨some 14, some (10, false), .val (.load .leaf (.slot 13))⟩,
    ⟨some 15, some (10, false), .val (.bin .eql (.slot 12) (.slot 14))⟩,
    ⟨some 16, some (10, false), .val (.move (.slot 15))⟩,
    ⟨some 17, some (16, true), .val (.fldA 1 (.slot 2))⟩,
    ⟨some 18, some (16, true), .val (.load .leaf (.slot 17))⟩,
    ⟨some 19, some (16, true), .val (.fldA 1 (.slot 3))⟩,
    ⟨some 20, some (16, true), .val (.load .leaf (.slot 19))⟩,
    ⟨some 21, some (16, true), .val (.bin .lss (.slot 18) (.slot 20))⟩,
    ⟨some 22, some (10, false), .val (.pick (.slot 16) (.slot 21) (.const (.bool false)))⟩,
    ⟨some 23, none, .val (.pick (.slot 10) (.const (.bool true)) (.slot 22))⟩,
    ⟨some 4, none, .val (.move (.slot 23))⟩]
def corollaryref20_Less : LFn := ⟨(.seq (.ops corollaryref20_Less_r0) (.seq (.ops corollaryref20_Less_r1) .ret)), 24, [.slot 4]⟩
theorem corollaryref20_Less_low : lowerFn Try.prog 34 = some corollaryref20_Less := by kernel_rfl

abbrev slices_SortedFunc_stamp_Time_r0 : List LOper := [
    ⟨some 4, none, .val (.move (.const (.sl (.agg 2) .nil [])))⟩]
abbrev slices_SortedFunc_stamp_Time_r1 : List LOper := [
    ⟨some 6, none, .val (.move (.slot 0))⟩,
    ⟨some 7, none, .call 46 [(.slot 6)]⟩,
    ⟨some 5, none, .val (.move (.slot 7))⟩]
abbrev slices_SortedFunc_stamp_Time_r2 : List LOper := [
    ⟨some 8, none, .val (.move (.slot 5))⟩,
    ⟨some 9, none, .val (.move (.slot 1))⟩,
    ⟨some 10, none, .call 47 [(.slot 8), (.slot 9)]⟩]
abbrev slices_SortedFunc_stamp_Time_r3 : List LOper := [
    ⟨some 11, none, .val (.move (.slot 5))⟩,
    ⟨some 4, none, .val (.move (.slot 11))⟩]
def slices_SortedFunc_stamp_Time : LFn := ⟨(.seq (.ops slices_SortedFunc_stamp_Time_r0) (.seq (.ops slices_SortedFunc_stamp_Time_r1) (.seq (.ops slices_SortedFunc_stamp_Time_r2) (.seq (.ops slices_SortedFunc_stamp_Time_r3) .ret)))), 12, [.slot 4]⟩
theorem slices_SortedFunc_stamp_Time_low : lowerFn Try.prog 35 = some slices_SortedFunc_stamp_Time := by kernel_rfl

abbrev slices_Values_stamp_Time_stamp_Time_r0 : List LOper := [
    ⟨some 1, none, .box .leaf (.slot 0)⟩,
    ⟨some 2, none, .val (.move (.const .nilFn))⟩]
abbrev slices_Values_stamp_Time_stamp_Time_r1 : List LOper := [
    ⟨some 3, none, .val (.mkfn (.func 48) [] [(.slot 1)])⟩,
    ⟨some 2, none, .val (.move (.slot 3))⟩]
def slices_Values_stamp_Time_stamp_Time : LFn := ⟨(.seq (.ops slices_Values_stamp_Time_stamp_Time_r0) (.seq (.ops slices_Values_stamp_Time_stamp_Time_r1) .ret)), 4, [.slot 2]⟩
theorem slices_Values_stamp_Time_stamp_Time_low : lowerFn Try.prog 36 = some slices_Values_stamp_Time_stamp_Time := by kernel_rfl

abbrev stamp_Compare_r0 : List LOper := [
    ⟨some 2, none, .box (.agg 2) (.slot 0)⟩,
    ⟨some 3, none, .box (.agg 2) (.slot 1)⟩,
    ⟨some 4, none, .val (.move (.const (.int .i64 0)))⟩]
abbrev stamp_Compare_r1 : List (LOper × List Nat) := [
    (⟨some 5, none, .val (.fldA 0 (.slot 2))⟩, []),
    (⟨some 6, none, .val (.load .leaf (.slot 5))⟩, [0]),
    (⟨some 7, none, .val (.fldA 0 (.slot 3))⟩, []),
    (⟨some 8, none, .val (.load .leaf (.slot 7))⟩, [2]),
    (⟨some 9, none, .call 50 [(.slot 6), (.slot 8)]⟩, [1, 3]),
    (⟨some 10, none, .val (.fldA 1 (.slot 2))⟩, []),
    (⟨some 11, none, .val (.load .leaf (.slot 10))⟩, [5]),
    (⟨some 12, none, .val (.fldA 1 (.slot 3))⟩, []),
    (⟨some 13, none, .val (.load .leaf (.slot 12))⟩, [7]),
    (⟨some 14, none, .call 50 [(.slot 11), (.slot 13)]⟩, [6, 8, 4]),
    (⟨some 15, none, .bslice .leaf [(.slot 9), (.slot 14)]⟩, [4, 9]),
    (⟨some 16, none, .call 49 [(.slot 15)]⟩, [10, 9]),
    (⟨some 4, none, .val (.move (.slot 16))⟩, [11, 11, 0, 1, 2, 3, 4, 5, 6, 7, 8, 9, 10, 11])]
abbrev stamp_Compare_r1t : List LOper := []
def stamp_Compare : LFn := ⟨(.seq (.ops stamp_Compare_r0) (.seq (.draw 13 stamp_Compare_r1 stamp_Compare_r1t) .ret)), 17, [.slot 4]⟩
theorem stamp_Compare_low : lowerFn Try.prog 37 = some stamp_Compare := by kernel_rfl

abbrev slices_Equal_stamp_Time_stamp_Time_r0 : List LOper := [
    ⟨some 4, none, .val (.move (.const (.bool false)))⟩]
abbrev slices_Equal_stamp_Time_stamp_Time_r1 : List LOper := [
    ⟨some 6, none, .val (.move (.slot 0))⟩,
    ⟨some 7, none, .val (.len (.slot 6))⟩,
    ⟨some 8, none, .val (.move (.slot 1))⟩,
    ⟨some 9, none, .val (.len (.slot 8))⟩,
    ⟨some 10, none, .val (.bin .neq (.slot 7) (.slot 9))⟩]
abbrev slices_Equal_stamp_Time_stamp_Time_r2 : List LOper := [
    ⟨some 4, none, .val (.move (.const (.bool false)))⟩]
abbrev slices_Equal_stamp_Time_stamp_Time_r3 : List LOper := [
    ⟨some 11, none, .val (.move (.slot 0))⟩,
    ⟨some 12, none, .val (.len (.slot 11))⟩,
    ⟨some 13, none, .val (.move (.const (.int .i64 0)))⟩]
abbrev slices_Equal_stamp_Time_stamp_Time_r4 : List LOper := [
    ⟨some 14, none, .val (.bin .lss (.slot 13) (.slot 12))⟩]
abbrev slices_Equal_stamp_Time_stamp_Time_r5 : List LOper := [
    ⟨some 15, none, .val (.move (.slot 13))⟩,
    ⟨some 5, none, .val (.move (.slot 15))⟩]
abbrev slices_Equal_stamp_Time_stamp_Time_r6 : List (LOper × List Nat) := [
    (⟨some 16, none, .val (.move (.slot 0))⟩, []),
    (⟨some 17, none, .val (.move (.slot 5))⟩, []),
    (⟨some 18, none, .val (.idxA (.agg 2) (.slot 16) (.slot 17))⟩, [0, 1]),
    (⟨some 19, none, .val (.load (.agg 2) (.slot 18))⟩, [2]),
    (⟨some 20, none, .val (.move (.slot 1))⟩, []),
    (⟨some 21, none, .val (.move (.slot 5))⟩, []),
    (⟨some 22, none, .val (.idxA (.agg 2) (.slot 20) (.slot 21))⟩, [4, 5]),
    (⟨some 23, none, .val (.load (.agg 2) (.slot 22))⟩, [6]),
    (⟨some 24, none, .val (.eq true (.plain (.agg 2) [.int, .int]) (.slot 19) (.slot 23))⟩, [3, 7])]
abbrev slices_Equal_stamp_Time_stamp_Time_r6t : List LOper := []
abbrev slices_Equal_stamp_Time_stamp_Time_r7 : List LOper := [
    ⟨some 4, none, .val (.move (.const (.bool false)))⟩]
abbrev slices_Equal_stamp_Time_stamp_Time_r8 : List LOper := [
    ⟨some 25, none, .val (.bin .add (.slot 13) (.const (.int .i64 1)))⟩,
    ⟨some 13, none, .val (.move (.slot 25))⟩]
abbrev slices_Equal_stamp_Time_stamp_Time_l0 : LCode := (.seq (.ops slices_Equal_stamp_Time_stamp_Time_r4) (.seq (.cond (.slot 14) .skip (.exit 0)) (.seq (.block 1 (.seq (.ops slices_Equal_stamp_Time_stamp_Time_r5) (.seq (.draw 9 slices_Equal_stamp_Time_stamp_Time_r6 slices_Equal_stamp_Time_stamp_Time_r6t) (.cond (.slot 24) (.seq (.ops slices_Equal_stamp_Time_stamp_Time_r7) .ret) .skip)))) (.ops slices_Equal_stamp_Time_stamp_Time_r8))))
abbrev slices_Equal_stamp_Time_stamp_Time_r9 : List LOper := [
    ⟨some 4, none, .val (.move (.const (.bool true)))⟩]
def slices_Equal_stamp_Time_stamp_Time : LFn := ⟨(.seq (.ops slices_Equal_stamp_Time_stamp_Time_r0) (.seq (.seq (.ops slices_Equal_stamp_Time_stamp_Time_r1) (.cond (.slot 10) (.seq (.ops slices_Equal_stamp_Time_stamp_Time_r2) .ret) .skip)) (.seq (.seq (.ops slices_Equal_stamp_Time_stamp_Time_r3) (.block 0 (.loop slices_Equal_stamp_Time_stamp_Time_l0))) (.seq (.ops slices_Equal_stamp_Time_stamp_Time_r9) .ret)))), 26, [.slot 4]⟩
theorem slices_Equal_stamp_Time_stamp_Time_low : lowerFn Try.prog 38 = some slices_Equal_stamp_Time_stamp_Time := by kernel_rfl

abbrev slices_Clone_stamp_Time_stamp_Time_r0 : List LOper := [
    ⟨some 2, none, .val (.move (.const (.sl (.agg 2) .nil [])))⟩]
abbrev slices_Clone_stamp_Time_stamp_Time_r1 : List LOper := [
    ⟨some 3, none, .val (.move (.slot 0))⟩,
    ⟨some 4, none, .val (.eq false .slice (.slot 3) (.const (.sl (.agg 2) .nil [])))⟩]
abbrev slices_Clone_stamp_Time_stamp_Time_r2 : List LOper := [
    ⟨some 2, none, .val (.move (.const (.sl (.agg 2) .nil [])))⟩]
abbrev slices_Clone_stamp_Time_stamp_Time_r3 : List LOper := [
    ⟨some 5, none, .bslice (.agg 2) []⟩,
    ⟨some 6, none, .val (.move (.slot 0))⟩,
    ⟨some 7, none, .append (.agg 2) 16 (.slot 5) (.slot 6)⟩,
    ⟨some 2, none, .val (.move (.slot 7))⟩]
def slices_Clone_stamp_Time_stamp_Time : LFn := ⟨(.seq (.ops slices_Clone_stamp_Time_stamp_Time_r0) (.seq (.seq (.ops slices_Clone_stamp_Time_stamp_Time_r1) (.cond (.slot 4) (.seq (.ops slices_Clone_stamp_Time_stamp_Time_r2) .ret) .skip)) (.seq (.ops slices_Clone_stamp_Time_stamp_Time_r3) .ret))), 8, [.slot 2]⟩
theorem slices_Clone_stamp_Time_stamp_Time_low : lowerFn Try.prog 39 = some slices_Clone_stamp_Time_stamp_Time := by kernel_rfl

abbrev stamp_within_r0 : List LOper := [
    ⟨some 4, none, .val (.move (.const (.bool false)))⟩]
abbrev stamp_within_r1 : List LOper := [
    ⟨some 5, none, .val (.move (.slot 0))⟩,
    ⟨some 6, none, .val (.bin .geq (.slot 5) (.const (.int .i64 0)))⟩,
    ⟨some 7, none, .val (.move (.slot 6))⟩,
    ⟨some 8, some (7, true), .val (.move (.slot 0))⟩,
    ⟨some 9, some (7, true), .val (.move (.slot 1))⟩,
    ⟨some 10, some (7, true), .val (.bin .leq (.slot 8) (.slot 9))⟩,
    ⟨some 11, none, .val (.pick (.slot 7) (.slot 10) (.const (.bool false)))⟩,
    ⟨some 4, none, .val (.move (.slot 11))⟩]
def stamp_within : LFn := ⟨(.seq (.ops stamp_within_r0) (.seq (.ops stamp_within_r1) .ret)), 12, [.slot 4]⟩
theorem stamp_within_low : lowerFn Try.prog 40 = some stamp_within := by kernel_rfl

abbrev chain_AtMost_1_r0 : List LOper := [
    ⟨some 2, none, .box (.agg 2) (.slot 0)⟩,
    ⟨some 3, none, .val (.move (.const (.bool false)))⟩]
abbrev chain_AtMost_1_r1 : List LOper := [
    ⟨some 4, none, .val (.load .leaf (.slot 1))⟩,
    ⟨some 5, none, .val (.load (.agg 2) (.slot 2))⟩,
    ⟨some 6, none, .call 9 [(.slot 4), (.slot 5)]⟩,
    ⟨some 7, none, .val (.not (.slot 6))⟩,
    ⟨some 3, none, .val (.move (.slot 7))⟩]
def chain_AtMost_1 : LFn := ⟨(.seq (.ops chain_AtMost_1_r0) (.seq (.ops chain_AtMost_1_r1) .ret)), 8, [.slot 3]⟩
theorem chain_AtMost_1_low : lowerFn Try.prog 41 = some chain_AtMost_1 := by kernel_rfl

abbrev slices_Concat_stamp_Time_stamp_Time_r0 : List LOper := [
    ⟨some 2, none, .val (.move (.const (.sl (.agg 2) .nil [])))⟩]
abbrev slices_Concat_stamp_Time_stamp_Time_r1 : List LOper := [
    ⟨some 3, none, .val (.move (.const (.int .i64 0)))⟩]
abbrev slices_Concat_stamp_Time_stamp_Time_r2 : List LOper := [
    ⟨some 9, none, .val (.move (.slot 0))⟩,
    ⟨some 10, none, .val (.len (.slot 9))⟩,
    ⟨some 11, none, .val (.move (.const (.int .i64 0)))⟩]
abbrev slices_Concat_stamp_Time_stamp_Time_r3 : List LOper := [
    ⟨some 12, none, .val (.bin .lss (.slot 11) (.slot 10))⟩]
abbrev slices_Concat_stamp_Time_stamp_Time_r4 : List LOper := [
    ⟨some 13, none, .val (.idxA .leaf (.slot 9) (.slot 11))⟩,
    ⟨some 14, none, .val (.load .leaf (.slot 13))⟩,
    ⟨some 5, none, .val (.move (.slot 14))⟩]
abbrev slices_Concat_stamp_Time_stamp_Time_r5 : List LOper := [
    ⟨some 15, none, .val (.move (.slot 3))⟩,
    ⟨some 16, none, .val (.move (.slot 5))⟩,
    ⟨some 17, none, .val (.len (.slot 16))⟩,
    ⟨some 18, none, .val (.bin .add (.slot 15) (.slot 17))⟩,
    ⟨some 3, none, .val (.move (.slot 18))⟩]
abbrev slices_Concat_stamp_Time_stamp_Time_r6 : List LOper := [
    ⟨some 19, none, .val (.move (.slot 3))⟩,
    ⟨some 20, none, .val (.bin .lss (.slot 19) (.const (.int .i64 0)))⟩]
abbrev slices_Concat_stamp_Time_stamp_Time_r7 : List LOper := [
    ⟨some 21, none, .val (.mkif 9 (.const (.str ⟨#[108, 101, 110, 32, 111, 117, 116, 32, 111, 102, 32, 114, 97, 110, 103, 101]⟩)))⟩,
    ⟨none, none, .val (.never)⟩]
abbrev slices_Concat_stamp_Time_stamp_Time_r8 : List LOper := [
    ⟨some 22, none, .val (.bin .add (.slot 11) (.const (.int .i64 1)))⟩,
    ⟨some 11, none, .val (.move (.slot 22))⟩]
abbrev slices_Concat_stamp_Time_stamp_Time_l0 : LCode := (.seq (.ops slices_Concat_stamp_Time_stamp_Time_r3) (.seq (.cond (.slot 12) .skip (.exit 0)) (.seq (.block 1 (.seq (.ops slices_Concat_stamp_Time_stamp_Time_r4) (.seq (.ops slices_Concat_stamp_Time_stamp_Time_r5) (.seq (.ops slices_Concat_stamp_Time_stamp_Time_r6) (.cond (.slot 20) (.ops slices_Concat_stamp_Time_stamp_Time_r7) .skip))))) (.ops slices_Concat_stamp_Time_stamp_Time_r8))))
abbrev slices_Concat_stamp_Time_stamp_Time_r9 : List LOper := [
    ⟨some 23, none, .val (.move (.slot 3))⟩,
    ⟨some 24, none, .call 51 [(.const (.sl (.agg 2) .nil [])), (.slot 23)]⟩,
    ⟨some 6, none, .val (.move (.slot 24))⟩]
abbrev slices_Concat_stamp_Time_stamp_Time_r10 : List LOper := [
    ⟨some 25, none, .val (.move (.slot 0))⟩,
    ⟨some 26, none, .val (.len (.slot 25))⟩,
    ⟨some 27, none, .val (.move (.const (.int .i64 0)))⟩]
abbrev slices_Concat_stamp_Time_stamp_Time_r11 : List LOper := [
    ⟨some 28, none, .val (.bin .lss (.slot 27) (.slot 26))⟩]
abbrev slices_Concat_stamp_Time_stamp_Time_r12 : List LOper := [
    ⟨some 29, none, .val (.idxA .leaf (.slot 25) (.slot 27))⟩,
    ⟨some 30, none, .val (.load .leaf (.slot 29))⟩,
    ⟨some 8, none, .val (.move (.slot 30))⟩]
abbrev slices_Concat_stamp_Time_stamp_Time_r13 : List LOper := [
    ⟨some 31, none, .val (.move (.slot 6))⟩,
    ⟨some 32, none, .val (.move (.slot 8))⟩,
    ⟨some 33, none, .append (.agg 2) 16 (.slot 31) (.slot 32)⟩,
    ⟨some 6, none, .val (.move (.slot 33))⟩]
abbrev slices_Concat_stamp_Time_stamp_Time_r14 : List LOper := [
    ⟨some 34, none, .val (.bin .add (.slot 27) (.const (.int .i64 1)))⟩,
    ⟨some 27, none, .val (.move (.slot 34))⟩]
abbrev slices_Concat_stamp_Time_stamp_Time_l1 : LCode := (.seq (.ops slices_Concat_stamp_Time_stamp_Time_r11) (.seq (.cond (.slot 28) .skip (.exit 2)) (.seq (.block 3 (.seq (.ops slices_Concat_stamp_Time_stamp_Time_r12) (.ops slices_Concat_stamp_Time_stamp_Time_r13))) (.ops slices_Concat_stamp_Time_stamp_Time_r14))))
abbrev slices_Concat_stamp_Time_stamp_Time_r15 : List LOper := [
    ⟨some 35, none, .val (.move (.slot 6))⟩,
    ⟨some 2, none, .val (.move (.slot 35))⟩]
def slices_Concat_stamp_Time_stamp_Time : LFn := ⟨(.seq (.ops slices_Concat_stamp_Time_stamp_Time_r0) (.seq (.ops slices_Concat_stamp_Time_stamp_Time_r1) (.seq (.seq (.ops slices_Concat_stamp_Time_stamp_Time_r2) (.block 0 (.loop slices_Concat_stamp_Time_stamp_Time_l0))) (.seq (.ops slices_Concat_stamp_Time_stamp_Time_r9) (.seq (.seq (.ops slices_Concat_stamp_Time_stamp_Time_r10) (.block 2 (.loop slices_Concat_stamp_Time_stamp_Time_l1))) (.seq (.ops slices_Concat_stamp_Time_stamp_Time_r15) .ret)))))), 36, [.slot 2]⟩
theorem slices_Concat_stamp_Time_stamp_Time_low : lowerFn Try.prog 42 = some slices_Concat_stamp_Time_stamp_Time := by kernel_rfl

abbrev stamp_Path_Of_r0 : List LOper := [
    ⟨some 2, none, .box (.agg 2) (.slot 0)⟩,
    ⟨some 3, none, .box (.agg 2) (.slot 1)⟩,
    ⟨some 4, none, .box (.agg 2) (.const (.agg [(.int .i64 0), (.int .i64 0)]))⟩,
    ⟨some 5, none, .val (.move (.const .nilIface))⟩]
abbrev stamp_Path_Of_r1 : List LOper := [
    ⟨some 7, none, .val (.load (.agg 2) (.slot 2))⟩,
    ⟨some 8, none, .call 52 [(.slot 7)]⟩,
    ⟨some 9, none, .val (.not (.slot 8))⟩,
    ⟨some 10, none, .val (.move (.slot 9))⟩,
    ⟨some 11, some (10, false), .val (.load (.agg 2) (.slot 3))⟩,
    ⟨some 12, some (10, false), .call 20 [(.slot 11)]⟩,
    ⟨some 13, some (10, false), .val (.not (.slot 12))⟩,
    ⟨some 14, none, .val (.pick (.slot 10) (.const (.bool true)) (.slot 13))⟩]
abbrev stamp_Path_Of_r2 : List LOper := [
    ⟨some 15, none, .val (.build [(.int .i64 0), (.int .i64 0)] [])⟩,
    ⟨some 16, none, .val (.mkif 79 (.const (.int .i64 2)))⟩,
    ⟨none, none, .store (.agg 2) (.slot 4) (.slot 15)⟩,
    ⟨some 5, none, .val (.move (.slot 16))⟩]
abbrev stamp_Path_Of_r3 : List LOper := [
    ⟨some 17, none, .val (.fldA 0 (.slot 3))⟩,
    ⟨some 18, none, .val (.load .leaf (.slot 17))⟩,
    ⟨some 19, none, .val (.fldA 1 (.slot 2))⟩,
    ⟨some 20, none, .val (.load .leaf (.slot 19))⟩,
    ⟨some 21, none, .val (.build [(.int .i64 0), (.int .i64 0)] [(0, .leaf, (.slot 18)), (1, .leaf, (.slot 20))])⟩,
    ⟨some 6, none, .box (.agg 2) (.const (.agg [(.int .i64 0), (.int .i64 0)]))⟩,
    ⟨none, none, .store (.agg 2) (.slot 6) (.slot 21)⟩]
abbrev stamp_Path_Of_r4 : List LOper := [
    ⟨some 22, none, .val (.fldA 0 (.slot 2))⟩,
    ⟨some 23, none, .val (.load .leaf (.slot 22))⟩,
    ⟨some 24, none, .val (.not (.slot 23))⟩]
abbrev stamp_Path_Of_r5 : List LOper := [
    ⟨some 25, none, .val (.fldA 1 (.slot 6))⟩,
    ⟨some 26, none, .val (.load .leaf (.slot 25))⟩,
    ⟨some 27, none, .val (.fldA 1 (.slot 3))⟩,
    ⟨some 28, none, .val (.load .leaf (.slot 27))⟩,
    ⟨some 29, none, .val (.bin .add (.slot 26) (.slot 28))⟩,
    ⟨some 30, none, .val (.fldA 1 (.slot 6))⟩,
    ⟨none, none, .store .leaf (.slot 30) (.slot 29)⟩]
abbrev stamp_Path_Of_r6 : List LOper := [
    ⟨some 31, none, .val (.load (.agg 2) (.slot 6))⟩,
    ⟨some 32, none, .call 20 [(.slot 31)]⟩,
    ⟨some 33, none, .val (.not (.slot 32))⟩]
abbrev stamp_Path_Of_r7 : List LOper := [
    ⟨some 34, none, .val (.build [(.int .i64 0), (.int .i64 0)] [])⟩,
    ⟨some 35, none, .val (.mkif 79 (.const (.int .i64 1)))⟩,
    ⟨none, none, .store (.agg 2) (.slot 4) (.slot 34)⟩,
    ⟨some 5, none, .val (.move (.slot 35))⟩]
abbrev stamp_Path_Of_r8 : List LOper := [
    ⟨some 36, none, .val (.load (.agg 2) (.slot 6))⟩,
    ⟨none, none, .store (.agg 2) (.slot 4) (.slot 36)⟩,
    ⟨some 5, none, .val (.move (.const .nilIface))⟩]
def stamp_Path_Of : LFn := ⟨(.seq (.ops stamp_Path_Of_r0) (.seq (.seq (.ops stamp_Path_Of_r1) (.cond (.slot 14) (.seq (.ops stamp_Path_Of_r2) .ret) .skip)) (.seq (.ops stamp_Path_Of_r3) (.seq (.seq (.ops stamp_Path_Of_r4) (.cond (.slot 24) (.ops stamp_Path_Of_r5) .skip)) (.seq (.seq (.ops stamp_Path_Of_r6) (.cond (.slot 33) (.seq (.ops stamp_Path_Of_r7) .ret) .skip)) (.seq (.ops stamp_Path_Of_r8) .ret)))))), 37, [.cell 4 (.agg 2), .slot 5]⟩
theorem stamp_Path_Of_low : lowerFn Try.prog 43 = some stamp_Path_Of := by kernel_rfl

abbrev corollaryref20_Of_r0 : List LOper := [
    ⟨some 2, none, .box (.agg 2) (.slot 0)⟩,
    ⟨some 3, none, .box (.agg 2) (.slot 1)⟩,
    ⟨some 4, none, .box (.agg 2) (.const (.agg [(.int .i64 0), (.int .i64 0)]))⟩,
    ⟨some 5, none, .val (.move (.const (.int .i64 0)))⟩]
abbrev corollaryref20_Of_r1 : List LOper := [
    ⟨some 7, none, .val (.load (.agg 2) (.slot 2))⟩,
    ⟨some 8, none, .call 53 [(.slot 7)]⟩,
    ⟨some 9, none, .val (.not (.slot 8))⟩,
    ⟨some 10, none, .val (.move (.slot 9))⟩,
    ⟨some 11, some (10, false), .val (.load (.agg 2) (.slot 3))⟩,
    ⟨some 12, some (10, false), .call 33 [(.slot 11)]⟩,
    ⟨some 13, some (10, false), .val (.not (.slot 12))⟩,
    ⟨some 14, none, .val (.pick (.slot 10) (.const (.bool true)) (.slot 13))⟩]
abbrev corollaryref20_Of_r2 : List LOper := [
    ⟨some 15, none, .val (.build [(.int .i64 0), (.int .i64 0)] [])⟩,
    ⟨none, none, .store (.agg 2) (.slot 4) (.slot 15)⟩,
    ⟨some 5, none, .val (.move (.const (.int .i64 2)))⟩]
abbrev corollaryref20_Of_r3 : List LOper := [
    ⟨some 16, none, .val (.fldA 1 (.slot 3))⟩,
    ⟨some 17, none, .val (.load .leaf (.slot 16))⟩,
    ⟨some 6, none, .val (.move (.slot 17))⟩]
abbrev corollaryref20_Of_r4 : List LOper := [
    ⟨some 18, none, .val (.fldA 0 (.slot 2))⟩,
    ⟨some 19, none, .val (.load .leaf (.slot 18))⟩]
abbrev corollaryref20_Of_r5 : List LOper := [
    ⟨some 6, none, .val (.move (.const (.int .i64 0)))⟩]
abbrev corollaryref20_Of_r6 : List LOper := [
    ⟨some 20, none, .val (.move (.slot 6))⟩,
    ⟨some 21, none, .val (.fldA 1 (.slot 2))⟩,
    ⟨some 22, none, .val (.load .leaf (.slot 21))⟩,
    ⟨some 23, none, .val (.bin .add (.slot 20) (.slot 22))⟩,
    ⟨some 24, none, .val (.bin .gtr (.slot 23) (.const (.int .i64 1048576)))⟩]
abbrev corollaryref20_Of_r7 : List LOper := [
    ⟨some 25, none, .val (.build [(.int .i64 0), (.int .i64 0)] [])⟩,
    ⟨none, none, .store (.agg 2) (.slot 4) (.slot 25)⟩,
    ⟨some 5, none, .val (.move (.const (.int .i64 1)))⟩]
abbrev corollaryref20_Of_r8 : List LOper := [
    ⟨some 26, none, .val (.fldA 0 (.slot 3))⟩,
    ⟨some 27, none, .val (.load .leaf (.slot 26))⟩,
    ⟨some 28, none, .val (.move (.slot 6))⟩,
    ⟨some 29, none, .val (.fldA 1 (.slot 2))⟩,
    ⟨some 30, none, .val (.load .leaf (.slot 29))⟩,
    ⟨some 31, none, .val (.bin .add (.slot 28) (.slot 30))⟩,
    ⟨some 32, none, .val (.build [(.int .i64 0), (.int .i64 0)] [(0, .leaf, (.slot 27)), (1, .leaf, (.slot 31))])⟩,
    ⟨none, none, .store (.agg 2) (.slot 4) (.slot 32)⟩,
    ⟨some 5, none, .val (.move (.const (.int .i64 0)))⟩]
def corollaryref20_Of : LFn := ⟨(.seq (.ops corollaryref20_Of_r0) (.seq (.seq (.ops corollaryref20_Of_r1) (.cond (.slot 14) (.seq (.ops corollaryref20_Of_r2) .ret) .skip)) (.seq (.ops corollaryref20_Of_r3) (.seq (.seq (.ops corollaryref20_Of_r4) (.cond (.slot 19) (.ops corollaryref20_Of_r5) .skip)) (.seq (.seq (.ops corollaryref20_Of_r6) (.cond (.slot 24) (.seq (.ops corollaryref20_Of_r7) .ret) .skip)) (.seq (.ops corollaryref20_Of_r8) .ret)))))), 33, [.cell 4 (.agg 2), .slot 5]⟩
theorem corollaryref20_Of_low : lowerFn Try.prog 44 = some corollaryref20_Of := by kernel_rfl

abbrev slices_IndexFunc_stamp_Time_stamp_Time_r0 : List LOper := [
    ⟨some 4, none, .val (.move (.const (.int .i64 0)))⟩]
abbrev slices_IndexFunc_stamp_Time_stamp_Time_r1 : List LOper := [
    ⟨some 6, none, .val (.move (.slot 0))⟩,
    ⟨some 7, none, .val (.len (.slot 6))⟩,
    ⟨some 8, none, .val (.move (.const (.int .i64 0)))⟩]
abbrev slices_IndexFunc_stamp_Time_stamp_Time_r2 : List LOper := [
    ⟨some 9, none, .val (.bin .lss (.slot 8) (.slot 7))⟩]
abbrev slices_IndexFunc_stamp_Time_stamp_Time_r3 : List LOper := [
    ⟨some 10, none, .val (.move (.slot 8))⟩,
    ⟨some 5, none, .val (.move (.slot 10))⟩]
abbrev slices_IndexFunc_stamp_Time_stamp_Time_r4 : List LOper := [
    ⟨some 11, none, .val (.move (.slot 1))⟩,
    ⟨some 12, none, .val (.move (.slot 0))⟩,
    ⟨some 13, none, .val (.move (.slot 5))⟩,
    ⟨some 14, none, .val (.idxA (.agg 2) (.slot 12) (.slot 13))⟩,
    ⟨some 15, none, .val (.load (.agg 2) (.slot 14))⟩,
    ⟨some 16, none, .callv (.slot 11) [(.slot 15)]⟩]
abbrev slices_IndexFunc_stamp_Time_stamp_Time_r5 : List LOper := [
    ⟨some 17, none, .val (.move (.slot 5))⟩,
    ⟨some 4, none, .val (.move (.slot 17))⟩]
abbrev slices_IndexFunc_stamp_Time_stamp_Time_r6 : List LOper := [
    ⟨some 18, none, .val (.bin .add (.slot 8) (.const (.int .i64 1)))⟩,
    ⟨some 8, none, .val (.move (.slot 18))⟩]
abbrev slices_IndexFunc_stamp_Time_stamp_Time_l0 : LCode := (.seq (.ops slices_IndexFunc_stamp_Time_stamp_Time_r2) (.seq (.cond (.slot 9) .skip (.exit 0)) (.seq (.block 1 (.seq (.ops slices_IndexFunc_stamp_Time_stamp_Time_r3) (.seq (.ops slices_IndexFunc_stamp_Time_stamp_Time_r4) (.cond (.slot 16) (.seq (.ops slices_IndexFunc_stamp_Time_stamp_Time_r5) .ret) .skip)))) (.ops slices_IndexFunc_stamp_Time_stamp_Time_r6))))
abbrev slices_IndexFunc_stamp_Time_stamp_Time_r7 : List LOper := [
    ⟨some 4, none, .val (.move (.const (.int .i64 (-1))))⟩]
def slices_IndexFunc_stamp_Time_stamp_Time : LFn := ⟨(.seq (.ops slices_IndexFunc_stamp_Time_stamp_Time_r0) (.seq (.seq (.ops slices_IndexFunc_stamp_Time_stamp_Time_r1) (.block 0 (.loop slices_IndexFunc_stamp_Time_stamp_Time_l0))) (.seq (.ops slices_IndexFunc_stamp_Time_stamp_Time_r7) .ret))), 19, [.slot 4]⟩
theorem slices_IndexFunc_stamp_Time_stamp_Time_low : lowerFn Try.prog 45 = some slices_IndexFunc_stamp_Time_stamp_Time := by kernel_rfl

abbrev slices_Collect_stamp_Time_r0 : List LOper := [
    ⟨some 2, none, .val (.move (.const (.sl (.agg 2) .nil [])))⟩]
abbrev slices_Collect_stamp_Time_r1 : List LOper := [
    ⟨some 3, none, .val (.move (.slot 0))⟩,
    ⟨some 4, none, .call 54 [(.const (.sl (.agg 2) .nil [])), (.slot 3)]⟩,
    ⟨some 2, none, .val (.move (.slot 4))⟩]
def slices_Collect_stamp_Time : LFn := ⟨(.seq (.ops slices_Collect_stamp_Time_r0) (.seq (.ops slices_Collect_stamp_Time_r1) .ret)), 5, [.slot 2]⟩
theorem slices_Collect_stamp_Time_low : lowerFn Try.prog 46 = some slices_Collect_stamp_Time := by kernel_rfl

abbrev slices_SortFunc_stamp_Time_stamp_Time_r0 : List LOper := [
    ⟨some 5, none, .val (.move (.slot 0))⟩,
    ⟨some 6, none, .val (.len (.slot 5))⟩,
    ⟨some 4, none, .val (.move (.slot 6))⟩]
abbrev slices_SortFunc_stamp_Time_stamp_Time_r1 : List LOper := [
    ⟨some 7, none, .val (.move (.slot 0))⟩,
    ⟨some 8, none, .val (.move (.slot 4))⟩,
    ⟨some 9, none, .val (.move (.slot 4))⟩,
    ⟨some 10, none, .val (.conv .u64 (.slot 9))⟩,
    ⟨some 11, none, .call 56 [(.slot 10)]⟩,
    ⟨some 12, none, .val (.move (.slot 1))⟩,
    ⟨some 13, none, .call 55 [(.slot 7), (.const (.int .i64 0)), (.slot 8), (.slot 11), (.slot 12)]⟩]
def slices_SortFunc_stamp_Time_stamp_Time : LFn := ⟨(.seq (.ops slices_SortFunc_stamp_Time_stamp_Time_r0) (.ops slices_SortFunc_stamp_Time_stamp_Time_r1)), 14, []⟩
theorem slices_SortFunc_stamp_Time_stamp_Time_low : lowerFn Try.prog 47 = some slices_SortFunc_stamp_Time_stamp_Time := by kernel_rfl

abbrev slices_Values_stamp_Time_stamp_Time_1_r0 : List LOper := [
    ⟨some 5, none, .val (.load .leaf (.slot 1))⟩,
    ⟨some 6, none, .val (.len (.slot 5))⟩,
    ⟨some 7, none, .val (.move (.const (.int .i64 0)))⟩]
abbrev slices_Values_stamp_Time_stamp_Time_1_r1 : List LOper := [
    ⟨some 8, none, .val (.bin .lss (.slot 7) (.slot 6))⟩]
abbrev slices_Values_stamp_Time_stamp_Time_1_r2 : List LOper := [
    ⟨some 9, none, .val (.idxA (.agg 2) (.slot 5) (.slot 7))⟩,
    ⟨some 10, none, .val (.load (.agg 2) (.slot 9))⟩,
    ⟨some 4, none, .box (.agg 2) (.const (.agg [(.int .i64 0), (.int .i64 0)]))⟩,
    ⟨none, none, .store (.agg 2) (.slot 4) (.slot 10)⟩]
abbrev slices_Values_stamp_Time_stamp_Time_1_r3 : List LOper := [
    ⟨some 11, none, .val (.move (.slot 0))⟩,
    ⟨some 12, none, .val (.load (.agg 2) (.slot 4))⟩,
    ⟨some 13, none, .callv (.slot 11) [(.slot 12)]⟩,
    ⟨some 14, none, .val (.not (.slot 13))⟩]
abbrev slices_Values_stamp_Time_stamp_Time_1_r4 : List LOper := [
    ⟨some 15, none, .val (.bin .add (.slot 7) (.const (.int .i64 1)))⟩,
    ⟨some 7, none, .val (.move (.slot 15))⟩]
abbrev slices_Values_stamp_Time_stamp_Time_1_l0 : LCode := (.seq (.ops slices_Values_stamp_Time_stamp_Time_1_r1) (.seq (.cond (.slot 8) .skip (.exit 0)) (.seq (.block 1 (.seq (.ops slices_Values_stamp_Time_stamp_Time_1_r2) (.seq (.ops slices_Values_stamp_Time_stamp_Time_1_r3) (.cond (.slot 14) .ret .skip)))) (.ops slices_Values_stamp_Time_stamp_Time_1_r4))))
def slices_Values_stamp_Time_stamp_Time_1 : LFn := ⟨(.seq (.ops slices_Values_stamp_Time_stamp_Time_1_r0) (.block 0 (.loop slices_Values_stamp_Time_stamp_Time_1_l0))), 16, []⟩
theorem slices_Values_stamp_Time_stamp_Time_1_low : lowerFn Try.prog 48 = some slices_Values_stamp_Time_stamp_Time_1 := by kernel_rfl

abbrev cmp_Or_int_r0 : List LOper := [
    ⟨some 2, none, .val (.move (.const (.int .i64 0)))⟩]
abbrev cmp_Or_int_r1 : List LOper := [
    ⟨some 3, none, .val (.move (.const (.int .i64 0)))⟩]
abbrev cmp_Or_int_r2 : List LOper := [
    ⟨some 6, none, .val (.move (.slot 0))⟩,
    ⟨some 7, none, .val (.len (.slot 6))⟩,
    ⟨some 8, none, .val (.move (.const (.int .i64 0)))⟩]
abbrev cmp_Or_int_r3 : List LOper := [
    ⟨some 9, none, .val (.bin .lss (.slot 8) (.slot 7))⟩]
abbrev cmp_Or_int_r4 : List LOper := [
    ⟨some 10, none, .val (.idxA .leaf (.slot 6) (.slot 8))⟩,
    ⟨some 11, none, .val (.load .leaf (.slot 10))⟩,
    ⟨some 5, none, .val (.move (.slot 11))⟩]
abbrev cmp_Or_int_r5 : List LOper := [
    ⟨some 12, none, .val (.move (.slot 5))⟩,
    ⟨some 13, none, .val (.move (.slot 3))⟩,
    ⟨some 14, none, .val (.bin .neq (.slot 12) (.slot 13))⟩]
abbrev cmp_Or_int_r6 : List LOper := [
    ⟨some 15, none, .val (.move (.slot 5))⟩,
    ⟨some 2, none, .val (.move (.slot 15))⟩]
abbrev cmp_Or_int_r7 : List LOper := [
    ⟨some 16, none, .val (.bin .add (.slot 8) (.const (.int .i64 1)))⟩,
    ⟨some 8, none, .val (.move (.slot 16))⟩]
abbrev cmp_Or_int_l0 : LCode := (.seq (.ops cmp_Or_int_r3) (.seq (.cond (.slot 9) .skip (.exit 0)) (.seq (.block 1 (.seq (.ops cmp_Or_int_r4) (.seq (.ops cmp_Or_int_r5) (.cond (.slot 14) (.seq (.ops cmp_Or_int_r6) .ret) .skip)))) (.ops cmp_Or_int_r7))))
abbrev cmp_Or_int_r8 : List LOper := [
    ⟨some 17, none, .val (.move (.slot 3))⟩,
    ⟨some 2, none, .val (.move (.slot 17))⟩]
def cmp_Or_int : LFn := ⟨(.seq (.ops cmp_Or_int_r0) (.seq (.ops cmp_Or_int_r1) (.seq (.seq (.ops cmp_Or_int_r2) (.block 0 (.loop cmp_Or_int_l0))) (.seq (.ops cmp_Or_int_r8) .ret)))), 18, [.slot 2]⟩
theorem cmp_Or_int_low : lowerFn Try.prog 49 = some cmp_Or_int := by kernel_rfl

abbrev cmp_Compare_int_r0 : List LOper := [
    ⟨some 4, none, .val (.move (.const (.int .i64 0)))⟩]
abbrev cmp_Compare_int_r1 : List LOper := [
    ⟨some 7, none, .val (.move (.slot 0))⟩,
    ⟨some 8, none, .call 57 [(.slot 7)]⟩,
    ⟨some 5, none, .val (.move (.slot 8))⟩]
abbrev cmp_Compare_int_r2 : List LOper := [
    ⟨some 9, none, .val (.move (.slot 1))⟩,
    ⟨some 10, none, .call 57 [(.slot 9)]⟩,
    ⟨some 6, none, .val (.move (.slot 10))⟩]
abbrev cmp_Compare_int_r3 : List LOper := [
    ⟨some 11, none, .val (.move (.slot 5))⟩]
abbrev cmp_Compare_int_r4 : List LOper := [
    ⟨some 12, none, .val (.move (.slot 6))⟩]
abbrev cmp_Compare_int_r5 : List LOper := [
    ⟨some 4, none, .val (.move (.const (.int .i64 0)))⟩]
abbrev cmp_Compare_int_r6 : List LOper := [
    ⟨some 4, none, .val (.move (.const (.int .i64 (-1))))⟩]
abbrev cmp_Compare_int_r7 : List LOper := [
    ⟨some 13, none, .val (.move (.slot 6))⟩]
abbrev cmp_Compare_int_r8 : List LOper := [
    ⟨some 4, none, .val (.move (.const (.int .i64 1)))⟩]
abbrev cmp_Compare_int_r9 : List LOper := [
    ⟨some 14, none, .val (.move (.slot 0))⟩,
    ⟨some 15, none, .val (.move (.slot 1))⟩,
    ⟨some 16, none, .val (.bin .lss (.slot 14) (.slot 15))⟩]
abbrev cmp_Compare_int_r10 : List LOper := [
    ⟨some 4, none, .val (.move (.const (.int .i64 (-1))))⟩]
abbrev cmp_Compare_int_r11 : List LOper := [
    ⟨some 17, none, .val (.move (.slot 0))⟩,
    ⟨some 18, none, .val (.move (.slot 1))⟩,
    ⟨some 19, none, .val (.bin .gtr (.slot 17) (.slot 18))⟩]
abbrev cmp_Compare_int_r12 : List LOper := [
    ⟨some 4, none, .val (.move (.const (.int .i64 1)))⟩]
abbrev cmp_Compare_int_r13 : List LOper := [
    ⟨some 4, none, .val (.move (.const (.int .i64 0)))⟩]
def cmp_Compare_int : LFn := ⟨(.seq (.ops cmp_Compare_int_r0) (.seq (.ops cmp_Compare_int_r1) (.seq (.ops cmp_Compare_int_r2) (.seq (.seq (.ops cmp_Compare_int_r3) (.cond (.slot 11) (.seq (.seq (.ops cmp_Compare_int_r4) (.cond (.slot 12) (.seq (.ops cmp_Compare_int_r5) .ret) .skip)) (.seq (.ops cmp_Compare_int_r6) .ret)) .skip)) (.seq (.seq (.ops cmp_Compare_int_r7) (.cond (.slot 13) (.seq (.ops cmp_Compare_int_r8) .ret) .skip)) (.seq (.seq (.ops cmp_Compare_int_r9) (.cond (.slot 16) (.seq (.ops cmp_Compare_int_r10) .ret) .skip)) (.seq (.seq (.ops cmp_Compare_int_r11) (.cond (.slot 19) (.seq (.ops cmp_Compare_int_r12) .ret) .skip)) (.seq (.ops cmp_Compare_int_r13) .ret)))))))), 20, [.slot 4]⟩
theorem cmp_Compare_int_low : lowerFn Try.prog 50 = some cmp_Compare_int := by kernel_rfl

abbrev slices_Grow_stamp_Time_stamp_Time_r0 : List LOper := [
    ⟨some 4, none, .val (.move (.const (.sl (.agg 2) .nil [])))⟩]
abbrev slices_Grow_stamp_Time_stamp_Time_r1 : List LOper := [
    ⟨some 5, none, .val (.move (.slot 1))⟩,
    ⟨some 6, none, .val (.bin .lss (.slot 5) (.const (.int .i64 0)))⟩]
abbrev slices_Grow_stamp_Time_stamp_Time_r2 : List LOper := [
    ⟨some 7, none, .val (.mkif 9 (.const (.str ⟨#[99, 97, 110, 110, 111, 116, 32, 98, 101, 32, 110, 101, 103, 97, 116, 105, 118, 101]⟩)))⟩,
    ⟨none, none, .val (.never)⟩]
abbrev slices_Grow_stamp_Time_stamp_Time_r3 : List LOper := [
    ⟨some 8, none, .val (.move (.slot 1))⟩,
    ⟨some 9, none, .val (.move (.slot 0))⟩,
    ⟨some 10, none, .val (.capv (.slot 9))⟩,
    ⟨some 11, none, .val (.move (.slot 0))⟩,
    ⟨some 12, none, .val (.len (.slot 11))⟩,
    ⟨some 13, none, .val (.bin .sub (.slot 10) (.slot 12))⟩,
    ⟨some 14, none, .val (.bin .sub (.slot 8) (.slot 13))⟩,
    ⟨some 1, none, .val (.move (.slot 14))⟩]
abbrev slices_Grow_stamp_Time_stamp_Time_r4 : List LOper := [
    ⟨some 15, none, .val (.move (.slot 1))⟩,
    ⟨some 16, none, .val (.bin .gtr (.slot 15) (.const (.int .i64 0)))⟩]
abbrev slices_Grow_stamp_Time_stamp_Time_r5 : List LOper := [
    ⟨some 17, none, .val (.move (.slot 0))⟩,
    ⟨some 18, none, .val (.move (.slot 0))⟩,
    ⟨some 19, none, .val (.capv (.slot 18))⟩,
    ⟨some 20, none, .val (.slc (.agg 2) (.slot 17) .none (.some (.slot 19)) .none)⟩,
    ⟨some 21, none, .val (.move (.slot 1))⟩,
    ⟨some 22, none, .appz (.agg 2) 16 (.slot 20) (.slot 21) (.agg [(.int .i64 0), (.int .i64 0)])⟩,
    ⟨some 23, none, .val (.move (.slot 0))⟩,
    ⟨some 24, none, .val (.len (.slot 23))⟩,
    ⟨some 25, none, .val (.slc (.agg 2) (.slot 22) .none (.some (.slot 24)) .none)⟩,
    ⟨some 0, none, .val (.move (.slot 25))⟩]
abbrev slices_Grow_stamp_Time_stamp_Time_r6 : List LOper := [
    ⟨some 26, none, .val (.move (.slot 0))⟩,
    ⟨some 4, none, .val (.move (.slot 26))⟩]
def slices_Grow_stamp_Time_stamp_Time : LFn := ⟨(.seq (.ops slices_Grow_stamp_Time_stamp_Time_r0) (.seq (.seq (.ops slices_Grow_stamp_Time_stamp_Time_r1) (.cond (.slot 6) (.ops slices_Grow_stamp_Time_stamp_Time_r2) .skip)) (.seq (.seq (.ops slices_Grow_stamp_Time_stamp_Time_r3) (.seq (.ops slices_Grow_stamp_Time_stamp_Time_r4) (.cond (.slot 16) (.ops slices_Grow_stamp_Time_stamp_Time_r5) .skip))) (.seq (.ops slices_Grow_stamp_Time_stamp_Time_r6) .ret)))), 27, [.slot 4]⟩
theorem slices_Grow_stamp_Time_stamp_Time_low : lowerFn Try.prog 51 = some slices_Grow_stamp_Time_stamp_Time := by kernel_rfl

abbrev stamp_RightPath_r0 : List LOper := [
    ⟨some 1, none, .box (.agg 2) (.slot 0)⟩,
    ⟨some 2, none, .val (.move (.const (.bool false)))⟩]
abbrev stamp_RightPath_r1 : List LOper := [
    ⟨some 3, none, .val (.fldA 1 (.slot 1))⟩,
    ⟨some 4, none, .val (.load .leaf (.slot 3))⟩,
    ⟨some 5, none, .call 40 [(.slot 4), (.const (.int .i64 1048576))]⟩,
    ⟨some 2, none, .val (.move (.slot 5))⟩]
def stamp_RightPath : LFn := ⟨(.seq (.ops stamp_RightPath_r0) (.seq (.ops stamp_RightPath_r1) .ret)), 6, [.slot 2]⟩
theorem stamp_RightPath_low : lowerFn Try.prog 52 = some stamp_RightPath := by kernel_rfl

abbrev corollaryref20_RightPath_r0 : List LOper := [
    ⟨some 1, none, .box (.agg 2) (.slot 0)⟩,
    ⟨some 2, none, .val (.move (.const (.bool false)))⟩]
abbrev corollaryref20_RightPath_r1 : List LOper := [
    ⟨some 3, none, .val (.fldA 1 (.slot 1))⟩,
    ⟨some 4, none, .val (.load .leaf (.slot 3))⟩,
    ⟨some 5, none, .val (.bin .geq (.slot 4) (.const (.int .i64 0)))⟩,
    ⟨some 6, none, .val (.move (.slot 5))⟩,
    ⟨some 7, some (6, true), .val (.fldA 1 (.slot 1))⟩,
    ⟨some 8, some (6, true), .val (.load .leaf (.slot 7))⟩,
    ⟨some 9, some (6, true), .val (.bin .leq (.slot 8) (.const (.int .i64 1048576)))⟩,
    ⟨some 10, none, .val (.pick (.slot 6) (.slot 9) (.const (.bool false)))⟩,
    ⟨some 2, none, .val (.move (.slot 10))⟩]
def corollaryref20_RightPath : LFn := ⟨(.seq (.ops corollaryref20_RightPath_r0) (.seq (.ops corollaryref20_RightPath_r1) .ret)), 11, [.slot 2]⟩
theorem corollaryref20_RightPath_low : lowerFn Try.prog 53 = some corollaryref20_RightPath := by kernel_rfl

abbrev slices_AppendSeq_stamp_Time_stamp_Time_r0 : List LOper := [
    ⟨some 2, none, .box .leaf (.slot 0)⟩,
    ⟨some 4, none, .val (.move (.const (.sl (.agg 2) .nil [])))⟩]
abbrev slices_AppendSeq_stamp_Time_stamp_Time_r1 : List LOper := [
    ⟨some 6, none, .val (.move (.slot 1))⟩]
abbrev slices_AppendSeq_stamp_Time_stamp_Time_r2 : List LOper := [
    ⟨some 5, none, .box (.agg 2) (.const (.agg [(.int .i64 0), (.int .i64 0)]))⟩,
    ⟨none, none, .store (.agg 2) (.slot 5) (.slot 7)⟩]
abbrev slices_AppendSeq_stamp_Time_stamp_Time_r3 : List LOper := [
    ⟨some 8, none, .val (.load .leaf (.slot 2))⟩,
    ⟨some 9, none, .val (.load (.agg 2) (.slot 5))⟩,
    ⟨some 10, none, .bslice (.agg 2) [(.slot 9)]⟩,
    ⟨some 11, none, .append (.agg 2) 16 (.slot 8) (.slot 10)⟩,
    ⟨none, none, .store .leaf (.slot 2) (.slot 11)⟩]
abbrev slices_AppendSeq_stamp_Time_stamp_Time_b0 : LCode := (.block 1 (.ops slices_AppendSeq_stamp_Time_stamp_Time_r3))
abbrev slices_AppendSeq_stamp_Time_stamp_Time_r4 : List LOper := [
    ⟨some 12, none, .val (.load .leaf (.slot 2))⟩,
    ⟨some 4, none, .val (.move (.slot 12))⟩]
def slices_AppendSeq_stamp_Time_stamp_Time : LFn := ⟨(.seq (.ops slices_AppendSeq_stamp_Time_stamp_Time_r0) (.seq (.seq (.ops slices_AppendSeq_stamp_Time_stamp_Time_r1) (.block 0 (.range (.slot 6) [7] (.ops slices_AppendSeq_stamp_Time_stamp_Time_r2) slices_AppendSeq_stamp_Time_stamp_Time_b0))) (.seq (.ops slices_AppendSeq_stamp_Time_stamp_Time_r4) .ret))), 13, [.slot 4]⟩
theorem slices_AppendSeq_stamp_Time_stamp_Time_low : lowerFn Try.prog 54 = some slices_AppendSeq_stamp_Time_stamp_Time := by kernel_rfl

abbrev slices_pdqsortCmpFunc_stamp_Time_r0 : List LOper := [
    ⟨some 10, none, .val (.move (.const (.bool true)))⟩]
abbrev slices_pdqsortCmpFunc_stamp_Time_r1 : List LOper := [
    ⟨some 11, none, .val (.move (.const (.bool true)))⟩]
abbrev slices_pdqsortCmpFunc_stamp_Time_r2 : List LOper := [
    ⟨some 21, none, .val (.move (.slot 2))⟩,
    ⟨some 22, none, .val (.move (.slot 1))⟩,
    ⟨some 23, none, .val (.bin .sub (.slot 21) (.slot 22))⟩,
    ⟨some 12, none, .val (.move (.slot 23))⟩]
abbrev slices_pdqsortCmpFunc_stamp_Time_r3 : List LOper := [
    ⟨some 24, none, .val (.move (.slot 12))⟩,
    ⟨some 25, none, .val (.bin .leq (.slot 24) (.const (.int .i64 12)))⟩]
abbrev slices_pdqsortCmpFunc_stamp_Time_r4 : List LOper := [
    ⟨some 26, none, .val (.move (.slot 0))⟩,
    ⟨some 27, none, .val (.move (.slot 1))⟩,
    ⟨some 28, none, .val (.move (.slot 2))⟩,
    ⟨some 29, none, .val (.move (.slot 4))⟩,
    ⟨some 30, none, .call 58 [(.slot 26), (.slot 27), (.slot 28), (.slot 29)]⟩]
abbrev slices_pdqsortCmpFunc_stamp_Time_r5 : List LOper := [
    ⟨some 31, none, .val (.move (.slot 3))⟩,
    ⟨some 32, none, .val (.bin .eql (.slot 31) (.const (.int .i64 0)))⟩]
abbrev slices_pdqsortCmpFunc_stamp_Time_r6 : List LOper := [
    ⟨some 33, none, .val (.move (.slot 0))⟩,
    ⟨some 34, none, .val (.move (.slot 1))⟩,
    ⟨some 35, none, .val (.move (.slot 2))⟩,
    ⟨some 36, none, .val (.move (.slot 4))⟩,
    ⟨some 37, none, .call 59 [(.slot 33), (.slot 34), (.slot 35), (.slot 36)]⟩]
abbrev slices_pdqsortCmpFunc_stamp_Time_r7 : List LOper := [
    ⟨some 38, none, .val (.move (.slot 10))⟩,
    ⟨some 39, none, .val (.not (.slot 38))⟩]
abbrev slices_pdqsortCmpFunc_stamp_Time_r8 : List LOper := [
    ⟨some 40, none, .val (.move (.slot 0))⟩,
    ⟨some 41, none, .val (.move (.slot 1))⟩,
    ⟨some 42, none, .val (.move (.slot 2))⟩,
    ⟨some 43, none, .val (.move (.slot 4))⟩,
    ⟨some 44, none, .call 60 [(.slot 40), (.slot 41), (.slot 42), (.slot 43)]⟩]
abbrev slices_pdqsortCmpFunc_stamp_Time_r9 : List LOper := [
    ⟨some 45, none, .val (.move (.slot 3))⟩,
    ⟨some 46, none, .val (.bin .sub (.slot 45) (.const (.int .i64 1)))⟩,
    ⟨some 3, none, .val (.move (.slot 46))⟩]
abbrev slices_pdqsortCmpFunc_stamp_Time_r10 : List LOper := [
    ⟨some 48, none, .val (.move (.slot 0))⟩,
    ⟨some 49, none, .val (.move (.slot 1))⟩,
    ⟨some 50, none, .val (.move (.slot 2))⟩,
    ⟨some 51, none, .val (.move (.slot 4))⟩,
    ⟨some 52, none, .call 61 [(.slot 48), (.slot 49), (.slot 50), (.slot 51)]⟩,
    ⟨some 47, none, .val (.move (.slot 52))⟩,
    ⟨some 53, none, .val (.ext (.slot 47) 0)⟩,
    ⟨some 54, none, .val (.ext (.slot 47) 1)⟩,
    ⟨some 13, none, .val (.move (.slot 53))⟩,
    ⟨some 14, none, .val (.move (.slot 54))⟩]
abbrev slices_pdqsortCmpFunc_stamp_Time_r11 : List LOper := [
    ⟨some 55, none, .val (.move (.slot 14))⟩,
    ⟨some 56, none, .val (.bin .eql (.slot 55) (.const (.int .i64 2)))⟩]
abbrev slices_pdqsortCmpFunc_stamp_Time_r12 : List LOper := [
    ⟨some 57, none, .val (.move (.slot 0))⟩,
    ⟨some 58, none, .val (.move (.slot 1))⟩,
    ⟨some 59, none, .val (.move (.slot 2))⟩,
    ⟨some 60, none, .val (.move (.slot 4))⟩,
    ⟨some 61, none, .call 62 [(.slot 57), (.slot 58), (.slot 59), (.slot 60)]⟩]
abbrev slices_pdqsortCmpFunc_stamp_Time_r13 : List LOper := [
    ⟨some 62, none, .val (.move (.slot 2))⟩,
    ⟨some 63, none, .val (.bin .sub (.slot 62) (.const (.int .i64 1)))⟩,
    ⟨some 64, none, .val (.move (.slot 13))⟩,
    ⟨some 65, none, .val (.move (.slot 1))⟩,
    ⟨some 66, none, .val (.bin .sub (.slot 64) (.slot 65))⟩,
    ⟨some 67, none, .val (.bin .sub (.slot 63) (.slot 66))⟩,
    ⟨some 13, none, .val (.move (.slot 67))⟩]
abbrev slices_pdqsortCmpFunc_stamp_Time_r14 : List LOper := [
    ⟨some 14, none, .val (.move (.const (.int .i64 1)))⟩]
abbrev slices_pdqsortCmpFunc_stamp_Time_r15 : List LOper := [
    ⟨some 68, none, .val (.move (.slot 10))⟩,
    ⟨some 69, none, .val (.move (.slot 68))⟩,
    ⟨some 70, some (69, true), .val (.move (.slot 11))⟩,
    ⟨some 71, none, .val (.pick (.slot 69) (.slot 70) (.const (.bool false)))⟩,
    ⟨some 72, none, .val (.move (.slot 71))⟩,
    ⟨some 73, some (72, true), .val (.move (.slot 14))⟩,
    ⟨some 74, some (72, true), .val (.bin .eql (.slot 73) (.const (.int .i64 1)))⟩,
    ⟨some 75, none, .val (.pick (.slot 72) (.slot 74) (.const (.bool false)))⟩]
abbrev slices_pdqsortCmpFunc_stamp_Time_r16 : List LOper := [
    ⟨some 76, none, .val (.move (.slot 0))⟩,
    ⟨some 77, none, .val (.move (.slot 1))⟩,
    ⟨some 78, none, .val (.move (.slot 2))⟩,
    ⟨some 79, none, .val (.move (.slot 4))⟩,
    ⟨some 80, none, .call 63 [(.slot 76), (.slot 77), (.slot 78), (.slot 79)]⟩]
abbrev slices_pdqsortCmpFunc_stamp_Time_r17 : List (LOper × List Nat) := [
    (⟨some 81, none, .val (.move (.slot 1))⟩, []),
    (⟨some 82, none, .val (.bin .gtr (.slot 81) (.const (.int .i64 0)))⟩, [0]),
    (⟨some 83, none, .val (.move (.slot 82))⟩, [1]),
    (⟨some 84, some (83, true), .val (.move (.slot 4))⟩, [2]),
    (⟨some 85, some (83, true), .val (.move (.slot 0))⟩, [2]),
    (⟨some 86, some (83, true), .val (.move (.slot 1))⟩, [2]),
    (⟨some 87, some (83, true), .val (.bin .sub (.slot 86) (.const (.int .i64 1)))⟩, [5, 2]),
    (⟨some 88, some (83, true), .val (.idxA (.agg 2) (.slot 85) (.slot 87))⟩, [4, 6, 2]),
    (⟨some 89, some (83, true), .val (.load (.agg 2) (.slot 88))⟩, [7, 2]),
    (⟨some 90, some (83, true), .val (.move (.slot 0))⟩, [2]),
    (⟨some 91, some (83, true), .val (.move (.slot 13))⟩, [2]),
    (⟨some 92, some (83, true), .val (.idxA (.agg 2) (.slot 90) (.slot 91))⟩, [9, 10, 2]),
    (⟨some 93, some (83, true), .val (.load (.agg 2) (.slot 92))⟩, [11, 2]),
    (⟨some 94, some (83, true), .callv (.slot 84) [(.slot 89), (.slot 93)]⟩, [3, 8, 12, 2, 2]),
    (⟨some 95, some (83, true), .val (.bin .lss (.slot 94) (.const (.int .i64 0)))⟩, [13, 2]),
    (⟨some 96, some (83, true), .val (.not (.slot 95))⟩, [14, 2]),
    (⟨some 97, none, .val (.pick (.slot 83) (.slot 96) (.const (.bool false)))⟩, [2, 15])]
abbrev slices_pdqsortCmpFunc_stamp_Time_r17t : List LOper := []
abbrev slices_pdqsortCmpFunc_stamp_Time_r18 : List LOper := [
    ⟨some 98, none, .val (.move (.slot 0))⟩,
    ⟨some 99, none, .val (.move (.slot 1))⟩,
    ⟨some 100, none, .val (.move (.slot 2))⟩,
    ⟨some 101, none, .val (.move (.slot 13))⟩,
    ⟨some 102, none, .val (.move (.slot 4))⟩,
    ⟨some 103, none, .call 64 [(.slot 98), (.slot 99), (.slot 100), (.slot 101), (.slot 102)]⟩,
    ⟨some 15, none, .val (.move (.slot 103))⟩]
abbrev slices_pdqsortCmpFunc_stamp_Time_r19 : List LOper := [
    ⟨some 104, none, .val (.move (.slot 15))⟩,
    ⟨some 1, none, .val (.move (.slot 104))⟩]
abbrev slices_pdqsortCmpFunc_stamp_Time_r20 : List LOper := [
    ⟨some 106, none, .val (.move (.slot 0))⟩,
    ⟨some 107, none, .val (.move (.slot 1))⟩,
    ⟨some 108, none, .val (.move (.slot 2))⟩,
    ⟨some 109, none, .val (.move (.slot 13))⟩,
    ⟨some 110, none, .val (.move (.slot 4))⟩,
    ⟨some 111, none, .call 65 [(.slot 106), (.slot 107), (.slot 108), (.slot 109), (.slot 110)]⟩,
    ⟨some 105, none, .val (.move (.slot 111))⟩,
    ⟨some 112, none, .val (.ext (.slot 105) 0)⟩,
    ⟨some 113, none, .val (.ext (.slot 105) 1)⟩,
    ⟨some 16, none, .val (.move (.slot 112))⟩,
    ⟨some 17, none, .val (.move (.slot 113))⟩]
abbrev slices_pdqsortCmpFunc_stamp_Time_r21 : List LOper := [
    ⟨some 114, none, .val (.move (.slot 17))⟩,
    ⟨some 11, none, .val (.move (.slot 114))⟩]
abbrev slices_pdqsortCmpFunc_stamp_Time_r22 : List LOper := [
    ⟨some 115, none, .val (.move (.slot 16))⟩,
    ⟨some 116, none, .val (.move (.slot 1))⟩,
    ⟨some 117, none, .val (.bin .sub (.slot 115) (.slot 116))⟩,
    ⟨some 118, none, .val (.move (.slot 2))⟩,
    ⟨some 119, none, .val (.move (.slot 16))⟩,
    ⟨some 120, none, .val (.bin .sub (.slot 118) (.slot 119))⟩,
    ⟨some 18, none, .val (.move (.slot 117))⟩,
    ⟨some 19, none, .val (.move (.slot 120))⟩]
abbrev slices_pdqsortCmpFunc_stamp_Time_r23 : List LOper := [
    ⟨some 121, none, .val (.move (.slot 12))⟩,
    ⟨some 122, none, .val (.bin .quo (.slot 121) (.const (.int .i64 8)))⟩,
    ⟨some 20, none, .val (.move (.slot 122))⟩]
abbrev slices_pdqsortCmpFunc_stamp_Time_r24 : List LOper := [
    ⟨some 123, none, .val (.move (.slot 18))⟩,
    ⟨some 124, none, .val (.move (.slot 19))⟩,
    ⟨some 125, none, .val (.bin .lss (.slot 123) (.slot 124))⟩]
abbrev slices_pdqsortCmpFunc_stamp_Time_r25 : List LOper := [
    ⟨some 126, none, .val (.move (.slot 18))⟩,
    ⟨some 127, none, .val (.move (.slot 20))⟩,
    ⟨some 128, none, .val (.bin .geq (.slot 126) (.slot 127))⟩,
    ⟨some 10, none, .val (.move (.slot 128))⟩]
abbrev slices_pdqsortCmpFunc_stamp_Time_r26 : List LOper := [
    ⟨some 129, none, .val (.move (.slot 0))⟩,
    ⟨some 130, none, .val (.move (.slot 1))⟩,
    ⟨some 131, none, .val (.move (.slot 16))⟩,
    ⟨some 132, none, .val (.move (.slot 3))⟩,
    ⟨some 133, none, .val (.move (.slot 4))⟩,
    ⟨some 134, none, .call 55 [(.slot 129), (.slot 130), (.slot 131), (.slot 132), (.slot 133)]⟩]
abbrev slices_pdqsortCmpFunc_stamp_Time_r27 : List LOper := [
    ⟨some 135, none, .val (.move (.slot 16))⟩,
    ⟨some 136, none, .val (.bin .add (.slot 135) (.const (.int .i64 1)))⟩,
    ⟨some 1, none, .val (.move (.slot 136))⟩]
abbrev slices_pdqsortCmpFunc_stamp_Time_r28 : List LOper := [
    ⟨some 137, none, .val (.move (.slot 19))⟩,
    ⟨some 138, none, .val (.move (.slot 20))⟩,
    ⟨some 139, none, .val (.bin .geq (.slot 137) (.slot 138))⟩,
    ⟨some 10, none, .val (.move (.slot 139))⟩]
abbrev slices_pdqsortCmpFunc_stamp_Time_r29 : List LOper := [
    ⟨some 140, none, .val (.move (.slot 0))⟩,
    ⟨some 141, none, .val (.move (.slot 16))⟩,
    ⟨some 142, none, .val (.bin .add (.slot 141) (.const (.int .i64 1)))⟩,
    ⟨some 143, none, .val (.move (.slot 2))⟩,
    ⟨some 144, none, .val (.move (.slot 3))⟩,
    ⟨some 145, none, .val (.move (.slot 4))⟩,
    ⟨some 146, none, .call 55 [(.slot 140), (.slot 142), (.slot 143), (.slot 144), (.slot 145)]⟩]
abbrev slices_pdqsortCmpFunc_stamp_Time_r30 : List LOper := [
    ⟨some 147, none, .val (.move (.slot 16))⟩,
    ⟨some 2, none, .val (.move (.slot 147))⟩]
abbrev slices_pdqsortCmpFunc_stamp_Time_l0 : LCode := (.block 1 (.seq (.ops slices_pdqsortCmpFunc_stamp_Time_r2) (.seq (.seq (.ops slices_pdqsortCmpFunc_stamp_Time_r3) (.cond (.slot 25) (.seq (.ops slices_pdqsortCmpFunc_stamp_Time_r4) .ret) .skip)) (.seq (.seq (.ops slices_pdqsortCmpFunc_stamp_Time_r5) (.cond (.slot 32) (.seq (.ops slices_pdqsortCmpFunc_stamp_Time_r6) .ret) .skip)) (.seq (.seq (.ops slices_pdqsortCmpFunc_stamp_Time_r7) (.cond (.slot 39) (.seq (.ops slices_pdqsortCmpFunc_stamp_Time_r8) (.ops slices_pdqsortCmpFunc_stamp_Time_r9)) .skip)) (.seq (.ops slices_pdqsortCmpFunc_stamp_Time_r10) (.seq (.seq (.ops slices_pdqsortCmpFunc_stamp_Time_r11) (.cond (.slot 56) (.seq (.ops slices_pdqsortCmpFunc_stamp_Time_r12) (.seq (.ops slices_pdqsortCmpFunc_stamp_Time_r13) (.ops slices_pdqsortCmpFunc_stamp_Time_r14))) .skip)) (.seq (.seq (.ops slices_pdqsortCmpFunc_stamp_Time_r15) (.cond (.slot 75) (.seq (.ops slices_pdqsortCmpFunc_stamp_Time_r16) (.cond (.slot 80) .ret .skip)) .skip)) (.seq (.seq (.draw 17 slices_pdqsortCmpFunc_stamp_Time_r17 slices_pdqsortCmpFunc_stamp_Time_r17t) (.cond (.slot 97) (.seq (.ops slices_pdqsortCmpFunc_stamp_Time_r18) (.seq (.ops slices_pdqsortCmpFunc_stamp_Time_r19) (.exit 1))) .skip)) (.seq (.ops slices_pdqsortCmpFunc_stamp_Time_r20) (.seq (.ops slices_pdqsortCmpFunc_stamp_Time_r21) (.seq (.ops slices_pdqsortCmpFunc_stamp_Time_r22) (.seq (.ops slices_pdqsortCmpFunc_stamp_Time_r23) (.seq (.ops slices_pdqsortCmpFunc_stamp_Time_r24) (.cond (.slot 125) (.seq (.ops slices_pdqsortCmpFunc_stamp_Time_r25) (.seq (.ops slices_pdqsortCmpFunc_stamp_Time_r26) (.ops slices_pdqsortCmpFunc_stamp_Time_r27))) (.seq (.ops slices_pdqsortCmpFunc_stamp_Time_r28) (.seq (.ops slices_pdqsortCmpFunc_stamp_Time_r29) (.ops slices_pdqsortCmpFunc_stamp_Time_r30))))))))))))))))))
def slices_pdqsortCmpFunc_stamp_Time : LFn := ⟨(.seq (.ops slices_pdqsortCmpFunc_stamp_Time_r0) (.seq (.ops slices_pdqsortCmpFunc_stamp_Time_r1) (.block 0 (.loop slices_pdqsortCmpFunc_stamp_Time_l0)))), 148, []⟩
theorem slices_pdqsortCmpFunc_stamp_Time_low : lowerFn Try.prog 55 = some slices_pdqsortCmpFunc_stamp_Time := by kernel_rfl

abbrev math_bits_Len_r0 : List LOper := [
    ⟨some 2, none, .val (.move (.const (.int .i64 0)))⟩]
abbrev math_bits_Len_r1 : List LOper := [
    ⟨some 3, none, .val (.move (.slot 0))⟩,
    ⟨some 4, none, .val (.conv .u32 (.slot 3))⟩,
    ⟨some 5, none, .call 66 [(.slot 4)]⟩,
    ⟨some 2, none, .val (.move (.slot 5))⟩]
abbrev math_bits_Len_r2 : List LOper := [
    ⟨some 6, none, .val (.move (.slot 0))⟩,
    ⟨some 7, none, .call 67 [(.slot 6)]⟩,
    ⟨some 2, none, .val (.move (.slot 7))⟩]
def math_bits_Len : LFn := ⟨(.seq (.ops math_bits_Len_r0) (.seq (.cond (.const (.bool false)) (.seq (.ops math_bits_Len_r1) .ret) .skip) (.seq (.ops math_bits_Len_r2) .ret))), 8, [.slot 2]⟩
theorem math_bits_Len_low : lowerFn Try.prog 56 = some math_bits_Len := by kernel_rfl

abbrev cmp_isNaN_int_r0 : List LOper := [
    ⟨some 2, none, .val (.move (.const (.bool false)))⟩]
abbrev cmp_isNaN_int_r1 : List LOper := [
    ⟨some 3, none, .val (.move (.slot 0))⟩,
    ⟨some 4, none, .val (.move (.slot 0))⟩,
    ⟨some 5, none, .val (.bin .neq (.slot 3) (.slot 4))⟩,
    ⟨some 2, none, .val (.move (.slot 5))⟩]
def cmp_isNaN_int : LFn := ⟨(.seq (.ops cmp_isNaN_int_r0) (.seq (.ops cmp_isNaN_int_r1) .ret)), 6, [.slot 2]⟩
theorem cmp_isNaN_int_low : lowerFn Try.prog 57 = some cmp_isNaN_int := by kernel_rfl

abbrev slices_insertionSortCmpFunc_stamp_Time_r0 : List LOper := [
    ⟨some 10, none, .val (.move (.slot 1))⟩,
    ⟨some 11, none, .val (.bin .add (.slot 10) (.const (.int .i64 1)))⟩,
    ⟨some 8, none, .val (.move (.slot 11))⟩]
abbrev slices_insertionSortCmpFunc_stamp_Time_r1 : List LOper := [
    ⟨some 12, none, .val (.move (.slot 8))⟩,
    ⟨some 13, none, .val (.move (.slot 2))⟩,
    ⟨some 14, none, .val (.bin .lss (.slot 12) (.slot 13))⟩]
abbrev slices_insertionSortCmpFunc_stamp_Time_r2 : List LOper := [
    ⟨some 17, none, .val (.move (.slot 8))⟩,
    ⟨some 9, none, .val (.move (.slot 17))⟩]
abbrev slices_insertionSortCmpFunc_stamp_Time_r3 : List (LOper × List Nat) := [
    (⟨some 18, none, .val (.move (.slot 9))⟩, []),
    (⟨some 19, none, .val (.move (.slot 1))⟩, []),
    (⟨some 20, none, .val (.bin .gtr (.slot 18) (.slot 19))⟩, [0, 1]),
    (⟨some 21, none, .val (.move (.slot 20))⟩, [2]),
    (⟨some 22, some (21, true), .val (.move (.slot 3))⟩, [3]),
    (⟨some 23, some (21, true), .val (.move (.slot 0))⟩, [3]),
    (⟨some 24, some (21, true), .val (.move (.slot 9))⟩, [3]),
    (⟨some 25, some (21, true), .val (.idxA (.agg 2) (.slot 23) (.slot 24))⟩, [5, 6, 3]),
    (⟨some 26, some (21, true), .val (.load (.agg 2) (.slot 25))⟩, [7, 3]),
    (⟨some 27, some (21, true), .val (.move (.slot 0))⟩, [3]),
    (⟨some 28, some (21, true), .val (.move (.slot 9))⟩, [3]),
    (⟨some 29, some (21, true), .val (.bin .sub (.slot 28) (.const (.int .i64 1)))⟩, [10, 3]),
    (⟨some 30, some (21, true), .val (.idxA (.agg 2) (.slot 27) (.slot 29))⟩, [9, 11, 3]),
    (⟨some 31, some (21, true), .val (.load (.agg 2) (.slot 30))⟩, [12, 3]),
    (⟨some 32, some (21, true), .callv (.slot 22) [(.slot 26), (.slot 31)]⟩, [4, 8, 13, 3, 3]),
    (⟨some 33, some (21, true), .val (.bin .lss (.slot 32) (.const (.int .i64 0)))⟩, [14, 3]),
    (⟨some 34, none, .val (.pick (.slot 21) (.slot 33) (.const (.bool false)))⟩, [3, 15])]
abbrev slices_insertionSortCmpFunc_stamp_Time_r3t : List LOper := []
abbrev slices_insertionSortCmpFunc_stamp_Time_r4 : List (LOper × List Nat) := [
    (⟨some 37, none, .val (.move (.slot 0))⟩, []),
    (⟨some 38, none, .val (.move (.slot 9))⟩, []),
    (⟨some 39, none, .val (.move (.slot 0))⟩, []),
    (⟨some 40, none, .val (.move (.slot 9))⟩, []),
    (⟨some 41, none, .val (.bin .sub (.slot 40) (.const (.int .i64 1)))⟩, [3]),
    (⟨some 42, none, .val (.move (.slot 0))⟩, []),
    (⟨some 43, none, .val (.move (.slot 9))⟩, []),
    (⟨some 44, none, .val (.bin .sub (.slot 43) (.const (.int .i64 1)))⟩, [6]),
    (⟨some 45, none, .val (.idxA (.agg 2) (.slot 42) (.slot 44))⟩, [5, 7]),
    (⟨some 46, none, .val (.load (.agg 2) (.slot 45))⟩, [8]),
    (⟨some 47, none, .val (.move (.slot 0))⟩, []),
    (⟨some 48, none, .val (.move (.slot 9))⟩, []),
    (⟨some 49, none, .val (.idxA (.agg 2) (.slot 47) (.slot 48))⟩, [10, 11]),
    (⟨some 50, none, .val (.load (.agg 2) (.slot 49))⟩, [12]),
    (⟨some 51, none, .val (.idxA (.agg 2) (.slot 37) (.slot 38))⟩, [0, 1, 0, 1, 5, 6, 7, 8, 9, 13]),
    (⟨none, none, .store (.agg 2) (.slot 51) (.slot 46)⟩, [14, 9, 0, 1, 5, 6, 7, 8, 9, 13]),
    (⟨some 52, none, .val (.idxA (.agg 2) (.slot 39) (.slot 41))⟩, [2, 4, 0, 1, 2, 3, 4, 5, 6, 7, 8, 9, 10, 11, 12, 13, 14, 15]),
    (⟨none, none, .store (.agg 2) (.slot 52) (.slot 50)⟩, [16, 13, 15, 0, 1, 2, 3, 4, 5, 6, 7, 8, 9, 10, 11, 12, 13, 14, 15])]
abbrev slices_insertionSortCmpFunc_stamp_Time_r4t : List LOper := []
abbrev slices_insertionSortCmpFunc_stamp_Time_r5 : List LOper := [
    ⟨some 35, none, .val (.move (.slot 9))⟩,
    ⟨some 36, none, .val (.bin .sub (.slot 35) (.const (.int .i64 1)))⟩,
    ⟨some 9, none, .val (.move (.slot 36))⟩]
abbrev slices_insertionSortCmpFunc_stamp_Time_l0 : LCode := (.seq (.seq (.draw 17 slices_insertionSortCmpFunc_stamp_Time_r3 slices_insertionSortCmpFunc_stamp_Time_r3t) (.cond (.slot 34) .skip (.exit 2))) (.seq (.block 3 (.draw 18 slices_insertionSortCmpFunc_stamp_Time_r4 slices_insertionSortCmpFunc_stamp_Time_r4t)) (.ops slices_insertionSortCmpFunc_stamp_Time_r5)))
abbrev slices_insertionSortCmpFunc_stamp_Time_r6 : List LOper := [
    ⟨some 15, none, .val (.move (.slot 8))⟩,
    ⟨some 16, none, .val (.bin .add (.slot 15) (.const (.int .i64 1)))⟩,
    ⟨some 8, none, .val (.move (.slot 16))⟩]
abbrev slices_insertionSortCmpFunc_stamp_Time_l1 : LCode := (.seq (.seq (.ops slices_insertionSortCmpFunc_stamp_Time_r1) (.cond (.slot 14) .skip (.exit 0))) (.seq (.block 1 (.seq (.ops slices_insertionSortCmpFunc_stamp_Time_r2) (.block 2 (.loop slices_insertionSortCmpFunc_stamp_Time_l0)))) (.ops slices_insertionSortCmpFunc_stamp_Time_r6)))
def slices_insertionSortCmpFunc_stamp_Time : LFn := ⟨(.seq (.ops slices_insertionSortCmpFunc_stamp_Time_r0) (.block 0 (.loop slices_insertionSortCmpFunc_stamp_Time_l1))), 53, []⟩
theorem slices_insertionSortCmpFunc_stamp_Time_low : lowerFn Try.prog 58 = some slices_insertionSortCmpFunc_stamp_Time := by kernel_rfl

abbrev slices_heapSortCmpFunc_stamp_Time_r0 : List LOper := [
    ⟨some 13, none, .val (.move (.slot 1))⟩,
    ⟨some 8, none, .val (.move (.slot 13))⟩]
abbrev slices_heapSortCmpFunc_stamp_Time_r1 : List LOper := [
    ⟨some 9, none, .val (.move (.const (.int .i64 0)))⟩]
abbrev slices_heapSortCmpFunc_stamp_Time_r2 : List LOper := [
    ⟨some 14, none, .val (.move (.slot 2))⟩,
    ⟨some 15, none, .val (.move (.slot 1))⟩,
    ⟨some 16, none, .val (.bin .sub (.slot 14) (.slot 15))⟩,
    ⟨some 10, none, .val (.move (.slot 16))⟩]
abbrev slices_heapSortCmpFunc_stamp_Time_r3 : List LOper := [
    ⟨some 17, none, .val (.move (.slot 10))⟩,
    ⟨some 18, none, .val (.bin .sub (.slot 17) (.const (.int .i64 1)))⟩,
    ⟨some 19, none, .val (.bin .quo (.slot 18) (.const (.int .i64 2)))⟩,
    ⟨some 11, none, .val (.move (.slot 19))⟩]
abbrev slices_heapSortCmpFunc_stamp_Time_r4 : List LOper := [
    ⟨some 20, none, .val (.move (.slot 11))⟩,
    ⟨some 21, none, .val (.bin .geq (.slot 20) (.const (.int .i64 0)))⟩]
abbrev slices_heapSortCmpFunc_stamp_Time_r5 : List LOper := [
    ⟨some 24, none, .val (.move (.slot 0))⟩,
    ⟨some 25, none, .val (.move (.slot 11))⟩,
    ⟨some 26, none, .val (.move (.slot 10))⟩,
    ⟨some 27, none, .val (.move (.slot 8))⟩,
    ⟨some 28, none, .val (.move (.slot 3))⟩,
    ⟨some 29, none, .call 68 [(.slot 24), (.slot 25), (.slot 26), (.slot 27), (.slot 28)]⟩]
abbrev slices_heapSortCmpFunc_stamp_Time_r6 : List LOper := [
    ⟨some 22, none, .val (.move (.slot 11))⟩,
    ⟨some 23, none, .val (.bin .sub (.slot 22) (.const (.int .i64 1)))⟩,
    ⟨some 11, none, .val (.move (.slot 23))⟩]
abbrev slices_heapSortCmpFunc_stamp_Time_l0 : LCode := (.seq (.seq (.ops slices_heapSortCmpFunc_stamp_Time_r4) (.cond (.slot 21) .skip (.exit 0))) (.seq (.block 1 (.ops slices_heapSortCmpFunc_stamp_Time_r5)) (.ops slices_heapSortCmpFunc_stamp_Time_r6)))
abbrev slices_heapSortCmpFunc_stamp_Time_r7 : List LOper := [
    ⟨some 30, none, .val (.move (.slot 10))⟩,
    ⟨some 31, none, .val (.bin .sub (.slot 30) (.const (.int .i64 1)))⟩,
    ⟨some 12, none, .val (.move (.slot 31))⟩]
abbrev slices_heapSortCmpFunc_stamp_Time_r8 : List LOper := [
    ⟨some 32, none, .val (.move (.slot 12))⟩,
    ⟨some 33, none, .val (.bin .geq (.slot 32) (.const (.int .i64 0)))⟩]
abbrev slices_heapSortCmpFunc_stamp_Time_r9 : List (LOper × List Nat) := [
    (⟨some 36, none, .val (.move (.slot 0))⟩, []),
    (⟨some 37, none, .val (.move (.slot 8))⟩, []),
    (⟨some 38, none, .val (.move (.slot 0))⟩, []),
    (⟨some 39, none, .val (.move (.slot 8))⟩, []),
    (⟨some 40, none, .val (.move (.slot 12))⟩, []),
    (⟨some 41, none, .val (.bin .add (.slot 39) (.slot 40))⟩, [3, 4]),
    (⟨some 42, none, .val (.move (.slot 0))⟩, []),
    (⟨some 43, none, .val (.move (.slot 8))⟩, []),
    (⟨some 44, none, .val (.move (.slot 12))⟩, []),
    (⟨some 45, none, .val (.bin .add (.slot 43) (.slot 44))⟩, [7, 8]),
    (⟨some 46, none, .val (.idxA (.agg 2) (.slot 42) (.slot 45))⟩, [6, 9]),
    (⟨some 47, none, .val (.load (.agg 2) (.slot 46))⟩, [10]),
    (⟨some 48, none, .val (.move (.slot 0))⟩, []),
    (⟨some 49, none, .val (.move (.slot 8))⟩, []),
    (⟨some 50, none, .val (.idxA (.agg 2) (.slot 48) (.slot 49))⟩, [12, 13]),
    (⟨some 51, none, .val (.load (.agg 2) (.slot 50))⟩, [14]),
    (⟨some 52, none, .val (.idxA (.agg 2) (.slot 36) (.slot 37))⟩, [0, 1, 0, 1, 6, 7, 8, 9, 10, 11, 15]),
    (⟨none, none, .store (.agg 2) (.slot 52) (.slot 47)⟩, [16, 11, 0, 1, 6, 7, 8, 9, 10, 11, 15]),
    (⟨some 53, none, .val (.idxA (.agg 2) (.slot 38) (.slot 41))⟩, [2, 5, 0, 1, 2, 3, 4, 5, 6, 7, 8, 9, 10, 11, 12, 13, 14, 15, 16, 17]),
    (⟨none, none, .store (.agg 2) (.slot 53) (.slot 51)⟩, [18, 15, 17, 0, 1, 2, 3, 4, 5, 6, 7, 8, 9, 10, 11, 12, 13, 14, 15, 16, 17])]
abbrev slices_heapSortCmpFunc_stamp_Time_r9t : List LOper := []
abbrev slices_heapSortCmpFunc_stamp_Time_r10 : List LOper := [
    ⟨some 54, none, .val (.move (.slot 0))⟩,
    ⟨some 55, none, .val (.move (.slot 9))⟩,
    ⟨some 56, none, .val (.move (.slot 12))⟩,
    ⟨some 57, none, .val (.move (.slot 8))⟩,
    ⟨some 58, none, .val (.move (.slot 3))⟩,
    ⟨some 59, none, .call 68 [(.slot 54), (.slot 55), (.slot 56), (.slot 57), (.slot 58)]⟩]
abbrev slices_heapSortCmpFunc_stamp_Time_r11 : List LOper := [
    ⟨some 34, none, .val (.move (.slot 12))⟩,
    ⟨some 35, none, .val (.bin .sub (.slot 34) (.const (.int .i64 1)))⟩,
    ⟨some 12, none, .val (.move (.slot 35))⟩]
abbrev slices_heapSortCmpFunc_stamp_Time_l1 : LCode := (.seq (.seq (.ops slices_heapSortCmpFunc_stamp_Time_r8) (.cond (.slot 33) .skip (.exit 2))) (.seq (.block 3 (.seq (.draw 20 slices_heapSortCmpFunc_stamp_Time_r9 slices_heapSortCmpFunc_stamp_Time_r9t) (.ops slices_heapSortCmpFunc_stamp_Time_r10))) (.ops slices_heapSortCmpFunc_stamp_Time_r11)))
def slices_heapSortCmpFunc_stamp_Time : LFn := ⟨(.seq (.ops slices_heapSortCmpFunc_stamp_Time_r0) (.seq (.ops slices_heapSortCmpFunc_stamp_Time_r1) (.seq (.ops slices_heapSortCmpFunc_stamp_Time_r2) (.seq (.seq (.ops slices_heapSortCmpFunc_stamp_Time_r3) (.block 0 (.loop slices_heapSortCmpFunc_stamp_Time_l0))) (.seq (.ops slices_heapSortCmpFunc_stamp_Time_r7) (.block 2 (.loop slices_heapSortCmpFunc_stamp_Time_l1))))))), 60, []⟩
theorem slices_heapSortCmpFunc_stamp_Time_low : lowerFn Try.prog 59 = some slices_heapSortCmpFunc_stamp_Time := by kernel_rfl

abbrev slices_breakPatternsCmpFunc_stamp_Time_r0 : List LOper := [
    ⟨some 13, none, .val (.move (.slot 2))⟩,
    ⟨some 14, none, .val (.move (.slot 1))⟩,
    ⟨some 15, none, .val (.bin .sub (.slot 13) (.slot 14))⟩,
    ⟨some 8, none, .val (.move (.slot 15))⟩]
abbrev slices_breakPatternsCmpFunc_stamp_Time_r1 : List LOper := [
    ⟨some 16, none, .val (.move (.slot 8))⟩,
    ⟨some 17, none, .val (.bin .geq (.slot 16) (.const (.int .i64 8)))⟩]
abbrev slices_breakPatternsCmpFunc_stamp_Time_r2 : List LOper := [
    ⟨some 18, none, .val (.move (.slot 8))⟩,
    ⟨some 19, none, .val (.conv .u64 (.slot 18))⟩,
    ⟨some 9, none, .box .leaf (.const (.int .u64 0))⟩,
    ⟨none, none, .store .leaf (.slot 9) (.slot 19)⟩]
abbrev slices_breakPatternsCmpFunc_stamp_Time_r3 : List LOper := [
    ⟨some 20, none, .val (.move (.slot 8))⟩,
    ⟨some 21, none, .call 69 [(.slot 20)]⟩,
    ⟨some 10, none, .val (.move (.slot 21))⟩]
abbrev slices_breakPatternsCmpFunc_stamp_Time_r4 : List LOper := [
    ⟨some 22, none, .val (.move (.slot 1))⟩,
    ⟨some 23, none, .val (.move (.slot 8))⟩,
    ⟨some 24, none, .val (.bin .quo (.slot 23) (.const (.int .i64 4)))⟩,
    ⟨some 25, none, .val (.bin .mul (.slot 24) (.const (.int .i64 2)))⟩,
    ⟨some 26, none, .val (.bin .add (.slot 22) (.slot 25))⟩,
    ⟨some 27, none, .val (.bin .sub (.slot 26) (.const (.int .i64 1)))⟩,
    ⟨some 11, none, .val (.move (.slot 27))⟩]
abbrev slices_breakPatternsCmpFunc_stamp_Time_r5 : List LOper := [
    ⟨some 28, none, .val (.move (.slot 11))⟩,
    ⟨some 29, none, .val (.move (.slot 1))⟩,
    ⟨some 30, none, .val (.move (.slot 8))⟩,
    ⟨some 31, none, .val (.bin .quo (.slot 30) (.const (.int .i64 4)))⟩,
    ⟨some 32, none, .val (.bin .mul (.slot 31) (.const (.int .i64 2)))⟩,
    ⟨some 33, none, .val (.bin .add (.slot 29) (.slot 32))⟩,
    ⟨some 34, none, .val (.bin .add (.slot 33) (.const (.int .i64 1)))⟩,
    ⟨some 35, none, .val (.bin .leq (.slot 28) (.slot 34))⟩]
abbrev slices_breakPatternsCmpFunc_stamp_Time_r6 : List LOper := [
    ⟨some 38, none, .call 70 [(.slot 9)]⟩,
    ⟨some 39, none, .val (.move (.slot 10))⟩,
    ⟨some 40, none, .val (.bin .sub (.slot 39) (.const (.int .u64 1)))⟩,
    ⟨some 41, none, .val (.bin .and (.slot 38) (.slot 40))⟩,
    ⟨some 42, none, .val (.conv .i64 (.slot 41))⟩,
    ⟨some 12, none, .val (.move (.slot 42))⟩]
abbrev slices_breakPatternsCmpFunc_stamp_Time_r7 : List LOper := [
    ⟨some 43, none, .val (.move (.slot 12))⟩,
    ⟨some 44, none, .val (.move (.slot 8))⟩,
    ⟨some 45, none, .val (.bin .geq (.slot 43) (.slot 44))⟩]
abbrev slices_breakPatternsCmpFunc_stamp_Time_r8 : List LOper := [
    ⟨some 46, none, .val (.move (.slot 12))⟩,
    ⟨some 47, none, .val (.move (.slot 8))⟩,
    ⟨some 48, none, .val (.bin .sub (.slot 46) (.slot 47))⟩,
    ⟨some 12, none, .val (.move (.slot 48))⟩]
abbrev slices_breakPatternsCmpFunc_stamp_Time_r9 : List (LOper × List Nat) := [
    (⟨some 49, none, .val (.move (.slot 0))⟩, []),
    (⟨some 50, none, .val (.move (.slot 11))⟩, []),
    (⟨some 51, none, .val (.move (.slot 0))⟩, []),
    (⟨some 52, none, .val (.move (.slot 1))⟩, []),
    (⟨some 53, none, .val (.move (.slot 12))⟩, []),
    (⟨some 54, none, .val (.bin .add (.slot 52) (.slot 53))⟩, [3, 4]),
    (⟨some 55, none, .val (.move (.slot 0))⟩, []),
    (⟨some 56, none, .val (.move (.slot 1))⟩, []),
    (⟨some 57, none, .val (.move (.slot 12))⟩, []),
    (⟨some 58, none, .val (.bin .add (.slot 56) (.slot 57))⟩, [7, 8]),
    (⟨some 59, none, .val (.idxA (.agg 2) (.slot 55) (.slot 58))⟩, [6, 9]),
    (⟨some 60, none, .val (.load (.agg 2) (.slot 59))⟩, [10]),
    (⟨some 61, none, .val (.move (.slot 0))⟩, []),
    (⟨some 62, none, .val (.move (.slot 11))⟩, []),
    (⟨some 63, none, .val (.idxA (.agg 2) (.slot 61) (.slot 62))⟩, [12, 13]),
    (⟨some 64, none, .val (.load (.agg 2) (.slot 63))⟩, [14]),
    (⟨some 65, none, .val (.idxA (.agg 2) (.slot 49) (.slot 50))⟩, [0, 1, 0, 1, 6, 7, 8, 9, 10, 11, 15]),
    (⟨none, none, .store (.agg 2) (.slot 65) (.slot 60)⟩, [16, 11, 0, 1, 6, 7, 8, 9, 10, 11, 15]),
    (⟨some 66, none, .val (.idxA (.agg 2) (.slot 51) (.slot 54))⟩, [2, 5, 0, 1, 2, 3, 4, 5, 6, 7, 8, 9, 10, 11, 12, 13, 14, 15, 16, 17]),
    (⟨none, none, .store (.agg 2) (.slot 66) (.slot 64)⟩, [18, 15, 17, 0, 1, 2, 3, 4, 5, 6, 7, 8, 9, 10, 11, 12, 13, 14, 15, 16, 17])]
abbrev slices_breakPatternsCmpFunc_stamp_Time_r9t : List LOper := []
abbrev slices_breakPatternsCmpFunc_stamp_Time_r10 : List LOper := [
    ⟨some 36, none, .val (.move (.slot 11))⟩,
    ⟨some 37, none, .val (.bin .add (.slot 36) (.const (.int .i64 1)))⟩,
    ⟨some 11, none, .val (.move (.slot 37))⟩]
abbrev slices_breakPatternsCmpFunc_stamp_Time_l0 : LCode := (.seq (.seq (.ops slices_breakPatternsCmpFunc_stamp_Time_r5) (.cond (.slot 35) .skip (.exit 0))) (.seq (.block 1 (.seq (.ops slices_breakPatternsCmpFunc_stamp_Time_r6) (.seq (.seq (.ops slices_breakPatternsCmpFunc_stamp_Time_r7) (.cond (.slot 45) (.ops slices_breakPatternsCmpFunc_stamp_Time_r8) .skip)) (.draw 20 slices_breakPatternsCmpFunc_stamp_Time_r9 slices_breakPatternsCmpFunc_stamp_Time_r9t)))) (.ops slices_breakPatternsCmpFunc_stamp_Time_r10)))
def slices_breakPatternsCmpFunc_stamp_Time : LFn := ⟨(.seq (.ops slices_breakPatternsCmpFunc_stamp_Time_r0) (.seq (.ops slices_breakPatternsCmpFunc_stamp_Time_r1) (.cond (.slot 17) (.seq (.ops slices_breakPatternsCmpFunc_stamp_Time_r2) (.seq (.ops slices_breakPatternsCmpFunc_stamp_Time_r3) (.seq (.ops slices_breakPatternsCmpFunc_stamp_Time_r4) (.block 0 (.loop slices_breakPatternsCmpFunc_stamp_Time_l0))))) .skip))), 67, []⟩
theorem slices_breakPatternsCmpFunc_stamp_Time_low : lowerFn Try.prog 60 = some slices_breakPatternsCmpFunc_stamp_Time := by kernel_rfl

abbrev slices_choosePivotCmpFunc_stamp_Time_r0 : List LOper := [
    ⟨some 8, none, .val (.move (.const (.int .i64 0)))⟩,
    ⟨some 9, none, .val (.move (.const (.int .i64 0)))⟩]
abbrev slices_choosePivotCmpFunc_stamp_Time_r1 : List LOper := [
    ⟨some 15, none, .val (.move (.slot 2))⟩,
    ⟨some 16, none, .val (.move (.slot 1))⟩,
    ⟨some 17, none, .val (.bin .sub (.slot 15) (.slot 16))⟩,
    ⟨some 10, none, .val (.move (.slot 17))⟩]
abbrev slices_choosePivotCmpFunc_stamp_Time_r2 : List LOper := [
    ⟨some 11, none, .box .leaf (.const (.int .i64 0))⟩]
abbrev slices_choosePivotCmpFunc_stamp_Time_r3 : List LOper := [
    ⟨some 18, none, .val (.move (.slot 1))⟩,
    ⟨some 19, none, .val (.move (.slot 10))⟩,
    ⟨some 20, none, .val (.bin .quo (.slot 19) (.const (.int .i64 4)))⟩,
    ⟨some 21, none, .val (.bin .mul (.slot 20) (.const (.int .i64 1)))⟩,
    ⟨some 22, none, .val (.bin .add (.slot 18) (.slot 21))⟩,
    ⟨some 12, none, .val (.move (.slot 22))⟩]
abbrev slices_choosePivotCmpFunc_stamp_Time_r4 : List LOper := [
    ⟨some 23, none, .val (.move (.slot 1))⟩,
    ⟨some 24, none, .val (.move (.slot 10))⟩,
    ⟨some 25, none, .val (.bin .quo (.slot 24) (.const (.int .i64 4)))⟩,
    ⟨some 26, none, .val (.bin .mul (.slot 25) (.const (.int .i64 2)))⟩,
    ⟨some 27, none, .val (.bin .add (.slot 23) (.slot 26))⟩,
    ⟨some 13, none, .val (.move (.slot 27))⟩]
abbrev slices_choosePivotCmpFunc_stamp_Time_r5 : List LOper := [
    ⟨some 28, none, .val (.move (.slot 1))⟩,
    ⟨some 29, none, .val (.move (.slot 10))⟩,
    ⟨some 30, none, .val (.bin .quo (.slot 29) (.const (.int .i64 4)))⟩,
    ⟨some 31, none, .val (.bin .mul (.slot 30) (.const (.int .i64 3)))⟩,
    ⟨some 32, none, .val (.bin .add (.slot 28) (.slot 31))⟩,
    ⟨some 14, none, .val (.move (.slot 32))⟩]
abbrev slices_choosePivotCmpFunc_stamp_Time_r6 : List LOper := [
    ⟨some 33, none, .val (.move (.slot 10))⟩,
    ⟨some 34, none, .val (.bin .geq (.slot 33) (.const (.int .i64 8)))⟩]
abbrev slices_choosePivotCmpFunc_stamp_Time_r7 : List LOper := [
    ⟨some 35, none, .val (.move (.slot 10))⟩,
    ⟨some 36, none, .val (.bin .geq (.slot 35) (.const (.int .i64 50)))⟩]
abbrev slices_choosePivotCmpFunc_stamp_Time_r8 : List LOper := [
    ⟨some 37, none, .val (.move (.slot 0))⟩,
    ⟨some 38, none, .val (.move (.slot 12))⟩,
    ⟨some 39, none, .val (.move (.slot 3))⟩,
    ⟨some 40, none, .call 71 [(.slot 37), (.slot 38), (.slot 11), (.slot 39)]⟩,
    ⟨some 12, none, .val (.move (.slot 40))⟩]
abbrev slices_choosePivotCmpFunc_stamp_Time_r9 : List LOper := [
    ⟨some 41, none, .val (.move (.slot 0))⟩,
    ⟨some 42, none, .val (.move (.slot 13))⟩,
    ⟨some 43, none, .val (.move (.slot 3))⟩,
    ⟨some 44, none, .call 71 [(.slot 41), (.slot 42), (.slot 11), (.slot 43)]⟩,
    ⟨some 13, none, .val (.move (.slot 44))⟩]
abbrev slices_choosePivotCmpFunc_stamp_Time_r10 : List LOper := [
    ⟨some 45, none, .val (.move (.slot 0))⟩,
    ⟨some 46, none, .val (.move (.slot 14))⟩,
    ⟨some 47, none, .val (.move (.slot 3))⟩,
    ⟨some 48, none, .call 71 [(.slot 45), (.slot 46), (.slot 11), (.slot 47)]⟩,
    ⟨some 14, none, .val (.move (.slot 48))⟩]
abbrev slices_choosePivotCmpFunc_stamp_Time_r11 : List LOper := [
    ⟨some 49, none, .val (.move (.slot 0))⟩,
    ⟨some 50, none, .val (.move (.slot 12))⟩,
    ⟨some 51, none, .val (.move (.slot 13))⟩,
    ⟨some 52, none, .val (.move (.slot 14))⟩,
    ⟨some 53, none, .val (.move (.slot 3))⟩,
    ⟨some 54, none, .call 72 [(.slot 49), (.slot 50), (.slot 51), (.slot 52), (.slot 11), (.slot 53)]⟩,
    ⟨some 13, none, .val (.move (.slot 54))⟩]
abbrev slices_choosePivotCmpFunc_stamp_Time_r12 : List LOper := [
    ⟨some 55, none, .val (.load .leaf (.slot 11))⟩]
abbrev slices_choosePivotCmpFunc_stamp_Time_r13 : List LOper := [
    ⟨some 58, none, .val (.bin .eql (.slot 55) (.const (.int .i64 0)))⟩,
    ⟨some 57, none, .val (.move (.slot 58))⟩]
abbrev slices_choosePivotCmpFunc_stamp_Time_r14 : List LOper := [
    ⟨some 59, none, .val (.move (.slot 13))⟩,
    ⟨some 8, none, .val (.move (.slot 59))⟩,
    ⟨some 9, none, .val (.move (.const (.int .i64 1)))⟩]
abbrev slices_choosePivotCmpFunc_stamp_Time_r15 : List LOper := [
    ⟨some 61, none, .val (.bin .eql (.slot 55) (.const (.int .i64 12)))⟩,
    ⟨some 60, none, .val (.move (.slot 61))⟩]
abbrev slices_choosePivotCmpFunc_stamp_Time_r16 : List LOper := [
    ⟨some 62, none, .val (.move (.slot 13))⟩,
    ⟨some 8, none, .val (.move (.slot 62))⟩,
    ⟨some 9, none, .val (.move (.const (.int .i64 2)))⟩]
abbrev slices_choosePivotCmpFunc_stamp_Time_r17 : List LOper := [
    ⟨some 56, none, .val (.move (.slot 13))⟩,
    ⟨some 8, none, .val (.move (.slot 56))⟩,
    ⟨some 9, none, .val (.move (.const (.int .i64 0)))⟩]
def slices_choosePivotCmpFunc_stamp_Time : LFn := ⟨(.seq (.ops slices_choosePivotCmpFunc_stamp_Time_r0) (.seq (.ops slices_choosePivotCmpFunc_stamp_Time_r1) (.seq (.ops slices_choosePivotCmpFunc_stamp_Time_r2) (.seq (.ops slices_choosePivotCmpFunc_stamp_Time_r3) (.seq (.ops slices_choosePivotCmpFunc_stamp_Time_r4) (.seq (.ops slices_choosePivotCmpFunc_stamp_Time_r5) (.seq (.seq (.ops slices_choosePivotCmpFunc_stamp_Time_r6) (.cond (.slot 34) (.seq (.seq (.ops slices_choosePivotCmpFunc_stamp_Time_r7) (.cond (.slot 36) (.seq (.ops slices_choosePivotCmpFunc_stamp_Time_r8) (.seq (.ops slices_choosePivotCmpFunc_stamp_Time_r9) (.ops slices_choosePivotCmpFunc_stamp_Time_r10))) .skip)) (.ops slices_choosePivotCmpFunc_stamp_Time_r11)) .skip)) (.seq (.ops slices_choosePivotCmpFunc_stamp_Time_r12) (.block 0 (.seq (.ops slices_choosePivotCmpFunc_stamp_Time_r13) (.cond (.slot 57) (.seq (.ops slices_choosePivotCmpFunc_stamp_Time_r14) .ret) (.seq (.ops slices_choosePivotCmpFunc_stamp_Time_r15) (.cond (.slot 60) (.seq (.ops slices_choosePivotCmpFunc_stamp_Time_r16) .ret) (.seq (.ops slices_choosePivotCmpFunc_stamp_Time_r17) .ret)))))))))))))), 63, [.slot 8, .slot 9]⟩
theorem slices_choosePivotCmpFunc_stamp_Time_low : lowerFn Try.prog 61 = some slices_choosePivotCmpFunc_stamp_Time := by kernel_rfl

abbrev slices_reverseRangeCmpFunc_stamp_Time_r0 : List LOper := [
    ⟨some 10, none, .val (.move (.slot 1))⟩,
    ⟨some 8, none, .val (.move (.slot 10))⟩]
abbrev slices_reverseRangeCmpFunc_stamp_Time_r1 : List LOper := [
    ⟨some 11, none, .val (.move (.slot 2))⟩,
    ⟨some 12, none, .val (.bin .sub (.slot 11) (.const (.int .i64 1)))⟩,
    ⟨some 9, none, .val (.move (.slot 12))⟩]
abbrev slices_reverseRangeCmpFunc_stamp_Time_r2 : List LOper := [
    ⟨some 13, none, .val (.move (.slot 8))⟩,
    ⟨some 14, none, .val (.move (.slot 9))⟩,
    ⟨some 15, none, .val (.bin .lss (.slot 13) (.slot 14))⟩]
abbrev slices_reverseRangeCmpFunc_stamp_Time_r3 : List (LOper × List Nat) := [
    (⟨some 16, none, .val (.move (.slot 0))⟩, []),
    (⟨some 17, none, .val (.move (.slot 8))⟩, []),
    (⟨some 18, none, .val (.move (.slot 0))⟩, []),
    (⟨some 19, none, .val (.move (.slot 9))⟩, []),
    (⟨some 20, none, .val (.move (.slot 0))⟩, []),
    (⟨some 21, none, .val (.move (.slot 9))⟩, []),
    (⟨some 22, none, .val (.idxA (.agg 2) (.slot 20) (.slot 21))⟩, [4, 5]),
    (⟨some 23, none, .val (.load (.agg 2) (.slot 22))⟩, [6]),
    (⟨some 24, none, .val (.move (.slot 0))⟩, []),
    (⟨some 25, none, .val (.move (.slot 8))⟩, []),
    (⟨some 26, none, .val (.idxA (.agg 2) (.slot 24) (.slot 25))⟩, [8, 9]),
    (⟨some 27, none, .val (.load (.agg 2) (.slot 26))⟩, [10]),
    (⟨some 28, none, .val (.idxA (.agg 2) (.slot 16) (.slot 17))⟩, [0, 1, 0, 1, 4, 5, 6, 7, 11]),
    (⟨none, none, .store (.agg 2) (.slot 28) (.slot 23)⟩, [12, 7, 0, 1, 4, 5, 6, 7, 11]),
    (⟨some 29, none, .val (.idxA (.agg 2) (.slot 18) (.slot 19))⟩, [2, 3, 0, 1, 2, 3, 4, 5, 6, 7, 8, 9, 10, 11, 12, 13]),
    (⟨none, none, .store (.agg 2) (.slot 29) (.slot 27)⟩, [14, 11, 13, 0, 1, 2, 3, 4, 5, 6, 7, 8, 9, 10, 11, 12, 13])]
abbrev slices_reverseRangeCmpFunc_stamp_Time_r3t : List LOper := []
abbrev slices_reverseRangeCmpFunc_stamp_Time_r4 : List LOper := [
    ⟨some 30, none, .val (.move (.slot 8))⟩,
    ⟨some 31, none, .val (.bin .add (.slot 30) (.const (.int .i64 1)))⟩,
    ⟨some 8, none, .val (.move (.slot 31))⟩]
abbrev slices_reverseRangeCmpFunc_stamp_Time_r5 : List LOper := [
    ⟨some 32, none, .val (.move (.slot 9))⟩,
    ⟨some 33, none, .val (.bin .sub (.slot 32) (.const (.int .i64 1)))⟩,
    ⟨some 9, none, .val (.move (.slot 33))⟩]
abbrev slices_reverseRangeCmpFunc_stamp_Time_l0 : LCode := (.seq (.seq (.ops slices_reverseRangeCmpFunc_stamp_Time_r2) (.cond (.slot 15) .skip (.exit 0))) (.block 1 (.seq (.draw 16 slices_reverseRangeCmpFunc_stamp_Time_r3 slices_reverseRangeCmpFunc_stamp_Time_r3t) (.seq (.ops slices_reverseRangeCmpFunc_stamp_Time_r4) (.ops slices_reverseRangeCmpFunc_stamp_Time_r5)))))
def slices_reverseRangeCmpFunc_stamp_Time : LFn := ⟨(.seq (.ops slices_reverseRangeCmpFunc_stamp_Time_r0) (.seq (.ops slices_reverseRangeCmpFunc_stamp_Time_r1) (.block 0 (.loop slices_reverseRangeCmpFunc_stamp_Time_l0)))), 34, []⟩
theorem slices_reverseRangeCmpFunc_stamp_Time_low : lowerFn Try.prog 62 = some slices_reverseRangeCmpFunc_stamp_Time := by kernel_rfl

abbrev slices_partialInsertionSortCmpFunc_stamp_Time_r0 : List LOper := [
    ⟨some 8, none, .val (.move (.const (.bool false)))⟩]
abbrev slices_partialInsertionSortCmpFunc_stamp_Time_r1 : List LOper := [
    ⟨some 13, none, .val (.move (.slot 1))⟩,
    ⟨some 14, none, .val (.bin .add (.slot 13) (.const (.int .i64 1)))⟩,
    ⟨some 9, none, .val (.move (.slot 14))⟩]
abbrev slices_partialInsertionSortCmpFunc_stamp_Time_r2 : List LOper := [
    ⟨some 10, none, .val (.move (.const (.int .i64 0)))⟩]
abbrev slices_partialInsertionSortCmpFunc_stamp_Time_r3 : List LOper := [
    ⟨some 15, none, .val (.move (.slot 10))⟩,
    ⟨some 16, none, .val (.bin .lss (.slot 15) (.const (.int .i64 5)))⟩]
abbrev slices_partialInsertionSortCmpFunc_stamp_Time_r4 : List (LOper × List Nat) := [
    (⟨some 19, none, .val (.move (.slot 9))⟩, []),
    (⟨some 20, none, .val (.move (.slot 2))⟩, []),
    (⟨some 21, none, .val (.bin .lss (.slot 19) (.slot 20))⟩, [0, 1]),
    (⟨some 22, none, .val (.move (.slot 21))⟩, [2]),
    (⟨some 23, some (22, true), .val (.move (.slot 3))⟩, [3]),
    (⟨some 24, some (22, true), .val (.move (.slot 0))⟩, [3]),
    (⟨some 25, some (22, true), .val (.move (.slot 9))⟩, [3]),
    (⟨some 26, some (22, true), .val (.idxA (.agg 2) (.slot 24) (.slot 25))⟩, [5, 6, 3]),
    (⟨some 27, some (22, true), .val (.load (.agg 2) (.slot 26))⟩, [7, 3]),
    (⟨some 28, some (22, true), .val (.move (.slot 0))⟩, [3]),
    (⟨some 29, some (22, true), .val (.move (.slot 9))⟩, [3]),
    (⟨some 30, some (22, true), .val (.bin .sub (.slot 29) (.const (.int .i64 1)))⟩, [10, 3]),
    (⟨some 31, some (22, true), .val (.idxA (.agg 2) (.slot 28) (.slot 30))⟩, [9, 11, 3]),
    (⟨some 32, some (22, true), .val (.load (.agg 2) (.slot 31))⟩, [12, 3]),
    (⟨some 33, some (22, true), .callv (.slot 23) [(.slot 27), (.slot 32)]⟩, [4, 8, 13, 3, 3]),
    (⟨some 34, some (22, true), .val (.bin .lss (.slot 33) (.const (.int .i64 0)))⟩, [14, 3]),
    (⟨some 35, some (22, true), .val (.not (.slot 34))⟩, [15, 3]),
    (⟨some 36, none, .val (.pick (.slot 22) (.slot 35) (.const (.bool false)))⟩, [3, 16])]
abbrev slices_partialInsertionSortCmpFunc_stamp_Time_r4t : List LOper := []
abbrev slices_partialInsertionSortCmpFunc_stamp_Time_r5 : List LOper := [
    ⟨some 37, none, .val (.move (.slot 9))⟩,
    ⟨some 38, none, .val (.bin .add (.slot 37) (.const (.int .i64 1)))⟩,
    ⟨some 9, none, .val (.move (.slot 38))⟩]
abbrev slices_partialInsertionSortCmpFunc_stamp_Time_l0 : LCode := (.seq (.seq (.draw 18 slices_partialInsertionSortCmpFunc_stamp_Time_r4 slices_partialInsertionSortCmpFunc_stamp_Time_r4t) (.cond (.slot 36) .skip (.exit 2))) (.block 3 (.ops slices_partialInsertionSortCmpFunc_stamp_Time_r5)))
abbrev slices_partialInsertionSortCmpFunc_stamp_Time_r6 : List LOper := [
    ⟨some 39, none, .val (.move (.slot 9))⟩,
    ⟨some 40, none, .val (.move (.slot 2))⟩,
    ⟨some 41, none, .val (.bin .eql (.slot 39) (.slot 40))⟩]
abbrev slices_partialInsertionSortCmpFunc_stamp_Time_r7 : List LOper := [
    ⟨some 8, none, .val (.move (.const (.bool true)))⟩]
abbrev slices_partialInsertionSortCmpFunc_stamp_Time_r8 : List LOper := [
    ⟨some 42, none, .val (.move (.slot 2))⟩,
    ⟨some 43, none, .val (.move (.slot 1))⟩,
    ⟨some 44, none, .val (.bin .sub (.slot 42) (.slot 43))⟩,
    ⟨some 45, none, .val (.bin .lss (.slot 44) (.const (.int .i64 50)))⟩]
abbrev slices_partialInsertionSortCmpFunc_stamp_Time_r9 : List LOper := [
    ⟨some 8, none, .val (.move (.const (.bool false)))⟩]
abbrev slices_partialInsertionSortCmpFunc_stamp_Time_r10 : List (LOper × List Nat) := [
    (⟨some 46, none, .val (.move (.slot 0))⟩, []),
    (⟨some 47, none, .val (.move (.slot 9))⟩, []),
    (⟨some 48, none, .val (.move (.slot 0))⟩, []),
    (⟨some 49, none, .val (.move (.slot 9))⟩, []),
    (⟨some 50, none, .val (.bin .sub (.slot 49) (.const (.int .i64 1)))⟩, [3]),
    (⟨some 51, none, .val (.move (.slot 0))⟩, []),
    (⟨some 52, none, .val (.move (.slot 9))⟩, []),
    (⟨some 53, none, .val (.bin .sub (.slot 52) (.const (.int .i64 1)))⟩, [6]),
    (⟨some 54, none, .val (.idxA (.agg 2) (.slot 51) (.slot 53))⟩, [5, 7]),
    (⟨some 55, none, .val (.load (.agg 2) (.slot 54))⟩, [8]),
    (⟨some 56, none, .val (.move (.slot 0))⟩, []),
    (⟨some 57, none, .val (.move (.slot 9))⟩, []),
    (⟨some 58, none, .val (.idxA (.agg 2) (.slot 56) (.slot 57))⟩, [10, 11]),
    (⟨some 59, none, .val (.load (.agg 2) (.slot 58))⟩, [12]),
    (⟨some 60, none, .val (.idxA (.agg 2) (.slot 46) (.slot 47))⟩, [0, 1, 0, 1, 5, 6, 7, 8, 9, 13]),
    (⟨none, none, .store (.agg 2) (.slot 60) (.slot 55)⟩, [14, 9, 0, 1, 5, 6, 7, 8, 9, 13]),
    (⟨some 61, none, .val (.idxA (.agg 2) (.slot 48) (.slot 50))⟩, [2, 4, 0, 1, 2, 3, 4, 5, 6, 7, 8, 9, 10, 11, 12, 13, 14, 15]),
    (⟨none, none, .store (.agg 2) (.slot 61) (.slot 59)⟩, [16, 13, 15, 0, 1, 2, 3, 4, 5, 6, 7, 8, 9, 10, 11, 12, 13, 14, 15])]
abbrev slices_partialInsertionSortCmpFunc_stamp_Time_r10t : List LOper := []
abbrev slices_partialInsertionSortCmpFunc_stamp_Time_r11 : List LOper := [
    ⟨some 62, none, .val (.move (.slot 9))⟩,
    ⟨some 63, none, .val (.move (.slot 1))⟩,
    ⟨some 64, none, .val (.bin .sub (.slot 62) (.slot 63))⟩,
    ⟨some 65, none, .val (.bin .geq (.slot 64) (.const (.int .i64 2)))⟩]
abbrev slices_partialInsertionSortCmpFunc_stamp_Time_r12 : List LOper := [
    ⟨some 66, none, .val (.move (.slot 9))⟩,
    ⟨some 67, none, .val (.bin .sub (.slot 66) (.const (.int .i64 1)))⟩,
    ⟨some 11, none, .val (.move (.slot 67))⟩]
abbrev slices_partialInsertionSortCmpFunc_stamp_Time_r13 : List LOper := [
    ⟨some 68, none, .val (.move (.slot 11))⟩,
    ⟨some 69, none, .val (.bin .geq (.slot 68) (.const (.int .i64 1)))⟩]
abbrev slices_partialInsertionSortCmpFunc_stamp_Time_r14 : List (LOper × List Nat) := [
    (⟨some 72, none, .val (.move (.slot 3))⟩, []),
    (⟨some 73, none, .val (.move (.slot 0))⟩, []),
    (⟨some 74, none, .val (.move (.slot 11))⟩, []),
    (⟨some 75, none, .val (.idxA (.agg 2) (.slot 73) (.slot 74))⟩, [1, 2]),
    (⟨some 76, none, .val (.load (.agg 2) (.slot 75))⟩, [3]),
    (⟨some 77, none, .val (.move (.slot 0))⟩, []),
    (⟨some 78, none, .val (.move (.slot 11))⟩, []),
    (⟨some 79, none, .val (.bin .sub (.slot 78) (.const (.int .i64 1)))⟩, [6]),
    (⟨some 80, none, .val (.idxA (.agg 2) (.slot 77) (.slot 79))⟩, [5, 7]),
    (⟨some 81, none, .val (.load (.agg 2) (.slot 80))⟩, [8]),
    (⟨some 82, none, .callv (.slot 72) [(.slot 76), (.slot 81)]⟩, [0, 4, 9]),
    (⟨some 83, none, .val (.bin .lss (.slot 82) (.const (.int .i64 0)))⟩, [10]),
    (⟨some 84, none, .val (.not (.slot 83))⟩, [11])]
abbrev slices_partialInsertionSortCmpFunc_stamp_Time_r14t : List LOper := []
abbrev slices_partialInsertionSortCmpFunc_stamp_Time_r15 : List (LOper × List Nat) := [
    (⟨some 85, none, .val (.move (.slot 0))⟩, []),
    (⟨some 86, none, .val (.move (.slot 11))⟩, []),
    (⟨some 87, none, .val (.move (.slot 0))⟩, []),
    (⟨some 88, none, .val (.move (.slot 11))⟩, []),
    (⟨some 89, none, .val (.bin .sub (.slot 88) (.const (.int .i64 1)))⟩, [3]),
    (⟨some 90, none, .val (.move (.slot 0))⟩, []),
    (⟨some 91, none, .val (.move (.slot 11))⟩, []),
    (⟨some 92, none, .val (.bin .sub (.slot 91) (.const (.int .i64 1)))⟩, [6]),
    (⟨some 93, none, .val (.idxA (.agg 2) (.slot 90) (.slot 92))⟩, [5, 7]),
    (⟨some 94, none, .val (.load (.agg 2) (.slot 93))⟩, [8]),
    (⟨some 95, none, .val (.move (.slot 0))⟩, []),
    (⟨some 96, none, .val (.move (.slot 11))⟩, []),
    (⟨some 97, none, .val (.idxA (.agg 2) (.slot 95) (.slot 96))⟩, [10, 11]),
    (⟨some 98, none, .val (.load (.agg 2) (.slot 97))⟩, [12]),
    (⟨some 99, none, .val (.idxA (.agg 2) (.slot 85) (.slot 86))⟩, [0, 1, 0, 1, 5, 6, 7, 8, 9, 13]),
    (⟨none, none, .store (.agg 2) (.slot 99) (.slot 94)⟩, [14, 9, 0, 1, 5, 6, 7, 8, 9, 13]),
    (⟨some 100, none, .val (.idxA (.agg 2) (.slot 87) (.slot 89))⟩, [2, 4, 0, 1, 2, 3, 4, 5, 6, 7, 8, 9, 10, 11, 12, 13, 14, 15]),
    (⟨none, none, .store (.agg 2) (.slot 100) (.slot 98)⟩, [16, 13, 15, 0, 1, 2, 3, 4, 5, 6, 7, 8, 9, 10, 11, 12, 13, 14, 15])]
abbrev slices_partialInsertionSortCmpFunc_stamp_Time_r15t : List LOper := []
abbrev slices_partialInsertionSortCmpFunc_stamp_Time_r16 : List LOper := [
    ⟨some 70, none, .val (.move (.slot 11))⟩,
    ⟨some 71, none, .val (.bin .sub (.slot 70) (.const (.int .i64 1)))⟩,
    ⟨some 11, none, .val (.move (.slot 71))⟩]
abbrev slices_partialInsertionSortCmpFunc_stamp_Time_l1 : LCode := (.seq (.seq (.ops slices_partialInsertionSortCmpFunc_stamp_Time_r13) (.cond (.slot 69) .skip (.exit 4))) (.seq (.block 5 (.seq (.seq (.draw 13 slices_partialInsertionSortCmpFunc_stamp_Time_r14 slices_partialInsertionSortCmpFunc_stamp_Time_r14t) (.cond (.slot 84) (.exit 4) .skip)) (.draw 18 slices_partialInsertionSortCmpFunc_stamp_Time_r15 slices_partialInsertionSortCmpFunc_stamp_Time_r15t))) (.ops slices_partialInsertionSortCmpFunc_stamp_Time_r16)))
abbrev slices_partialInsertionSortCmpFunc_stamp_Time_r17 : List LOper := [
    ⟨some 101, none, .val (.move (.slot 2))⟩,
    ⟨some 102, none, .val (.move (.slot 9))⟩,
    ⟨some 103, none, .val (.bin .sub (.slot 101) (.slot 102))⟩,
    ⟨some 104, none, .val (.bin .geq (.slot 103) (.const (.int .i64 2)))⟩]
abbrev slices_partialInsertionSortCmpFunc_stamp_Time_r18 : List LOper := [
    ⟨some 105, none, .val (.move (.slot 9))⟩,
    ⟨some 106, none, .val (.bin .add (.slot 105) (.const (.int .i64 1)))⟩,
    ⟨some 12, none, .val (.move (.slot 106))⟩]
abbrev slices_partialInsertionSortCmpFunc_stamp_Time_r19 : List LOper := [
    ⟨some 107, none, .val (.move (.slot 12))⟩,
    ⟨some 108, none, .val (.move (.slot 2))⟩,
    ⟨some 109, none, .val (.bin .lss (.slot 107) (.slot 108))⟩]
abbrev slices_partialInsertionSortCmpFunc_stamp_Time_r20 : List (LOper × List Nat) := [
    (⟨some 112, none, .val (.move (.slot 3))⟩, []),
    (⟨some 113, none, .val (.move (.slot 0))⟩, []),
    (⟨some 114, none, .val (.move (.slot 12))⟩, []),
    (⟨some 115, none, .val (.idxA (.agg 2) (.slot 113) (.slot 114))⟩, [1, 2]),
    (⟨some 116, none, .val (.load (.agg 2) (.slot 115))⟩, [3]),
    (⟨some 117, none, .val (.move (.slot 0))⟩, []),
    (⟨some 118, none, .val (.move (.slot 12))⟩, []),
    (⟨some 119, none, .val (.bin .sub (.slot 118) (.const (.int .i64 1)))⟩, [6]),
    (⟨some 120, none, .val (.idxA (.agg 2) (.slot 117) (.slot 119))⟩, [5, 7]),
    (⟨some 121, none, .val (.load (.agg 2) (.slot 120))⟩, [8]),
    (⟨some 122, none, .callv (.slot 112) [(.slot 116), (.slot 121)]⟩, [0, 4, 9]),
    (⟨some 123, none, .val (.bin .lss (.slot 122) (.const (.int .i64 0)))⟩, [10]),
    (⟨some 124, none, .val (.not (.slot 123))⟩, [11])]
abbrev slices_partialInsertionSortCmpFunc_stamp_Time_r20t : List LOper := []
abbrev slices_partialInsertionSortCmpFunc_stamp_Time_r21 : List (LOper × List Nat) := [
    (⟨some 125, none, .val (.move (.slot 0))⟩, []),
    (⟨some 126, none, .val (.move (.slot 12))⟩, []),
    (⟨some 127, none, .val (.move (.slot 0))⟩, []),
    (⟨some 128, none, .val (.move (.slot 12))⟩, []),
    (⟨some 129, none, .val (.bin .sub (.slot 128) (.const (.int .i64 1)))⟩, [3]),
    (⟨some 130, none, .val (.move (.slot 0))⟩, []),
    (⟨some 131, none, .val (.move (.slot 12))⟩, []),
    (⟨some 132, none, .val (.bin .sub (.slot 131) (.const (.int .i64 1)))⟩, [6]),
    (⟨some 133, none, .val (.idxA (.agg 2) (.slot 130) (.slot 132))⟩, [5, 7]),
    (⟨some 134, none, .val (.load (.agg 2) (.slot 133))⟩, [8]),
    (⟨some 135, none, .val (.move (.slot 0))⟩, []),
    (⟨some 136, none, .val (.move (.slot 12))⟩, []),
    (⟨some 137, none, .val (.idxA (.agg 2) (.slot 135) (.slot 136))⟩, [10, 11]),
    (⟨some 138, none, .val (.load (.agg 2) (.slot 137))⟩, [12]),
    (⟨some 139, none, .val (.idxA (.agg 2) (.slot 125) (.slot 126))⟩, [0, 1, 0, 1, 5, 6, 7, 8, 9, 13]),
    (⟨none, none, .store (.agg 2) (.slot 139) (.slot 134)⟩, [14, 9, 0, 1, 5, 6, 7, 8, 9, 13]),
    (⟨some 140, none, .val (.idxA (.agg 2) (.slot 127) (.slot 129))⟩, [2, 4, 0, 1, 2, 3, 4, 5, 6, 7, 8, 9, 10, 11, 12, 13, 14, 15]),
    (⟨none, none, .store (.agg 2) (.slot 140) (.slot 138)⟩, [16, 13, 15, 0, 1, 2, 3, 4, 5, 6, 7, 8, 9, 10, 11, 12, 13, 14, 15])]
abbrev slices_partialInsertionSortCmpFunc_stamp_Time_r21t : List LOper := []
abbrev slices_partialInsertionSortCmpFunc_stamp_Time_r22 : List LOper := [
    ⟨some 110, none, .val (.move (.slot 12))⟩,
    ⟨some 111, none, .val (.bin .add (.slot 110) (.const (.int .i64 1)))⟩,
    ⟨some 12, none, .val (.move (.slot 111))⟩]
abbrev slices_partialInsertionSortCmpFunc_stamp_Time_l2 : LCode := (.seq (.seq (.ops slices_partialInsertionSortCmpFunc_stamp_Time_r19) (.cond (.slot 109) .skip (.exit 6))) (.seq (.block 7 (.seq (.seq (.draw 13 slices_partialInsertionSortCmpFunc_stamp_Time_r20 slices_partialInsertionSortCmpFunc_stamp_Time_r20t) (.cond (.slot 124) (.exit 6) .skip)) (.draw 18 slices_partialInsertionSortCmpFunc_stamp_Time_r21 slices_partialInsertionSortCmpFunc_stamp_Time_r21t))) (.ops slices_partialInsertionSortCmpFunc_stamp_Time_r22)))
abbrev slices_partialInsertionSortCmpFunc_stamp_Time_r23 : List LOper := [
    ⟨some 17, none, .val (.move (.slot 10))⟩,
    ⟨some 18, none, .val (.bin .add (.slot 17) (.const (.int .i64 1)))⟩,
    ⟨some 10, none, .val (.move (.slot 18))⟩]
abbrev slices_partialInsertionSortCmpFunc_stamp_Time_l3 : LCode := (.seq (.seq (.ops slices_partialInsertionSortCmpFunc_stamp_Time_r3) (.cond (.slot 16) .skip (.exit 0))) (.seq (.block 1 (.seq (.block 2 (.loop slices_partialInsertionSortCmpFunc_stamp_Time_l0)) (.seq (.seq (.ops slices_partialInsertionSortCmpFunc_stamp_Time_r6) (.cond (.slot 41) (.seq (.ops slices_partialInsertionSortCmpFunc_stamp_Time_r7) .ret) .skip)) (.seq (.seq (.ops slices_partialInsertionSortCmpFunc_stamp_Time_r8) (.cond (.slot 45) (.seq (.ops slices_partialInsertionSortCmpFunc_stamp_Time_r9) .ret) .skip)) (.seq (.draw 18 slices_partialInsertionSortCmpFunc_stamp_Time_r10 slices_partialInsertionSortCmpFunc_stamp_Time_r10t) (.seq (.seq (.ops slices_partialInsertionSortCmpFunc_stamp_Time_r11) (.cond (.slot 65) (.seq (.ops slices_partialInsertionSortCmpFunc_stamp_Time_r12) (.block 4 (.loop slices_partialInsertionSortCmpFunc_stamp_Time_l1))) .skip)) (.seq (.ops slices_partialInsertionSortCmpFunc_stamp_Time_r17) (.cond (.slot 104) (.seq (.ops slices_partialInsertionSortCmpFunc_stamp_Time_r18) (.block 6 (.loop slices_partialInsertionSortCmpFunc_stamp_Time_l2))) .skip)))))))) (.ops slices_partialInsertionSortCmpFunc_stamp_Time_r23)))
abbrev slices_partialInsertionSortCmpFunc_stamp_Time_r24 : List LOper := [
    ⟨some 8, none, .val (.move (.const (.bool false)))⟩]
def slices_partialInsertionSortCmpFunc_stamp_Time : LFn := ⟨(.seq (.ops slices_partialInsertionSortCmpFunc_stamp_Time_r0) (.seq (.ops slices_partialInsertionSortCmpFunc_stamp_Time_r1) (.seq (.seq (.ops slices_partialInsertionSortCmpFunc_stamp_Time_r2) (.block 0 (.loop slices_partialInsertionSortCmpFunc_stamp_Time_l3))) (.seq (.ops slices_partialInsertionSortCmpFunc_stamp_Time_r24) .ret)))), 141, [.slot 8]⟩
theorem slices_partialInsertionSortCmpFunc_stamp_Time_low : lowerFn Try.prog 63 = some slices_partialInsertionSortCmpFunc_stamp_Time := by kernel_rfl

abbrev slices_partitionEqualCmpFunc_stamp_Time_r0 : List LOper := [
    ⟨some 10, none, .val (.move (.const (.int .i64 0)))⟩]
abbrev slices_partitionEqualCmpFunc_stamp_Time_r1 : List (LOper × List Nat) := [
    (⟨some 13, none, .val (.move (.slot 0))⟩, []),
    (⟨some 14, none, .val (.move (.slot 1))⟩, []),
    (⟨some 15, none, .val (.move (.slot 0))⟩, []),
    (⟨some 16, none, .val (.move (.slot 3))⟩, []),
    (⟨some 17, none, .val (.move (.slot 0))⟩, []),
    (⟨some 18, none, .val (.move (.slot 3))⟩, []),
    (⟨some 19, none, .val (.idxA (.agg 2) (.slot 17) (.slot 18))⟩, [4, 5]),
    (⟨some 20, none, .val (.load (.agg 2) (.slot 19))⟩, [6]),
    (⟨some 21, none, .val (.move (.slot 0))⟩, []),
    (⟨some 22, none, .val (.move (.slot 1))⟩, []),
    (⟨some 23, none, .val (.idxA (.agg 2) (.slot 21) (.slot 22))⟩, [8, 9]),
    (⟨some 24, none, .val (.load (.agg 2) (.slot 23))⟩, [10]),
    (⟨some 25, none, .val (.idxA (.agg 2) (.slot 13) (.slot 14))⟩, [0, 1, 0, 1, 4, 5, 6, 7, 11]),
    (⟨none, none, .store (.agg 2) (.slot 25) (.slot 20)⟩, [12, 7, 0, 1, 4, 5, 6, 7, 11]),
    (⟨some 26, none, .val (.idxA (.agg 2) (.slot 15) (.slot 16))⟩, [2, 3, 0, 1, 2, 3, 4, 5, 6, 7, 8, 9, 10, 11, 12, 13]),
    (⟨none, none, .store (.agg 2) (.slot 26) (.slot 24)⟩, [14, 11, 13, 0, 1, 2, 3, 4, 5, 6, 7, 8, 9, 10, 11, 12, 13])]
abbrev slices_partitionEqualCmpFunc_stamp_Time_r1t : List LOper := []
abbrev slices_partitionEqualCmpFunc_stamp_Time_r2 : List LOper := [
    ⟨some 27, none, .val (.move (.slot 1))⟩,
    ⟨some 28, none, .val (.bin .add (.slot 27) (.const (.int .i64 1)))⟩,
    ⟨some 29, none, .val (.move (.slot 2))⟩,
    ⟨some 30, none, .val (.bin .sub (.slot 29) (.const (.int .i64 1)))⟩,
    ⟨some 11, none, .val (.move (.slot 28))⟩,
    ⟨some 12, none, .val (.move (.slot 30))⟩]
abbrev slices_partitionEqualCmpFunc_stamp_Time_r3 : List (LOper × List Nat) := [
    (⟨some 31, none, .val (.move (.slot 11))⟩, []),
    (⟨some 32, none, .val (.move (.slot 12))⟩, []),
    (⟨some 33, none, .val (.bin .leq (.slot 31) (.slot 32))⟩, [0, 1]),
    (⟨some 34, none, .val (.move (.slot 33))⟩, [2]),
    (⟨some 35, some (34, true), .val (.move (.slot 4))⟩, [3]),
    (⟨some 36, some (34, true), .val (.move (.slot 0))⟩, [3]),
    (⟨some 37, some (34, true), .val (.move (.slot 1))⟩, [3]),
    (⟨some 38, some (34, true), .val (.idxA (.agg 2) (.slot 36) (.slot 37))⟩, [5, 6, 3]),
    (⟨some 39, some (34, true), .val (.load (.agg 2) (.slot 38))⟩, [7, 3]),
    (⟨some 40, some (34, true), .val (.move (.slot 0))⟩, [3]),
    (⟨some 41, some (34, true), .val (.move (.slot 11))⟩, [3]),
    (⟨some 42, some (34, true), .val (.idxA (.agg 2) (.slot 40) (.slot 41))⟩, [9, 10, 3]),
    (⟨some 43, some (34, true), .val (.load (.agg 2) (.slot 42))⟩, [11, 3]),
    (⟨some 44, some (34, true), .callv (.slot 35) [(.slot 39), (.slot 43)]⟩, [4, 8, 12, 3, 3]),
    (⟨some 45, some (34, true), .val (.bin .lss (.slot 44) (.const (.int .i64 0)))⟩, [13, 3]),
    (⟨some 46, some (34, true), .val (.not (.slot 45))⟩, [14, 3]),
    (⟨some 47, none, .val (.pick (.slot 34) (.slot 46) (.const (.bool false)))⟩, [3, 15])]
abbrev slices_partitionEqualCmpFunc_stamp_Time_r3t : List LOper := []
abbrev slices_partitionEqualCmpFunc_stamp_Time_r4 : List LOper := [
    ⟨some 48, none, .val (.move (.slot 11))⟩,
    ⟨some 49, none, .val (.bin .add (.slot 48) (.const (.int .i64 1)))⟩,
    ⟨some 11, none, .val (.move (.slot 49))⟩]
abbrev slices_partitionEqualCmpFunc_stamp_Time_l0 : LCode := (.seq (.seq (.draw 17 slices_partitionEqualCmpFunc_stamp_Time_r3 slices_partitionEqualCmpFunc_stamp_Time_r3t) (.cond (.slot 47) .skip (.exit 2))) (.block 3 (.ops slices_partitionEqualCmpFunc_stamp_Time_r4)))
abbrev slices_partitionEqualCmpFunc_stamp_Time_r5 : List (LOper × List Nat) := [
    (⟨some 50, none, .val (.move (.slot 11))⟩, []),
    (⟨some 51, none, .val (.move (.slot 12))⟩, []),
    (⟨some 52, none, .val (.bin .leq (.slot 50) (.slot 51))⟩, [0, 1]),
    (⟨some 53, none, .val (.move (.slot 52))⟩, [2]),
    (⟨some 54, some (53, true), .val (.move (.slot 4))⟩, [3]),
    (⟨some 55, some (53, true), .val (.move (.slot 0))⟩, [3]),
    (⟨some 56, some (53, true), .val (.move (.slot 1))⟩, [3]),
    (⟨some 57, some (53, true), .val (.idxA (.agg 2) (.slot 55) (.slot 56))⟩, [5, 6, 3]),
    (⟨some 58, some (53, true), .val (.load (.agg 2) (.slot 57))⟩, [7, 3]),
    (⟨some 59, some (53, true), .val (.move (.slot 0))⟩, [3]),
    (⟨some 60, some (53, true), .val (.move (.slot 12))⟩, [3]),
    (⟨some 61, some (53, true), .val (.idxA (.agg 2) (.slot 59) (.slot 60))⟩, [9, 10, 3]),
    (⟨some 62, some (53, true), .val (.load (.agg 2) (.slot 61))⟩, [11, 3]),
    (⟨some 63, some (53, true), .callv (.slot 54) [(.slot 58), (.slot 62)]⟩, [4, 8, 12, 3, 3]),
    (⟨some 64, some (53, true), .val (.bin .lss (.slot 63) (.const (.int .i64 0)))⟩, [13, 3]),
    (⟨some 65, none, .val (.pick (.slot 53) (.slot 64) (.const (.bool false)))⟩, [3, 14])]
abbrev slices_partitionEqualCmpFunc_stamp_Time_r5t : List LOper := []
abbrev slices_partitionEqualCmpFunc_stamp_Time_r6 : List LOper := [
    ⟨some 66, none, .val (.move (.slot 12))⟩,
    ⟨some 67, none, .val (.bin .sub (.slot 66) (.const (.int .i64 1)))⟩,
    ⟨some 12, none, .val (.move (.slot 67))⟩]
abbrev slices_partitionEqualCmpFunc_stamp_Time_l1 : LCode := (.seq (.seq (.draw 16 slices_partitionEqualCmpFunc_stamp_Time_r5 slices_partitionEqualCmpFunc_stamp_Time_r5t) (.cond (.slot 65) .skip (.exit 4))) (.block 5 (.ops slices_partitionEqualCmpFunc_stamp_Time_r6)))
abbrev slices_partitionEqualCmpFunc_stamp_Time_r7 : List LOper := [
    ⟨some 68, none, .val (.move (.slot 11))⟩,
    ⟨some 69, none, .val (.move (.slot 12))⟩,
    ⟨some 70, none, .val (.bin .gtr (.slot 68) (.slot 69))⟩]
abbrev slices_partitionEqualCmpFunc_stamp_Time_r8 : List (LOper × List Nat) := [
    (⟨some 71, none, .val (.move (.slot 0))⟩, []),
    (⟨some 72, none, .val (.move (.slot 11))⟩, []),
    (⟨some 73, none, .val (.move (.slot 0))⟩, []),
    (⟨some 74, none, .val (.move (.slot 12))⟩, []),
    (⟨some 75, none, .val (.move (.slot 0))⟩, []),
    (⟨some 76, none, .val (.move (.slot 12))⟩, []),
    (⟨some 77, none, .val (.idxA (.agg 2) (.slot 75) (.slot 76))⟩, [4, 5]),
    (⟨some 78, none, .val (.load (.agg 2) (.slot 77))⟩, [6]),
    (⟨some 79, none, .val (.move (.slot 0))⟩, []),
    (⟨some 80, none, .val (.move (.slot 11))⟩, []),
    (⟨some 81, none, .val (.idxA (.agg 2) (.slot 79) (.slot 80))⟩, [8, 9]),
    (⟨some 82, none, .val (.load (.agg 2) (.slot 81))⟩, [10]),
    (⟨some 83, none, .val (.idxA (.agg 2) (.slot 71) (.slot 72))⟩, [0, 1, 0, 1, 4, 5, 6, 7, 11]),
    (⟨none, none, .store (.agg 2) (.slot 83) (.slot 78)⟩, [12, 7, 0, 1, 4, 5, 6, 7, 11]),
    (⟨some 84, none, .val (.idxA (.agg 2) (.slot 73) (.slot 74))⟩, [2, 3, 0, 1, 2, 3, 4, 5, 6, 7, 8, 9, 10, 11, 12, 13]),
    (⟨none, none, .store (.agg 2) (.slot 84) (.slot 82)⟩, [14, 11, 13, 0, 1, 2, 3, 4, 5, 6, 7, 8, 9, 10, 11, 12, 13])]
abbrev slices_partitionEqualCmpFunc_stamp_Time_r8t : List LOper := []
abbrev slices_partitionEqualCmpFunc_stamp_Time_r9 : List LOper := [
    ⟨some 85, none, .val (.move (.slot 11))⟩,
    ⟨some 86, none, .val (.bin .add (.slot 85) (.const (.int .i64 1)))⟩,
    ⟨some 11, none, .val (.move (.slot 86))⟩]
abbrev slices_partitionEqualCmpFunc_stamp_Time_r10 : List LOper := [
    ⟨some 87, none, .val (.move (.slot 12))⟩,
    ⟨some 88, none, .val (.bin .sub (.slot 87) (.const (.int .i64 1)))⟩,
    ⟨some 12, none, .val (.move (.slot 88))⟩]
abbrev slices_partitionEqualCmpFunc_stamp_Time_l2 : LCode := (.block 1 (.seq (.block 2 (.loop slices_partitionEqualCmpFunc_stamp_Time_l0)) (.seq (.block 4 (.loop slices_partitionEqualCmpFunc_stamp_Time_l1)) (.seq (.seq (.ops slices_partitionEqualCmpFunc_stamp_Time_r7) (.cond (.slot 70) (.exit 0) .skip)) (.seq (.draw 16 slices_partitionEqualCmpFunc_stamp_Time_r8 slices_partitionEqualCmpFunc_stamp_Time_r8t) (.seq (.ops slices_partitionEqualCmpFunc_stamp_Time_r9) (.ops slices_partitionEqualCmpFunc_stamp_Time_r10)))))))
abbrev slices_partitionEqualCmpFunc_stamp_Time_r11 : List LOper := [
    ⟨some 89, none, .val (.move (.slot 11))⟩,
    ⟨some 10, none, .val (.move (.slot 89))⟩]
def slices_partitionEqualCmpFunc_stamp_Time : LFn := ⟨(.seq (.ops slices_partitionEqualCmpFunc_stamp_Time_r0) (.seq (.draw 16 slices_partitionEqualCmpFunc_stamp_Time_r1 slices_partitionEqualCmpFunc_stamp_Time_r1t) (.seq (.ops slices_partitionEqualCmpFunc_stamp_Time_r2) (.seq (.block 0 (.loop slices_partitionEqualCmpFunc_stamp_Time_l2)) (.seq (.ops slices_partitionEqualCmpFunc_stamp_Time_r11) .ret))))), 90, [.slot 10]⟩
theorem slices_partitionEqualCmpFunc_stamp_Time_low : lowerFn Try.prog 64 = some slices_partitionEqualCmpFunc_stamp_Time := by kernel_rfl

abbrev slices_partitionCmpFunc_stamp_Time_r0 : List LOper := [
    ⟨some 10, none, .val (.move (.const (.int .i64 0)))⟩,
    ⟨some 11, none, .val (.move (.const (.bool false)))⟩]
abbrev slices_partitionCmpFunc_stamp_Time_r1 : List (LOper × List Nat) := [
    (⟨some 14, none, .val (.move (.slot 0))⟩, []),
    (⟨some 15, none, .val (.move (.slot 1))⟩, []),
    (⟨some 16, none, .val (.move (.slot 0))⟩, []),
    (⟨some 17, none, .val (.move (.slot 3))⟩, []),
    (⟨some 18, none, .val (.move (.slot 0))⟩, []),
    (⟨some 19, none, .val (.move (.slot 3))⟩, []),
    (⟨some 20, none, .val (.idxA (.agg 2) (.slot 18) (.slot 19))⟩, [4, 5]),
    (⟨some 21, none, .val (.load (.agg 2) (.slot 20))⟩, [6]),
    (⟨some 22, none, .val (.move (.slot 0))⟩, []),
    (⟨some 23, none, .val (.move (.slot 1))⟩, []),
    (⟨some 24, none, .val (.idxA (.agg 2) (.slot 22) (.slot 23))⟩, [8, 9]),
    (⟨some 25, none, .val (.load (.agg 2) (.slot 24))⟩, [10]),
    (⟨some 26, none, .val (.idxA (.agg 2) (.slot 14) (.slot 15))⟩, [0, 1, 0, 1, 4, 5, 6, 7, 11]),
    (⟨none, none, .store (.agg 2) (.slot 26) (.slot 21)⟩, [12, 7, 0, 1, 4, 5, 6, 7, 11]),
    (⟨some 27, none, .val (.idxA (.agg 2) (.slot 16) (.slot 17))⟩, [2, 3, 0, 1, 2, 3, 4, 5, 6, 7, 8, 9, 10, 11, 12, 13]),
    (⟨none, none, .store (.agg 2) (.slot 27) (.slot 25)⟩, [14, 11, 13, 0, 1, 2, 3, 4, 5, 6, 7, 8, 9, 10, 11, 12, 13])]
abbrev slices_partitionCmpFunc_stamp_Time_r1t : List LOper := []
abbrev slices_partitionCmpFunc_stamp_Time_r2 : List LOper := [
    ⟨some 28, none, .val (.move (.slot 1))⟩,
    ⟨some 29, none, .val (.bin .add (.slot 28) (.const (.int .i64 1)))⟩,
    ⟨some 30, none, .val (.move (.slot 2))⟩,
    ⟨some 31, none, .val (.bin .sub (.slot 30) (.const (.int .i64 1)))⟩,
    ⟨some 12, none, .val (.move (.slot 29))⟩,
    ⟨some 13, none, .val (.move (.slot 31))⟩]
abbrev slices_partitionCmpFunc_stamp_Time_r3 : List (LOper × List Nat) := [
    (⟨some 32, none, .val (.move (.slot 12))⟩, []),
    (⟨some 33, none, .val (.move (.slot 13))⟩, []),
    (⟨some 34, none, .val (.bin .leq (.slot 32) (.slot 33))⟩, [0, 1]),
    (⟨some 35, none, .val (.move (.slot 34))⟩, [2]),
    (⟨some 36, some (35, true), .val (.move (.slot 4))⟩, [3]),
    (⟨some 37, some (35, true), .val (.move (.slot 0))⟩, [3]),
    (⟨some 38, some (35, true), .val (.move (.slot 12))⟩, [3]),
    (⟨some 39, some (35, true), .val (.idxA (.agg 2) (.slot 37) (.slot 38))⟩, [5, 6, 3]),
    (⟨some 40, some (35, true), .val (.load (.agg 2) (.slot 39))⟩, [7, 3]),
    (⟨some 41, some (35, true), .val (.move (.slot 0))⟩, [3]),
    (⟨some 42, some (35, true), .val (.move (.slot 1))⟩, [3]),
    (⟨some 43, some (35, true), .val (.idxA (.agg 2) (.slot 41) (.slot 42))⟩, [9, 10, 3]),
    (⟨some 44, some (35, true), .val (.load (.agg 2) (.slot 43))⟩, [11, 3]),
    (⟨some 45, some (35, true), .callv (.slot 36) [(.slot 40), (.slot 44)]⟩, [4, 8, 12, 3, 3]),
    (⟨some 46, some (35, true), .val (.bin .lss (.slot 45) (.const (.int .i64 0)))⟩, [13, 3]),
    (⟨some 47, none, .val (.pick (.slot 35) (.slot 46) (.const (.bool false)))⟩, [3, 14])]
abbrev slices_partitionCmpFunc_stamp_Time_r3t : List LOper := []
abbrev slices_partitionCmpFunc_stamp_Time_r4 : List LOper := [
    ⟨some 48, none, .val (.move (.slot 12))⟩,
    ⟨some 49, none, .val (.bin .add (.slot 48) (.const (.int .i64 1)))⟩,
    ⟨some 12, none, .val (.move (.slot 49))⟩]
abbrev slices_partitionCmpFunc_stamp_Time_l0 : LCode := (.seq (.seq (.draw 16 slices_partitionCmpFunc_stamp_Time_r3 slices_partitionCmpFunc_stamp_Time_r3t) (.cond (.slot 47) .skip (.exit 0))) (.block 1 (.ops slices_partitionCmpFunc_stamp_Time_r4)))
abbrev slices_partitionCmpFunc_stamp_Time_r5 : List (LOper × List Nat) := [
    (⟨some 50, none, .val (.move (.slot 12))⟩, []),
    (⟨some 51, none, .val (.move (.slot 13))⟩, []),
    (⟨some 52, none, .val (.bin .leq (.slot 50) (.slot 51))⟩, [0, 1]),
    (⟨some 53, none, .val (.move (.slot 52))⟩, [2]),
    (⟨some 54, some (53, true), .val (.move (.slot 4))⟩, [3]),
    (⟨some 55, some (53, true), .val (.move (.slot 0))⟩, [3]),
    (⟨some 56, some (53, true), .val (.move (.slot 13))⟩, [3]),
    (⟨some 57, some (53, true), .val (.idxA (.agg 2) (.slot 55) (.slot 56))⟩, [5, 6, 3]),
    (⟨some 58, some (53, true), .val (.load (.agg 2) (.slot 57))⟩, [7, 3]),
    (⟨some 59, some (53, true), .val (.move (.slot 0))⟩, [3]),
    (⟨some 60, some (53, true), .val (.move (.slot 1))⟩, [3]),
    (⟨some 61, some (53, true), .val (.idxA (.agg 2) (.slot 59) (.slot 60))⟩, [9, 10, 3]),
    (⟨some 62, some (53, true), .val (.load (.agg 2) (.slot 61))⟩, [11, 3]),
    (⟨some 63, some (53, true), .callv (.slot 54) [(.slot 58), (.slot 62)]⟩, [4, 8, 12, 3, 3]),
    (⟨some 64, some (53, true), .val (.bin .lss (.slot 63) (.const (.int .i64 0)))⟩, [13, 3]),
    (⟨some 65, some (53, true), .val (.not (.slot 64))⟩, [14, 3]),
    (⟨some 66, none, .val (.pick (.slot 53) (.slot 65) (.const (.bool false)))⟩, [3, 15])]
abbrev slices_partitionCmpFunc_stamp_Time_r5t : List LOper := []
abbrev slices_partitionCmpFunc_stamp_Time_r6 : List LOper := [
    ⟨some 67, none, .val (.move (.slot 13))⟩,
    ⟨some 68, none, .val (.bin .sub (.slot 67) (.const (.int .i64 1)))⟩,
    ⟨some 13, none, .val (.move (.slot 68))⟩]
abbrev slices_partitionCmpFunc_stamp_Time_l1 : LCode := (.seq (.seq (.draw 17 slices_partitionCmpFunc_stamp_Time_r5 slices_partitionCmpFunc_stamp_Time_r5t) (.cond (.slot 66) .skip (.exit 2))) (.block 3 (.ops slices_partitionCmpFunc_stamp_Time_r6)))
abbrev slices_partitionCmpFunc_stamp_Time_r7 : List LOper := [
    ⟨some 69, none, .val (.move (.slot 12))⟩,
    ⟨some 70, none, .val (.move (.slot 13))⟩,
    ⟨some 71, none, .val (.bin .gtr (.slot 69) (.slot 70))⟩]
abbrev slices_partitionCmpFunc_stamp_Time_r8 : List (LOper × List Nat) := [
    (⟨some 72, none, .val (.move (.slot 0))⟩, []),
    (⟨some 73, none, .val (.move (.slot 13))⟩, []),
    (⟨some 74, none, .val (.move (.slot 0))⟩, []),
    (⟨some 75, none, .val (.move (.slot 1))⟩, []),
    (⟨some 76, none, .val (.move (.slot 0))⟩, []),
    (⟨some 77, none, .val (.move (.slot 1))⟩, []),
    (⟨some 78, none, .val (.idxA (.agg 2) (.slot 76) (.slot 77))⟩, [4, 5]),
    (⟨some 79, none, .val (.load (.agg 2) (.slot 78))⟩, [6]),
    (⟨some 80, none, .val (.move (.slot 0))⟩, []),
    (⟨some 81, none, .val (.move (.slot 13))⟩, []),
    (⟨some 82, none, .val (.idxA (.agg 2) (.slot 80) (.slot 81))⟩, [8, 9]),
    (⟨some 83, none, .val (.load (.agg 2) (.slot 82))⟩, [10]),
    (⟨some 84, none, .val (.idxA (.agg 2) (.slot 72) (.slot 73))⟩, [0, 1, 0, 1, 4, 5, 6, 7, 11]),
    (⟨none, none, .store (.agg 2) (.slot 84) (.slot 79)⟩, [12, 7, 0, 1, 4, 5, 6, 7, 11]),
    (⟨some 85, none, .val (.idxA (.agg 2) (.slot 74) (.slot 75))⟩, [2, 3, 0, 1, 2, 3, 4, 5, 6, 7, 8, 9, 10, 11, 12, 13]),
    (⟨none, none, .store (.agg 2) (.slot 85) (.slot 83)⟩, [14, 11, 13, 0, 1, 2, 3, 4, 5, 6, 7, 8, 9, 10, 11, 12, 13])]
abbrev slices_partitionCmpFunc_stamp_Time_r8t : List LOper := []
abbrev slices_partitionCmpFunc_stamp_Time_r9 : List LOper := [
    ⟨some 86, none, .val (.move (.slot 13))⟩,
    ⟨some 10, none, .val (.move (.slot 86))⟩,
    ⟨some 11, none, .val (.move (.const (.bool true)))⟩]
abbrev slices_partitionCmpFunc_stamp_Time_r10 : List (LOper × List Nat) := [
    (⟨some 87, none, .val (.move (.slot 0))⟩, []),
    (⟨some 88, none, .val (.move (.slot 12))⟩, []),
    (⟨some 89, none, .val (.move (.slot 0))⟩, []),
    (⟨some 90, none, .val (.move (.slot 13))⟩, []),
    (⟨some 91, none, .val (.move (.slot 0))⟩, []),
    (⟨some 92, none, .val (.move (.slot 13))⟩, []),
    (⟨some 93, none, .val (.idxA (.agg 2) (.slot 91) (.slot 92))⟩, [4, 5]),
    (⟨some 94, none, .val (.load (.agg 2) (.slot 93))⟩, [6]),
    (⟨some 95, none, .val (.move (.slot 0))⟩, []),
    (⟨some 96, none, .val (.move (.slot 12))⟩, []),
    (⟨some 97, none, .val (.idxA (.agg 2) (.slot 95) (.slot 96))⟩, [8, 9]),
    (⟨some 98, none, .val (.load (.agg 2) (.slot 97))⟩, [10]),
    (⟨some 99, none, .val (.idxA (.agg 2) (.slot 87) (.slot 88))⟩, [0, 1, 0, 1, 4, 5, 6, 7, 11]),
    (⟨none, none, .store (.agg 2) (.slot 99) (.slot 94)⟩, [12, 7, 0, 1, 4, 5, 6, 7, 11]),
    (⟨some 100, none, .val (.idxA (.agg 2) (.slot 89) (.slot 90))⟩, [2, 3, 0, 1, 2, 3, 4, 5, 6, 7, 8, 9, 10, 11, 12, 13]),
    (⟨none, none, .store (.agg 2) (.slot 100) (.slot 98)⟩, [14, 11, 13, 0, 1, 2, 3, 4, 5, 6, 7, 8, 9, 10, 11, 12, 13])]
abbrev slices_partitionCmpFunc_stamp_Time_r10t : List LOper := []
abbrev slices_partitionCmpFunc_stamp_Time_r11 : List LOper := [
    ⟨some 101, none, .val (.move (.slot 12))⟩,
    ⟨some 102, none, .val (.bin .add (.slot 101) (.const (.int .i64 1)))⟩,
    ⟨some 12, none, .val (.move (.slot 102))⟩]
abbrev slices_partitionCmpFunc_stamp_Time_r12 : List LOper := [
    ⟨some 103, none, .val (.move (.slot 13))⟩,
    ⟨some 104, none, .val (.bin .sub (.slot 103) (.const (.int .i64 1)))⟩,
    ⟨some 13, none, .val (.move (.slot 104))⟩]
abbrev slices_partitionCmpFunc_stamp_Time_r13 : List (LOper × List Nat) := [
    (⟨some 105, none, .val (.move (.slot 12))⟩, []),
    (⟨some 106, none, .val (.move (.slot 13))⟩, []),
    (⟨some 107, none, .val (.bin .leq (.slot 105) (.slot 106))⟩, [0, 1]),
    (⟨some 108, none, .val (.move (.slot 107))⟩, [2]),
    (⟨some 109, some (108, true), .val (.move (.slot 4))⟩, [3]),
    (⟨some 110, some (108, true), .val (.move (.slot 0))⟩, [3]),
    (⟨some 111, some (108, true), .val (.move (.slot 12))⟩, [3]),
    (⟨some 112, some (108, true), .val (.idxA (.agg 2) (.slot 110) (.slot 111))⟩, [5, 6, 3]),
    (⟨some 113, some (108, true), .val (.load (.agg 2) (.slot 112))⟩, [7, 3]),
    (⟨some 114, some (108, true), .val (.move (.slot 0))⟩, [3]),
    (⟨some 115, some (108, true), .val (.move (.slot 1))⟩, [3]),
    (⟨some 116, some (108, true), .val (.idxA (.agg 2) (.slot 114) (.slot 115))⟩, [9, 10, 3]),
    (⟨some 117, some (108, true), .val (.load (.agg 2) (.slot 116))⟩, [11, 3]),
    (⟨some 118, some (108, true), .callv (.slot 109) [(.slot 113), (.slot 117)]⟩, [4, 8, 12, 3, 3]),
    (⟨some 119, some (108, true), .val (.bin .lss (.slot 118) (.const (.int .i64 0)))⟩, [13, 3]),
    (⟨some 120, none, .val (.pick (.slot 108) (.slot 119) (.const (.bool false)))⟩, [3, 14])]
abbrev slices_partitionCmpFunc_stamp_Time_r13t : List LOper := []
abbrev slices_partitionCmpFunc_stamp_Time_r14 : List LOper := [
    ⟨some 121, none, .val (.move (.slot 12))⟩,
    ⟨some 122, none, .val (.bin .add (.slot 121) (.const (.int .i64 1)))⟩,
    ⟨some 12, none, .val (.move (.slot 122))⟩]
abbrev slices_partitionCmpFunc_stamp_Time_l2 : LCode := (.seq (.seq (.draw 16 slices_partitionCmpFunc_stamp_Time_r13 slices_partitionCmpFunc_stamp_Time_r13t) (.cond (.slot 120) .skip (.exit 6))) (.block 7 (.ops slices_partitionCmpFunc_stamp_Time_r14)))
abbrev slices_partitionCmpFunc_stamp_Time_r15 : List (LOper × List Nat) := [
    (⟨some 123, none, .val (.move (.slot 12))⟩, []),
    (⟨some 124, none, .val (.move (.slot 13))⟩, []),
    (⟨some 125, none, .val (.bin .leq (.slot 123) (.slot 124))⟩, [0, 1]),
    (⟨some 126, none, .val (.move (.slot 125))⟩, [2]),
    (⟨some 127, some (126, true), .val (.move (.slot 4))⟩, [3]),
    (⟨some 128, some (126, true), .val (.move (.slot 0))⟩, [3]),
    (⟨some 129, some (126, true), .val (.move (.slot 13))⟩, [3]),
    (⟨some 130, some (126, true), .val (.idxA (.agg 2) (.slot 128) (.slot 129))⟩, [5, 6, 3]),
    (⟨some 131, some (126, true), .val (.load (.agg 2) (.slot 130))⟩, [7, 3]),
    (⟨some 132, some (126, true), .val (.move (.slot 0))⟩, [3]),
    (⟨some 133, some (126, true), .val (.move (.slot 1))⟩, [3]),
    (⟨some 134, some (126, true), .val (.idxA (.agg 2) (.slot 132) (.slot 133))⟩, [9, 10, 3]),
    (⟨some 135, some (126, true), .val (.load (.agg 2) (.slot 134))⟩, [11, 3]),
    (⟨some 136, some (126, true), .callv (.slot 127) [(.slot 131), (.slot 135)]⟩, [4, 8, 12, 3, 3]),
    (⟨some 137, some (126, true), .val (.bin .lss (.slot 136) (.const (.int .i64 0)))⟩, [13, 3]),
    (⟨some 138, some (126, true), .val (.not (.slot 137))⟩, [14, 3]),
    (⟨some 139, none, .val (.pick (.slot 126) (.slot 138) (.const (.bool false)))⟩, [3, 15])]
abbrev slices_partitionCmpFunc_stamp_Time_r15t : List LOper := []
abbrev slices_partitionCmpFunc_stamp_Time_r16 : List LOper := [
    ⟨some 140, none, .val (.move (.slot 13))⟩,
    ⟨some 141, none, .val (.bin .sub (.slot 140) (.const (.int .i64 1)))⟩,
    ⟨some 13, none, .val (.move (.slot 141))⟩]
abbrev slices_partitionCmpFunc_stamp_Time_l3 : LCode := (.seq (.seq (.draw 17 slices_partitionCmpFunc_stamp_Time_r15 slices_partitionCmpFunc_stamp_Time_r15t) (.cond (.slot 139) .skip (.exit 8))) (.block 9 (.ops slices_partitionCmpFunc_stamp_Time_r16)))
abbrev slices_partitionCmpFunc_stamp_Time_r17 : List LOper := [
    ⟨some 142, none, .val (.move (.slot 12))⟩,
    ⟨some 143, none, .val (.move (.slot 13))⟩,
    ⟨some 144, none, .val (.bin .gtr (.slot 142) (.slot 143))⟩]
abbrev slices_partitionCmpFunc_stamp_Time_r18 : List (LOper × List Nat) := [
    (⟨some 145, none, .val (.move (.slot 0))⟩, []),
    (⟨some 146, none, .val (.move (.slot 12))⟩, []),
    (⟨some 147, none, .val (.move (.slot 0))⟩, []),
    (⟨some 148, none, .val (.move (.slot 13))⟩, []),
    (⟨some 149, none, .val (.move (.slot 0))⟩, []),
    (⟨some 150, none, .val (.move (.slot 13))⟩, []),
    (⟨some 151, none, .val (.idxA (.agg 2) (.slot 149) (.slot 150))⟩, [4, 5]),
    (⟨some 152, none, .val (.load (.agg 2) (.slot 151))⟩, [6]),
    (⟨some 153, none, .val (.move (.slot 0))⟩, []),
    (⟨some 154, none, .val (.move (.slot 12))⟩, []),
    (⟨some 155, none, .val (.idxA (.agg 2) (.slot 153) (.slot 154))⟩, [8, 9]),
    (⟨some 156, none, .val (.load (.agg 2) (.slot 155))⟩, [10]),
    (⟨some 157, none, .val (.idxA (.agg 2) (.slot 145) (.slot 146))⟩, [0, 1, 0, 1, 4, 5, 6, 7, 11]),
    (⟨none, none, .store (.agg 2) (.slot 157) (.slot 152)⟩, [12, 7, 0, 1, 4, 5, 6, 7, 11]),
    (⟨some 158, none, .val (.idxA (.agg 2) (.slot 147) (.slot 148))⟩, [2, 3, 0, 1, 2, 3, 4, 5, 6, 7, 8, 9, 10, 11, 12, 13]),
    (⟨none, none, .store (.agg 2) (.slot 158) (.slot 156)⟩, [14, 11, 13, 0, 1, 2, 3, 4, 5, 6, 7, 8, 9, 10, 11, 12, 13])]
abbrev slices_partitionCmpFunc_stamp_Time_r18t : List LOper := []
abbrev slices_partitionCmpFunc_stamp_Time_r19 : List LOper := [
    ⟨some 159, none, .val (.move (.slot 12))⟩,
    ⟨some 160, none, .val (.bin .add (.slot 159) (.const (.int .i64 1)))⟩,
    ⟨some 12, none, .val (.move (.slot 160))⟩]
abbrev slices_partitionCmpFunc_stamp_Time_r20 : List LOper := [
    ⟨some 161, none, .val (.move (.slot 13))⟩,
    ⟨some 162, none, .val (.bin .sub (.slot 161) (.const (.int .i64 1)))⟩,
    ⟨some 13, none, .val (.move (.slot 162))⟩]
abbrev slices_partitionCmpFunc_stamp_Time_l4 : LCode := (.block 5 (.seq (.block 6 (.loop slices_partitionCmpFunc_stamp_Time_l2)) (.seq (.block 8 (.loop slices_partitionCmpFunc_stamp_Time_l3)) (.seq (.seq (.ops slices_partitionCmpFunc_stamp_Time_r17) (.cond (.slot 144) (.exit 4) .skip)) (.seq (.draw 16 slices_partitionCmpFunc_stamp_Time_r18 slices_partitionCmpFunc_stamp_Time_r18t) (.seq (.ops slices_partitionCmpFunc_stamp_Time_r19) (.ops slices_partitionCmpFunc_stamp_Time_r20)))))))
abbrev slices_partitionCmpFunc_stamp_Time_r21 : List (LOper × List Nat) := [
    (⟨some 163, none, .val (.move (.slot 0))⟩, []),
    (⟨some 164, none, .val (.move (.slot 13))⟩, []),
    (⟨some 165, none, .val (.move (.slot 0))⟩, []),
    (⟨some 166, none, .val (.move (.slot 1))⟩, []),
    (⟨some 167, none, .val (.move (.slot 0))⟩, []),
    (⟨some 168, none, .val (.move (.slot 1))⟩, []),
    (⟨some 169, none, .val (.idxA (.agg 2) (.slot 167) (.slot 168))⟩, [4, 5]),
    (⟨some 170, none, .val (.load (.agg 2) (.slot 169))⟩, [6]),
    (⟨some 171, none, .val (.move (.slot 0))⟩, []),
    (⟨some 172, none, .val (.move (.slot 13))⟩, []),
    (⟨some 173, none, .val (.idxA (.agg 2) (.slot 171) (.slot 172))⟩, [8, 9]),
    (⟨some 174, none, .val (.load (.agg 2) (.slot 173))⟩, [10]),
    (⟨some 175, none, .val (.idxA (.agg 2) (.slot 163) (.slot 164))⟩, [0, 1, 0, 1, 4, 5, 6, 7, 11]),
    (⟨none, none, .store (.agg 2) (.slot 175) (.slot 170)⟩, [12, 7, 0, 1, 4, 5, 6, 7, 11]),
    (⟨some 176, none, .val (.idxA (.agg 2) (.slot 165) (.slot 166))⟩, [2, 3, 0, 1, 2, 3, 4, 5, 6, 7, 8, 9, 10, 11, 12, 13]),
    (⟨none, none, .store (.agg 2) (.slot 176) (.slot 174)⟩, [14, 11, 13, 0, 1, 2, 3, 4, 5, 6, 7, 8, 9, 10, 11, 12, 13])]
abbrev slices_partitionCmpFunc_stamp_Time_r21t : List LOper := []
abbrev slices_partitionCmpFunc_stamp_Time_r22 : List LOper := [
    ⟨some 177, none, .val (.move (.slot 13))⟩,
    ⟨some 10, none, .val (.move (.slot 177))⟩,
    ⟨some 11, none, .val (.move (.const (.bool false)))⟩]
def slices_partitionCmpFunc_stamp_Time : LFn := ⟨(.seq (.ops slices_partitionCmpFunc_stamp_Time_r0) (.seq (.draw 16 slices_partitionCmpFunc_stamp_Time_r1 slices_partitionCmpFunc_stamp_Time_r1t) (.seq (.ops slices_partitionCmpFunc_stamp_Time_r2) (.seq (.block 0 (.loop slices_partitionCmpFunc_stamp_Time_l0)) (.seq (.block 2 (.loop slices_partitionCmpFunc_stamp_Time_l1)) (.seq (.seq (.ops slices_partitionCmpFunc_stamp_Time_r7) (.cond (.slot 71) (.seq (.draw 16 slices_partitionCmpFunc_stamp_Time_r8 slices_partitionCmpFunc_stamp_Time_r8t) (.seq (.ops slices_partitionCmpFunc_stamp_Time_r9) .ret)) .skip)) (.seq (.draw 16 slices_partitionCmpFunc_stamp_Time_r10 slices_partitionCmpFunc_stamp_Time_r10t) (.seq (.ops slices_partitionCmpFunc_stamp_Time_r11) (.seq (.ops slices_partitionCmpFunc_stamp_Time_r12) (.seq (.block 4 (.loop slices_partitionCmpFunc_stamp_Time_l4)) (.seq (.draw 16 slices_partitionCmpFunc_stamp_Time_r21 slices_partitionCmpFunc_stamp_Time_r21t) (.seq (.ops slices_partitionCmpFunc_stamp_Time_r22) .ret)))))))))))), 178, [.slot 10, .slot 11]⟩
theorem slices_partitionCmpFunc_stamp_Time_low : lowerFn Try.prog 65 = some slices_partitionCmpFunc_stamp_Time := by kernel_rfl

abbrev slices_siftDownCmpFunc_stamp_Time_r0 : List LOper := [
    ⟨some 12, none, .val (.move (.slot 1))⟩,
    ⟨some 10, none, .val (.move (.slot 12))⟩]
abbrev slices_siftDownCmpFunc_stamp_Time_r1 : List LOper := [
    ⟨some 13, none, .val (.move (.slot 10))⟩,
    ⟨some 14, none, .val (.bin .mul (.const (.int .i64 2)) (.slot 13))⟩,
    ⟨some 15, none, .val (.bin .add (.slot 14) (.const (.int .i64 1)))⟩,
    ⟨some 11, none, .val (.move (.slot 15))⟩]
abbrev slices_siftDownCmpFunc_stamp_Time_r2 : List LOper := [
    ⟨some 16, none, .val (.move (.slot 11))⟩,
    ⟨some 17, none, .val (.move (.slot 2))⟩,
    ⟨some 18, none, .val (.bin .geq (.slot 16) (.slot 17))⟩]
abbrev slices_siftDownCmpFunc_stamp_Time_r3 : List (LOper × List Nat) := [
    (⟨some 19, none, .val (.move (.slot 11))⟩, []),
    (⟨some 20, none, .val (.bin .add (.slot 19) (.const (.int .i64 1)))⟩, [0]),
    (⟨some 21, none, .val (.move (.slot 2))⟩, []),
    (⟨some 22, none, .val (.bin .lss (.slot 20) (.slot 21))⟩, [1, 2]),
    (⟨some 23, none, .val (.move (.slot 22))⟩, [3]),
    (⟨some 24, some (23, true), .val (.move (.slot 4))⟩, [4]),
    (⟨some 25, some (23, true), .val (.move (.slot 0))⟩, [4]),
    (⟨some 26, some (23, true), .val (.move (.slot 3))⟩, [4]),
    (⟨some 27, some (23, true), .val (.move (.slot 11))⟩, [4]),
    (⟨some 28, some (23, true), .val (.bin .add (.slot 26) (.slot 27))⟩, [7, 8, 4]),
    (⟨some 29, some (23, true), .val (.idxA (.agg 2) (.slot 25) (.slot 28))⟩, [6, 9, 4]),
    (⟨some 30, some (23, true), .val (.load (.agg 2) (.slot 29))⟩, [10, 4]),
    (⟨some 31, some (23, true), .val (.move (.slot 0))⟩, [4]),
    (⟨some 32, some (23, true), .val (.move (.slot 3))⟩, [4]),
    (⟨some 33, some (23, true), .val (.move (.slot 11))⟩, [4]),
    (⟨some 34, some (23, true), .val (.bin .add (.slot 32) (.slot 33))⟩, [13, 14, 4]),
    (⟨some 35, some (23, true), .val (.bin .add (.slot 34) (.const (.int .i64 1)))⟩, [15, 4]),
    (⟨some 36, some (23, true), .val (.idxA (.agg 2) (.slot 31) (.slot 35))⟩, [12, 16, 4]),
    (⟨some 37, some (23, true), .val (.load (.agg 2) (.slot 36))⟩, [17, 4]),
    (⟨some 38, some (23, true), .callv (.slot 24) [(.slot 30), (.slot 37)]⟩, [5, 11, 18, 4, 4]),
    (⟨some 39, some (23, true), .val (.bin .lss (.slot 38) (.const (.int .i64 0)))⟩, [19, 4]),
    (⟨some 40, none, .val (.pick (.slot 23) (.slot 39) (.const (.bool false)))⟩, [4, 20])]
abbrev slices_siftDownCmpFunc_stamp_Time_r3t : List LOper := []
abbrev slices_siftDownCmpFunc_stamp_Time_r4 : List LOper := [
    ⟨some 41, none, .val (.move (.slot 11))⟩,
    ⟨some 42, none, .val (.bin .add (.slot 41) (.const (.int .i64 1)))⟩,
    ⟨some 11, none, .val (.move (.slot 42))⟩]
abbrev slices_siftDownCmpFunc_stamp_Time_r5 : List (LOper × List Nat) := [
    (⟨some 43, none, .val (.move (.slot 4))⟩, []),
    (⟨some 44, none, .val (.move (.slot 0))⟩, []),
    (⟨some 45, none, .val (.move (.slot 3))⟩, []),
    (⟨some 46, none, .val (.move (.slot 10))⟩, []),
    (⟨some 47, none, .val (.bin .add (.slot 45) (.slot 46))⟩, [2, 3]),
    (⟨some 48, none, .val (.idxA (.agg 2) (.slot 44) (.slot 47))⟩, [1, 4]),
    (⟨some 49, none, .val (.load (.agg 2) (.slot 48))⟩, [5]),
    (⟨some 50, none, .val (.move (.slot 0))⟩, []),
    (⟨some 51, none, .val (.move (.slot 3))⟩, []),
    (⟨some 52, none, .val (.move (.slot 11))⟩, []),
    (⟨some 53, none, .val (.bin .add (.slot 51) (.slot 52))⟩, [8, 9]),
    (⟨some 54, none, .val (.idxA (.agg 2) (.slot 50) (.slot 53))⟩, [7, 10]),
    (⟨some 55, none, .val (.load (.agg 2) (.slot 54))⟩, [11]),
    (⟨some 56, none, .callv (.slot 43) [(.slot 49), (.slot 55)]⟩, [0, 6, 12]),
    (⟨some 57, none, .val (.bin .lss (.slot 56) (.const (.int .i64 0)))⟩, [13]),
    (⟨some 58, none, .val (.not (.slot 57))⟩, [14])]
abbrev slices_siftDownCmpFunc_stamp_Time_r5t : List LOper := []
abbrev slices_siftDownCmpFunc_stamp_Time_r6 : List (LOper × List Nat) := [
    (⟨some 59, none, .val (.move (.slot 0))⟩, []),
    (⟨some 60, none, .val (.move (.slot 3))⟩, []),
    (⟨some 61, none, .val (.move (.slot 10))⟩, []),
    (⟨some 62, none, .val (.bin .add (.slot 60) (.slot 61))⟩, [1, 2]),
    (⟨some 63, none, .val (.move (.slot 0))⟩, []),
    (⟨some 64, none, .val (.move (.slot 3))⟩, []),
    (⟨some 65, none, .val (.move (.slot 11))⟩, []),
    (⟨some 66, none, .val (.bin .add (.slot 64) (.slot 65))⟩, [5, 6]),
    (⟨some 67, none, .val (.move (.slot 0))⟩, []),
    (⟨some 68, none, .val (.move (.slot 3))⟩, []),
    (⟨some 69, none, .val (.move (.slot 11))⟩, []),
    (⟨some 70, none, .val (.bin .add (.slot 68) (.slot 69))⟩, [9, 10]),
    (⟨some 71, none, .val (.idxA (.agg 2) (.slot 67) (.slot 70))⟩, [8, 11]),
    (⟨some 72, none, .val (.load (.agg 2) (.slot 71))⟩, [12]),
    (⟨some 73, none, .val (.move (.slot 0))⟩, []),
    (⟨some 74, none, .val (.move (.slot 3))⟩, []),
    (⟨some 75, none, .val (.move (.slot 10))⟩, []),
    (⟨some 76, none, .val (.bin .add (.slot 74) (.slot 75))⟩, [15, 16]),
    (⟨some 77, none, .val (.idxA (.agg 2) (.slot 73) (.slot 76))⟩, [14, 17]),
    (⟨some 78, none, .val (.load (.agg 2) (.slot 77))⟩, [18]),
    (⟨some 79, none, .val (.idxA (.agg 2) (.slot 59) (.slot 62))⟩, [0, 3, 0, 1, 2, 3, 8, 9, 10, 11, 12, 13, 19]),
    (⟨none, none, .store (.agg 2) (.slot 79) (.slot 72)⟩, [20, 13, 0, 1, 2, 3, 8, 9, 10, 11, 12, 13, 19]),
    (⟨some 80, none, .val (.idxA (.agg 2) (.slot 63) (.slot 66))⟩, [4, 7, 0, 1, 2, 3, 4, 5, 6, 7, 8, 9, 10, 11, 12, 13, 14, 15, 16, 17, 18, 19, 20, 21]),
    (⟨none, none, .store (.agg 2) (.slot 80) (.slot 78)⟩, [22, 19, 21, 0, 1, 2, 3, 4, 5, 6, 7, 8, 9, 10, 11, 12, 13, 14, 15, 16, 17, 18, 19, 20, 21])]
abbrev slices_siftDownCmpFunc_stamp_Time_r6t : List LOper := []
abbrev slices_siftDownCmpFunc_stamp_Time_r7 : List LOper := [
    ⟨some 81, none, .val (.move (.slot 11))⟩,
    ⟨some 10, none, .val (.move (.slot 81))⟩]
abbrev slices_siftDownCmpFunc_stamp_Time_l0 : LCode := (.block 1 (.seq (.ops slices_siftDownCmpFunc_stamp_Time_r1) (.seq (.seq (.ops slices_siftDownCmpFunc_stamp_Time_r2) (.cond (.slot 18) (.exit 0) .skip)) (.seq (.seq (.draw 22 slices_siftDownCmpFunc_stamp_Time_r3 slices_siftDownCmpFunc_stamp_Time_r3t) (.cond (.slot 40) (.ops slices_siftDownCmpFunc_stamp_Time_r4) .skip)) (.seq (.seq (.draw 16 slices_siftDownCmpFunc_stamp_Time_r5 slices_siftDownCmpFunc_stamp_Time_r5t) (.cond (.slot 58) .ret .skip)) (.seq (.draw 24 slices_siftDownCmpFunc_stamp_Time_r6 slices_siftDownCmpFunc_stamp_Time_r6t) (.ops slices_siftDownCmpFunc_stamp_Time_r7)))))))
def slices_siftDownCmpFunc_stamp_Time : LFn := ⟨(.seq (.ops slices_siftDownCmpFunc_stamp_Time_r0) (.block 0 (.loop slices_siftDownCmpFunc_stamp_Time_l0))), 82, []⟩
theorem slices_siftDownCmpFunc_stamp_Time_low : lowerFn Try.prog 68 = some slices_siftDownCmpFunc_stamp_Time := by kernel_rfl

abbrev slices_medianAdjacentCmpFunc_stamp_Time_r0 : List LOper := [
    ⟨some 8, none, .val (.move (.const (.int .i64 0)))⟩]
abbrev slices_medianAdjacentCmpFunc_stamp_Time_r1 : List LOper := [
    ⟨some 9, none, .val (.move (.slot 0))⟩,
    ⟨some 10, none, .val (.move (.slot 1))⟩,
    ⟨some 11, none, .val (.bin .sub (.slot 10) (.const (.int .i64 1)))⟩,
    ⟨some 12, none, .val (.move (.slot 1))⟩,
    ⟨some 13, none, .val (.move (.slot 1))⟩,
    ⟨some 14, none, .val (.bin .add (.slot 13) (.const (.int .i64 1)))⟩,
    ⟨some 15, none, .val (.move (.slot 2))⟩,
    ⟨some 16, none, .val (.move (.slot 3))⟩,
    ⟨some 17, none, .call 72 [(.slot 9), (.slot 11), (.slot 12), (.slot 14), (.slot 15), (.slot 16)]⟩,
    ⟨some 8, none, .val (.move (.slot 17))⟩]
def slices_medianAdjacentCmpFunc_stamp_Time : LFn := ⟨(.seq (.ops slices_medianAdjacentCmpFunc_stamp_Time_r0) (.seq (.ops slices_medianAdjacentCmpFunc_stamp_Time_r1) .ret)), 18, [.slot 8]⟩
theorem slices_medianAdjacentCmpFunc_stamp_Time_low : lowerFn Try.prog 71 = some slices_medianAdjacentCmpFunc_stamp_Time := by kernel_rfl

abbrev slices_medianCmpFunc_stamp_Time_r0 : List LOper := [
    ⟨some 12, none, .val (.move (.const (.int .i64 0)))⟩]
abbrev slices_medianCmpFunc_stamp_Time_r1 : List LOper := [
    ⟨some 14, none, .val (.move (.slot 0))⟩,
    ⟨some 15, none, .val (.move (.slot 1))⟩,
    ⟨some 16, none, .val (.move (.slot 2))⟩,
    ⟨some 17, none, .val (.move (.slot 4))⟩,
    ⟨some 18, none, .val (.move (.slot 5))⟩,
    ⟨some 19, none, .call 73 [(.slot 14), (.slot 15), (.slot 16), (.slot 17), (.slot 18)]⟩,
    ⟨some 13, none, .val (.move (.slot 19))⟩,
    ⟨some 20, none, .val (.ext (.slot 13) 0)⟩,
    ⟨some 21, none, .val (.ext (.slot 13) 1)⟩,
    ⟨some 1, none, .val (.move (.slot 20))⟩,
    ⟨some 2, none, .val (.move (.slot 21))⟩]
abbrev slices_medianCmpFunc_stamp_Time_r2 : List LOper := [
    ⟨some 23, none, .val (.move (.slot 0))⟩,
    ⟨some 24, none, .val (.move (.slot 2))⟩,
    ⟨some 25, none, .val (.move (.slot 3))⟩,
    ⟨some 26, none, .val (.move (.slot 4))⟩,
    ⟨some 27, none, .val (.move (.slot 5))⟩,
    ⟨some 28, none, .call 73 [(.slot 23), (.slot 24), (.slot 25), (.slot 26), (.slot 27)]⟩,
    ⟨some 22, none, .val (.move (.slot 28))⟩,
    ⟨some 29, none, .val (.ext (.slot 22) 0)⟩,
    ⟨some 30, none, .val (.ext (.slot 22) 1)⟩,
    ⟨some 2, none, .val (.move (.slot 29))⟩,
    ⟨some 3, none, .val (.move (.slot 30))⟩]
abbrev slices_medianCmpFunc_stamp_Time_r3 : List LOper := [
    ⟨some 32, none, .val (.move (.slot 0))⟩,
    ⟨some 33, none, .val (.move (.slot 1))⟩,
    ⟨some 34, none, .val (.move (.slot 2))⟩,
    ⟨some 35, none, .val (.move (.slot 4))⟩,
    ⟨some 36, none, .val (.move (.slot 5))⟩,
    ⟨some 37, none, .call 73 [(.slot 32), (.slot 33), (.slot 34), (.slot 35), (.slot 36)]⟩,
    ⟨some 31, none, .val (.move (.slot 37))⟩,
    ⟨some 38, none, .val (.ext (.slot 31) 0)⟩,
    ⟨some 39, none, .val (.ext (.slot 31) 1)⟩,
    ⟨some 1, none, .val (.move (.slot 38))⟩,
    ⟨some 2, none, .val (.move (.slot 39))⟩]
abbrev slices_medianCmpFunc_stamp_Time_r4 : List LOper := [
    ⟨some 40, none, .val (.move (.slot 2))⟩,
    ⟨some 12, none, .val (.move (.slot 40))⟩]
def slices_medianCmpFunc_stamp_Time : LFn := ⟨(.seq (.ops slices_medianCmpFunc_stamp_Time_r0) (.seq (.ops slices_medianCmpFunc_stamp_Time_r1) (.seq (.ops slices_medianCmpFunc_stamp_Time_r2) (.seq (.ops slices_medianCmpFunc_stamp_Time_r3) (.seq (.ops slices_medianCmpFunc_stamp_Time_r4) .ret))))), 41, [.slot 12]⟩
theorem slices_medianCmpFunc_stamp_Time_low : lowerFn Try.prog 72 = some slices_medianCmpFunc_stamp_Time := by kernel_rfl

abbrev slices_order2CmpFunc_stamp_Time_r0 : List LOper := [
    ⟨some 10, none, .val (.move (.const (.int .i64 0)))⟩,
    ⟨some 11, none, .val (.move (.const (.int .i64 0)))⟩]
abbrev slices_order2CmpFunc_stamp_Time_r1 : List (LOper × List Nat) := [
    (⟨some 12, none, .val (.move (.slot 4))⟩, []),
    (⟨some 13, none, .val (.move (.slot 0))⟩, []),
    (⟨some 14, none, .val (.move (.slot 2))⟩, []),
    (⟨some 15, none, .val (.idxA (.agg 2) (.slot 13) (.slot 14))⟩, [1, 2]),
    (⟨some 16, none, .val (.load (.agg 2) (.slot 15))⟩, [3]),
    (⟨some 17, none, .val (.move (.slot 0))⟩, []),
    (⟨some 18, none, .val (.move (.slot 1))⟩, []),
    (⟨some 19, none, .val (.idxA (.agg 2) (.slot 17) (.slot 18))⟩, [5, 6]),
    (⟨some 20, none, .val (.load (.agg 2) (.slot 19))⟩, [7]),
    (⟨some 21, none, .callv (.slot 12) [(.slot 16), (.slot 20)]⟩, [0, 4, 8]),
    (⟨some 22, none, .val (.bin .lss (.slot 21) (.const (.int .i64 0)))⟩, [9])]
abbrev slices_order2CmpFunc_stamp_Time_r1t : List LOper := []
abbrev slices_order2CmpFunc_stamp_Time_r2 : List LOper := [
    ⟨some 23, none, .val (.move (.slot 3))⟩,
    ⟨some 24, none, .val (.nilCheck (.slot 23))⟩,
    ⟨some 25, none, .val (.load .leaf (.slot 24))⟩,
    ⟨some 26, none, .val (.bin .add (.slot 25) (.const (.int .i64 1)))⟩,
    ⟨some 27, none, .val (.nilCheck (.slot 23))⟩,
    ⟨none, none, .store .leaf (.slot 27) (.slot 26)⟩]
abbrev slices_order2CmpFunc_stamp_Time_r3 : List LOper := [
    ⟨some 28, none, .val (.move (.slot 2))⟩,
    ⟨some 29, none, .val (.move (.slot 1))⟩,
    ⟨some 10, none, .val (.move (.slot 28))⟩,
    ⟨some 11, none, .val (.move (.slot 29))⟩]
abbrev slices_order2CmpFunc_stamp_Time_r4 : List LOper := [
    ⟨some 30, none, .val (.move (.slot 1))⟩,
    ⟨some 31, none, .val (.move (.slot 2))⟩,
    ⟨some 10, none, .val (.move (.slot 30))⟩,
    ⟨some 11, none, .val (.move (.slot 31))⟩]
def slices_order2CmpFunc_stamp_Time : LFn := ⟨(.seq (.ops slices_order2CmpFunc_stamp_Time_r0) (.seq (.seq (.draw 11 slices_order2CmpFunc_stamp_Time_r1 slices_order2CmpFunc_stamp_Time_r1t) (.cond (.slot 22) (.seq (.ops slices_order2CmpFunc_stamp_Time_r2) (.seq (.ops slices_order2CmpFunc_stamp_Time_r3) .ret)) .skip)) (.seq (.ops slices_order2CmpFunc_stamp_Time_r4) .ret))), 32, [.slot 10, .slot 11]⟩
theorem slices_order2CmpFunc_stamp_Time_low : lowerFn Try.prog 73 = some slices_order2CmpFunc_stamp_Time := by kernel_rfl


end L
end Go.Proofs.Ythcedfamidlbdaa
