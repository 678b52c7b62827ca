/-
Functions of the library of Go, lowered, at whatever element type: printed by a program. No conditions.
-/
import Derived.Test.YthcedfamidlbdaaZz
namespace Go.Proofs.Ythcedfamidlbdaa
set_option linter.unusedSimpArgs false
set_option linter.unusedVariables false
set_option linter.unusedSectionVars false
open Go.RowKit
namespace LB
abbrev IndexFunc_r0 : List LOper := [
    ⟨some 4, none, .val (.move (.const (.int .i64 0)))⟩]
abbrev IndexFunc_r1 : List LOper := [
    ⟨some 6, none, .val (.move (.slot 0))⟩,
    ⟨some 7, none, .val (.len (.slot 6))⟩,
    ⟨some 8, none, .val (.move (.const (.int .i64 0)))⟩]
abbrev IndexFunc_r2 : List LOper := [
    ⟨some 9, none, .val (.bin .lss (.slot 8) (.slot 7))⟩]
abbrev IndexFunc_r3 : List LOper := [
    ⟨some 10, none, .val (.move (.slot 8))⟩,
    ⟨some 5, none, .val (.move (.slot 10))⟩]
abbrev IndexFunc_r4 (k : Sh) : List LOper := [
    ⟨some 11, none, .val (.move (.slot 1))⟩,
    ⟨some 12, none, .val (.move (.slot 0))⟩,
    ⟨some 13, none, .val (.move (.slot 5))⟩,
    ⟨some 14, none, .val (.idxA k (.slot 12) (.slot 13))⟩,
    ⟨some 15, none, .val (.load k (.slot 14))⟩,
    ⟨some 16, none, .callv (.slot 11) [(.slot 15)]⟩]
abbrev IndexFunc_r5 : List LOper := [
    ⟨some 17, none, .val (.move (.slot 5))⟩,
    ⟨some 4, none, .val (.move (.slot 17))⟩]
abbrev IndexFunc_r6 : List LOper := [
    ⟨some 18, none, .val (.bin .add (.slot 8) (.const (.int .i64 1)))⟩,
    ⟨some 8, none, .val (.move (.slot 18))⟩]
abbrev IndexFunc_l0 (k : Sh) : LCode := (.seq (.ops IndexFunc_r2) (.seq (.cond (.slot 9) .skip (.exit 0)) (.seq (.block 1 (.seq (.ops IndexFunc_r3) (.seq (.ops (IndexFunc_r4 k)) (.cond (.slot 16) (.seq (.ops IndexFunc_r5) .ret) .skip)))) (.ops IndexFunc_r6))))
abbrev IndexFunc_r7 : List LOper := [
    ⟨some 4, none, .val (.move (.const (.int .i64 (-1))))⟩]
def IndexFunc (k : Sh) : LFn := ⟨(.seq (.ops IndexFunc_r0) (.seq (.seq (.ops IndexFunc_r1) (.block 0 (.loop (IndexFunc_l0 k)))) (.seq (.ops IndexFunc_r7) .ret))), 19, [.slot 4]⟩
abbrev ContainsFunc_r0 : List LOper := [
    ⟨some 4, none, .val (.move (.const (.bool false)))⟩]
abbrev ContainsFunc_r1 (f0 : Nat) : List LOper := [
    ⟨some 5, none, .val (.move (.slot 0))⟩,
    ⟨some 6, none, .val (.move (.slot 1))⟩,
    ⟨some 7, none, .call f0 [(.slot 5), (.slot 6)]⟩,
    ⟨some 8, none, .val (.bin .geq (.slot 7) (.const (.int .i64 0)))⟩,
    ⟨some 4, none, .val (.move (.slot 8))⟩]
def ContainsFunc (k : Sh) (f0 : Nat) : LFn := ⟨(.seq (.ops ContainsFunc_r0) (.seq (.ops (ContainsFunc_r1 f0)) .ret)), 9, [.slot 4]⟩
abbrev ValuesIt_r0 : List LOper := [
    ⟨some 5, none, .val (.load .leaf (.slot 1))⟩,
    ⟨some 6, none, .val (.len (.slot 5))⟩,
    ⟨some 7, none, .val (.move (.const (.int .i64 0)))⟩]
abbrev ValuesIt_r1 : List LOper := [
    ⟨some 8, none, .val (.bin .lss (.slot 7) (.slot 6))⟩]
abbrev ValuesIt_r2 (k : Sh) (z : V) : List LOper := [
    ⟨some 9, none, .val (.idxA k (.slot 5) (.slot 7))⟩,
    ⟨some 10, none, .val (.load k (.slot 9))⟩,
    ⟨some 4, none, .box k (.const z)⟩,
    ⟨none, none, .store k (.slot 4) (.slot 10)⟩]
abbrev ValuesIt_r3 (k : Sh) : List LOper := [
    ⟨some 11, none, .val (.move (.slot 0))⟩,
    ⟨some 12, none, .val (.load k (.slot 4))⟩,
    ⟨some 13, none, .callv (.slot 11) [(.slot 12)]⟩,
    ⟨some 14, none, .val (.not (.slot 13))⟩]
abbrev ValuesIt_r4 : List LOper := [
    ⟨some 15, none, .val (.bin .add (.slot 7) (.const (.int .i64 1)))⟩,
    ⟨some 7, none, .val (.move (.slot 15))⟩]
abbrev ValuesIt_l0 (k : Sh) (z : V) : LCode := (.seq (.ops ValuesIt_r1) (.seq (.cond (.slot 8) .skip (.exit 0)) (.seq (.block 1 (.seq (.ops (ValuesIt_r2 k z)) (.seq (.ops (ValuesIt_r3 k)) (.cond (.slot 14) .ret .skip)))) (.ops ValuesIt_r4))))
def ValuesIt (k : Sh) (z : V) : LFn := ⟨(.seq (.ops ValuesIt_r0) (.block 0 (.loop (ValuesIt_l0 k z)))), 16, []⟩
abbrev Values_r0 : List LOper := [
    ⟨some 1, none, .box .leaf (.slot 0)⟩,
    ⟨some 2, none, .val (.move (.const .nilFn))⟩]
abbrev Values_r1 (f0 : Nat) : List LOper := [
    ⟨some 3, none, .val (.mkfn (.func f0) [] [(.slot 1)])⟩,
    ⟨some 2, none, .val (.move (.slot 3))⟩]
def Values (k : Sh) (f0 : Nat) : LFn := ⟨(.seq (.ops Values_r0) (.seq (.ops (Values_r1 f0)) .ret)), 4, [.slot 2]⟩
abbrev AppendSeq_r0 (k : Sh) : List LOper := [
    ⟨some 2, none, .box .leaf (.slot 0)⟩,
    ⟨some 4, none, .val (.move (.const (.sl k .nil [])))⟩]
abbrev AppendSeq_r1 : List LOper := [
    ⟨some 6, none, .val (.move (.slot 1))⟩]
abbrev AppendSeq_r2 (k : Sh) (z : V) : List LOper := [
    ⟨some 5, none, .box k (.const z)⟩,
    ⟨none, none, .store k (.slot 5) (.slot 7)⟩]
abbrev AppendSeq_r3 (k : Sh) (bs : Nat) : List LOper := [
    ⟨some 8, none, .val (.load .leaf (.slot 2))⟩,
    ⟨some 9, none, .val (.load k (.slot 5))⟩,
    ⟨some 10, none, .bslice k [(.slot 9)]⟩,
    ⟨some 11, none, .append k bs (.slot 8) (.slot 10)⟩,
    ⟨none, none, .store .leaf (.slot 2) (.slot 11)⟩]
abbrev AppendSeq_b0 (k : Sh) (bs : Nat) : LCode := (.block 1 (.ops (AppendSeq_r3 k bs)))
abbrev AppendSeq_r4 : List LOper := [
    ⟨some 12, none, .val (.load .leaf (.slot 2))⟩,
    ⟨some 4, none, .val (.move (.slot 12))⟩]
def AppendSeq (k : Sh) (z : V) (bs : Nat) : LFn := ⟨(.seq (.ops (AppendSeq_r0 k)) (.seq (.seq (.ops AppendSeq_r1) (.block 0 (.range (.slot 6) [7] (.ops (AppendSeq_r2 k z)) (AppendSeq_b0 k bs)))) (.seq (.ops AppendSeq_r4) .ret))), 13, [.slot 4]⟩
abbrev Collect_r0 (k : Sh) : List LOper := [
    ⟨some 2, none, .val (.move (.const (.sl k .nil [])))⟩]
abbrev Collect_r1 (k : Sh) (f0 : Nat) : List LOper := [
    ⟨some 3, none, .val (.move (.slot 0))⟩,
    ⟨some 4, none, .call f0 [(.const (.sl k .nil [])), (.slot 3)]⟩,
    ⟨some 2, none, .val (.move (.slot 4))⟩]
def Collect (k : Sh) (f0 : Nat) : LFn := ⟨(.seq (.ops (Collect_r0 k)) (.seq (.ops (Collect_r1 k f0)) .ret)), 5, [.slot 2]⟩
abbrev SortedFunc_r0 (k : Sh) : List LOper := [
    ⟨some 4, none, .val (.move (.const (.sl k .nil [])))⟩]
abbrev SortedFunc_r1 (f0 : Nat) : List LOper := [
    ⟨some 6, none, .val (.move (.slot 0))⟩,
    ⟨some 7, none, .call f0 [(.slot 6)]⟩,
    ⟨some 5, none, .val (.move (.slot 7))⟩]
abbrev SortedFunc_r2 (f1 : Nat) : List LOper := [
    ⟨some 8, none, .val (.move (.slot 5))⟩,
    ⟨some 9, none, .val (.move (.slot 1))⟩,
    ⟨some 10, none, .call f1 [(.slot 8), (.slot 9)]⟩]
abbrev SortedFunc_r3 : List LOper := [
    ⟨some 11, none, .val (.move (.slot 5))⟩,
    ⟨some 4, none, .val (.move (.slot 11))⟩]
def SortedFunc (k : Sh) (f0 : Nat) (f1 : Nat) : LFn := ⟨(.seq (.ops (SortedFunc_r0 k)) (.seq (.ops (SortedFunc_r1 f0)) (.seq (.ops (SortedFunc_r2 f1)) (.seq (.ops SortedFunc_r3) .ret)))), 12, [.slot 4]⟩
abbrev Equal_r0 : List LOper := [
    ⟨some 4, none, .val (.move (.const (.bool false)))⟩]
abbrev Equal_r1 : List LOper := [
    ⟨some 6, none, .val (.move (.slot 0))⟩,
    ⟨some 7, none, .val (.len (.slot 6))⟩,
    ⟨some 8, none, .val (.move (.slot 1))⟩,
    ⟨some 9, none, .val (.len (.slot 8))⟩,
    ⟨some 10, none, .val (.bin .neq (.slot 7) (.slot 9))⟩]
abbrev Equal_r2 : List LOper := [
    ⟨some 4, none, .val (.move (.const (.bool false)))⟩]
abbrev Equal_r3 : List LOper := [
    ⟨some 11, none, .val (.move (.slot 0))⟩,
    ⟨some 12, none, .val (.len (.slot 11))⟩,
    ⟨some 13, none, .val (.move (.const (.int .i64 0)))⟩]
abbrev Equal_r4 : List LOper := [
    ⟨some 14, none, .val (.bin .lss (.slot 13) (.slot 12))⟩]
abbrev Equal_r5 : List LOper := [
    ⟨some 15, none, .val (.move (.slot 13))⟩,
    ⟨some 5, none, .val (.move (.slot 15))⟩]
abbrev Equal_r6 (k : Sh) (e : EqTy) : List (LOper × List Nat) := [
    (⟨some 16, none, .val (.move (.slot 0))⟩, []),
    (⟨some 17, none, .val (.move (.slot 5))⟩, []),
    (⟨some 18, none, .val (.idxA k (.slot 16) (.slot 17))⟩, [0, 1]),
    (⟨some 19, none, .val (.load k (.slot 18))⟩, [2]),
    (⟨some 20, none, .val (.move (.slot 1))⟩, []),
    (⟨some 21, none, .val (.move (.slot 5))⟩, []),
    (⟨some 22, none, .val (.idxA k (.slot 20) (.slot 21))⟩, [4, 5]),
    (⟨some 23, none, .val (.load k (.slot 22))⟩, [6]),
    (⟨some 24, none, .val (.eq true e (.slot 19) (.slot 23))⟩, [3, 7])]
abbrev Equal_r6t : List LOper := []
abbrev Equal_r7 : List LOper := [
    ⟨some 4, none, .val (.move (.const (.bool false)))⟩]
abbrev Equal_r8 : List LOper := [
    ⟨some 25, none, .val (.bin .add (.slot 13) (.const (.int .i64 1)))⟩,
    ⟨some 13, none, .val (.move (.slot 25))⟩]
abbrev Equal_l0 (k : Sh) (e : EqTy) : LCode := (.seq (.ops Equal_r4) (.seq (.cond (.slot 14) .skip (.exit 0)) (.seq (.block 1 (.seq (.ops Equal_r5) (.seq (.draw 9 (Equal_r6 k e) Equal_r6t) (.cond (.slot 24) (.seq (.ops Equal_r7) .ret) .skip)))) (.ops Equal_r8))))
abbrev Equal_r9 : List LOper := [
    ⟨some 4, none, .val (.move (.const (.bool true)))⟩]
def Equal (k : Sh) (e : EqTy) : LFn := ⟨(.seq (.ops Equal_r0) (.seq (.seq (.ops Equal_r1) (.cond (.slot 10) (.seq (.ops Equal_r2) .ret) .skip)) (.seq (.seq (.ops Equal_r3) (.block 0 (.loop (Equal_l0 k e)))) (.seq (.ops Equal_r9) .ret)))), 26, [.slot 4]⟩
abbrev Clone_r0 (k : Sh) : List LOper := [
    ⟨some 2, none, .val (.move (.const (.sl k .nil [])))⟩]
abbrev Clone_r1 (k : Sh) : List LOper := [
    ⟨some 3, none, .val (.move (.slot 0))⟩,
    ⟨some 4, none, .val (.eq false .slice (.slot 3) (.const (.sl k .nil [])))⟩]
abbrev Clone_r2 (k : Sh) : List LOper := [
    ⟨some 2, none, .val (.move (.const (.sl k .nil [])))⟩]
abbrev Clone_r3 (k : Sh) (bs : Nat) : List LOper := [
    ⟨some 5, none, .bslice k []⟩,
    ⟨some 6, none, .val (.move (.slot 0))⟩,
    ⟨some 7, none, .append k bs (.slot 5) (.slot 6)⟩,
    ⟨some 2, none, .val (.move (.slot 7))⟩]
def Clone (k : Sh) (bs : Nat) : LFn := ⟨(.seq (.ops (Clone_r0 k)) (.seq (.seq (.ops (Clone_r1 k)) (.cond (.slot 4) (.seq (.ops (Clone_r2 k)) .ret) .skip)) (.seq (.ops (Clone_r3 k bs)) .ret))), 8, [.slot 2]⟩
abbrev CmpInt_r0 : List LOper := [
    ⟨some 4, none, .val (.move (.const (.int .i64 0)))⟩]
abbrev CmpInt_r1 (f0 : Nat) : List LOper := [
    ⟨some 7, none, .val (.move (.slot 0))⟩,
    ⟨some 8, none, .call f0 [(.slot 7)]⟩,
    ⟨some 5, none, .val (.move (.slot 8))⟩]
abbrev CmpInt_r2 (f0 : Nat) : List LOper := [
    ⟨some 9, none, .val (.move (.slot 1))⟩,
    ⟨some 10, none, .call f0 [(.slot 9)]⟩,
    ⟨some 6, none, .val (.move (.slot 10))⟩]
abbrev CmpInt_r3 : List LOper := [
    ⟨some 11, none, .val (.move (.slot 5))⟩]
abbrev CmpInt_r4 : List LOper := [
    ⟨some 12, none, .val (.move (.slot 6))⟩]
abbrev CmpInt_r5 : List LOper := [
    ⟨some 4, none, .val (.move (.const (.int .i64 0)))⟩]
abbrev CmpInt_r6 : List LOper := [
    ⟨some 4, none, .val (.move (.const (.int .i64 (-1))))⟩]
abbrev CmpInt_r7 : List LOper := [
    ⟨some 13, none, .val (.move (.slot 6))⟩]
abbrev CmpInt_r8 : List LOper := [
    ⟨some 4, none, .val (.move (.const (.int .i64 1)))⟩]
abbrev CmpInt_r9 : List LOper := [
    ⟨some 14, none, .val (.move (.slot 0))⟩,
    ⟨some 15, none, .val (.move (.slot 1))⟩,
    ⟨some 16, none, .val (.bin .lss (.slot 14) (.slot 15))⟩]
abbrev CmpInt_r10 : List LOper := [
    ⟨some 4, none, .val (.move (.const (.int .i64 (-1))))⟩]
abbrev CmpInt_r11 : List LOper := [
    ⟨some 17, none, .val (.move (.slot 0))⟩,
    ⟨some 18, none, .val (.move (.slot 1))⟩,
    ⟨some 19, none, .val (.bin .gtr (.slot 17) (.slot 18))⟩]
abbrev CmpInt_r12 : List LOper := [
    ⟨some 4, none, .val (.move (.const (.int .i64 1)))⟩]
abbrev CmpInt_r13 : List LOper := [
    ⟨some 4, none, .val (.move (.const (.int .i64 0)))⟩]
def CmpInt (f0 : Nat) : LFn := ⟨(.seq (.ops CmpInt_r0) (.seq (.ops (CmpInt_r1 f0)) (.seq (.ops (CmpInt_r2 f0)) (.seq (.seq (.ops CmpInt_r3) (.cond (.slot 11) (.seq (.seq (.ops CmpInt_r4) (.cond (.slot 12) (.seq (.ops CmpInt_r5) .ret) .skip)) (.seq (.ops CmpInt_r6) .ret)) .skip)) (.seq (.seq (.ops CmpInt_r7) (.cond (.slot 13) (.seq (.ops CmpInt_r8) .ret) .skip)) (.seq (.seq (.ops CmpInt_r9) (.cond (.slot 16) (.seq (.ops CmpInt_r10) .ret) .skip)) (.seq (.seq (.ops CmpInt_r11) (.cond (.slot 19) (.seq (.ops CmpInt_r12) .ret) .skip)) (.seq (.ops CmpInt_r13) .ret)))))))), 20, [.slot 4]⟩
abbrev OrInt_r0 : List LOper := [
    ⟨some 2, none, .val (.move (.const (.int .i64 0)))⟩]
abbrev OrInt_r1 : List LOper := [
    ⟨some 3, none, .val (.move (.const (.int .i64 0)))⟩]
abbrev OrInt_r2 : List LOper := [
    ⟨some 6, none, .val (.move (.slot 0))⟩,
    ⟨some 7, none, .val (.len (.slot 6))⟩,
    ⟨some 8, none, .val (.move (.const (.int .i64 0)))⟩]
abbrev OrInt_r3 : List LOper := [
    ⟨some 9, none, .val (.bin .lss (.slot 8) (.slot 7))⟩]
abbrev OrInt_r4 : List LOper := [
    ⟨some 10, none, .val (.idxA .leaf (.slot 6) (.slot 8))⟩,
    ⟨some 11, none, .val (.load .leaf (.slot 10))⟩,
    ⟨some 5, none, .val (.move (.slot 11))⟩]
abbrev OrInt_r5 : List LOper := [
    ⟨some 12, none, .val (.move (.slot 5))⟩,
    ⟨some 13, none, .val (.move (.slot 3))⟩,
    ⟨some 14, none, .val (.bin .neq (.slot 12) (.slot 13))⟩]
abbrev OrInt_r6 : List LOper := [
    ⟨some 15, none, .val (.move (.slot 5))⟩,
    ⟨some 2, none, .val (.move (.slot 15))⟩]
abbrev OrInt_r7 : List LOper := [
    ⟨some 16, none, .val (.bin .add (.slot 8) (.const (.int .i64 1)))⟩,
    ⟨some 8, none, .val (.move (.slot 16))⟩]
abbrev OrInt_l0 : LCode := (.seq (.ops OrInt_r3) (.seq (.cond (.slot 9) .skip (.exit 0)) (.seq (.block 1 (.seq (.ops OrInt_r4) (.seq (.ops OrInt_r5) (.cond (.slot 14) (.seq (.ops OrInt_r6) .ret) .skip)))) (.ops OrInt_r7))))
abbrev OrInt_r8 : List LOper := [
    ⟨some 17, none, .val (.move (.slot 3))⟩,
    ⟨some 2, none, .val (.move (.slot 17))⟩]
def OrInt : LFn := ⟨(.seq (.ops OrInt_r0) (.seq (.ops OrInt_r1) (.seq (.seq (.ops OrInt_r2) (.block 0 (.loop OrInt_l0))) (.seq (.ops OrInt_r8) .ret)))), 18, [.slot 2]⟩
abbrev NaNInt_r0 : List LOper := [
    ⟨some 2, none, .val (.move (.const (.bool false)))⟩]
abbrev NaNInt_r1 : List LOper := [
    ⟨some 3, none, .val (.move (.slot 0))⟩,
    ⟨some 4, none, .val (.move (.slot 0))⟩,
    ⟨some 5, none, .val (.bin .neq (.slot 3) (.slot 4))⟩,
    ⟨some 2, none, .val (.move (.slot 5))⟩]
def NaNInt : LFn := ⟨(.seq (.ops NaNInt_r0) (.seq (.ops NaNInt_r1) .ret)), 6, [.slot 2]⟩
end LB
end Go.Proofs.Ythcedfamidlbdaa
