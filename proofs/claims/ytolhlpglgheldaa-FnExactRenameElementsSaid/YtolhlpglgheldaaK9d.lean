/-
  This text holds, one behind the other: This text tells what the validity of interpretations answers in both packages. No condition.
  This text tells what the reference's validity of interpretations answers. No condition.
  This text tells what renaming the elements of an interpretation answers in the program. No condition.
-/
import Derived.Test.YtolhlpglgheldaaK9c
open Nat renaming reduceAdd → zA, reduceSub → zB, reduceLT → zC, reduceLeDiff → zD, reduceEqDiff → zE, reduceBEq → zF, reduceBneDiff → zG, reduceMul → zH
open Int renaming reduceToNat → zI, reduceNeg → zJ, reduceAdd → zK
set_option maxRecDepth 100000
set_option linter.unusedSimpArgs false
set_option linter.unusedVariables false
namespace Go.Proofs.Ytolhlpglgheldaa
open Go.RowKit
def c_impl_within : SC := (.seq (.reg [⟨some 6, none, .mv (.c (.bool false))⟩]) (.seq (.reg [⟨some 7, none, .mv (.t 0)⟩, ⟨some 8, none, .mv (.t 1)⟩, ⟨some 9, none, .bin .geq false (.t 7) (.t 8)⟩, ⟨some 10, none, .mv (.t 9)⟩, ⟨(some 11), (some (10, true)), (.mv (.t 0))⟩, ⟨(some 12), (some (10, true)), (.mv (.t 2))⟩, ⟨(some 13), (some (10, true)), (.bin .leq false (.t 11) (.t 12))⟩, ⟨some 14, none, .pick (.t 10) (.t 13) (.c (.bool false))⟩, ⟨some 6, none, .mv (.t 14)⟩]) .ret))
theorem k_impl_within : codeOf Try.prog 84 = some ⟨15, c_impl_within, [(.tmp 6)]⟩ := by kernel_rfl
theorem m_impl_within : modes 84 = ⟨[], .asis, none, false⟩ := by unfold modes; rfl
def c_spec_l1In : SC := (.seq (.reg [⟨some 6, none, .mv (.c (.bool false))⟩]) (.seq (.reg [⟨some 7, none, .mv (.t 0)⟩, ⟨some 8, none, .mv (.t 1)⟩, ⟨some 9, none, .bin .geq false (.t 7) (.t 8)⟩, ⟨some 10, none, .mv (.t 9)⟩, ⟨(some 11), (some (10, true)), (.mv (.t 0))⟩, ⟨(some 12), (some (10, true)), (.mv (.t 2))⟩, ⟨(some 13), (some (10, true)), (.bin .leq false (.t 11) (.t 12))⟩, ⟨some 14, none, .pick (.t 10) (.t 13) (.c (.bool false))⟩, ⟨some 6, none, .mv (.t 14)⟩]) .ret))
theorem k_spec_l1In : codeOf Try.prog 45 = some ⟨15, c_spec_l1In, [(.tmp 6)]⟩ := by kernel_rfl
theorem m_spec_l1In : modes 45 = ⟨[], .asis, none, false⟩ := by unfold modes; rfl
def c_impl_power : SC := (.seq (.reg [⟨some 4, none, .mv (.c (.int .i64 0))⟩]) (.seq (.reg [⟨some 5, none, .mv (.c (.int .i64 1))⟩]) (.seq (.seq (.reg [⟨some 6, none, .mv (.t 1)⟩, ⟨some 7, none, .mv (.c (.int .i64 0))⟩]) (.block 0 (.loop [1, 0, 0, 0, 0, 1, 1, 1, 0, 0, 0, 0, 0, 0] (.seq (.reg [⟨some 8, none, .bin .lss false (.t 7) (.t 6)⟩]) (.seq (.cond (.t 8) .skip (.exit 0)) (.seq (.block 1 (.reg [⟨some 9, none, .mv (.t 5)⟩, ⟨some 10, none, .mv (.t 0)⟩, ⟨some 11, none, .bin .mul false (.t 9) (.t 10)⟩, ⟨some 5, none, .mv (.t 11)⟩])) (.reg [⟨some 12, none, .bin .add false (.t 7) (.c (.int .i64 1))⟩, ⟨some 7, none, .mv (.t 12)⟩]))))))) (.seq (.reg [⟨some 13, none, .mv (.t 5)⟩, ⟨some 4, none, .mv (.t 13)⟩]) .ret))))
theorem k_impl_power : codeOf Try.prog 88 = some ⟨14, c_impl_power, [(.tmp 4)]⟩ := by kernel_rfl
theorem m_impl_power : modes 88 = ⟨[], .asis, none, false⟩ := by unfold modes; rfl
def c_spec_l10Power : SC := (.seq (.reg [⟨some 4, none, .mv (.c (.int .i64 0))⟩]) (.seq (.reg [⟨some 5, none, .mv (.c (.int .i64 1))⟩]) (.seq (.seq (.reg [⟨some 6, none, .mv (.c (.int .i64 0))⟩]) (.block 0 (.loop [1, 1, 0, 0, 0, 1, 1, 0, 0, 0, 0, 0, 0, 0, 0, 0] (.seq (.seq (.reg [⟨some 7, none, .mv (.t 6)⟩, ⟨some 8, none, .mv (.t 1)⟩, ⟨some 9, none, .bin .lss false (.t 7) (.t 8)⟩]) (.cond (.t 9) .skip (.exit 0))) (.seq (.block 1 (.reg [⟨some 12, none, .mv (.t 5)⟩, ⟨some 13, none, .mv (.t 0)⟩, ⟨some 14, none, .bin .mul false (.t 12) (.t 13)⟩, ⟨some 5, none, .mv (.t 14)⟩])) (.reg [⟨some 10, none, .mv (.t 6)⟩, ⟨some 11, none, .bin .add false (.t 10) (.c (.int .i64 1))⟩, ⟨some 6, none, .mv (.t 11)⟩])))))) (.seq (.reg [⟨some 15, none, .mv (.t 5)⟩, ⟨some 4, none, .mv (.t 15)⟩]) .ret))))
theorem k_spec_l10Power : codeOf Try.prog 82 = some ⟨16, c_spec_l10Power, [(.tmp 4)]⟩ := by kernel_rfl
theorem m_spec_l10Power : modes 82 = ⟨[], .asis, none, false⟩ := by unfold modes; rfl
def c_impl_compareTables : SC := (.seq (.reg [⟨some 2, none, .boxv 80 4 (.t 0)⟩, ⟨some 3, none, .boxv 80 4 (.t 1)⟩, ⟨some 4, none, .mv (.c (.int .i64 0))⟩]) (.seq (.dreg [[], [0], [], [2], [1, 0, 3, 2], [], [5], [], [7], [6, 5, 8, 7, 4, 1, 0, 3, 2], [4, 1, 0, 3, 2, 9, 6, 5, 8, 7], [10, 4, 1, 0, 3, 2, 9, 6, 5, 8, 7], [11, 10, 4, 1, 0, 3, 2, 9, 6, 5, 8, 7]] [⟨some 5, none, .faddr 0 (.t 2)⟩, ⟨some 6, none, .load false 1 (.t 5)⟩, ⟨some 7, none, .faddr 0 (.t 3)⟩, ⟨some 8, none, .load false 1 (.t 7)⟩, ⟨some 9, none, .call 129 [(.t 6), (.t 8)]⟩, ⟨some 10, none, .faddr 1 (.t 2)⟩, ⟨some 11, none, .load false 1 (.t 10)⟩, ⟨some 12, none, .faddr 1 (.t 3)⟩, ⟨some 13, none, .load false 1 (.t 12)⟩, ⟨some 14, none, .call 126 [(.t 11), (.t 13)]⟩, ⟨some 15, none, .mkrow 3 1 [(.int .i64 0)] 2 [(0, (.t 9)), (1, (.t 14))]⟩, ⟨some 16, none, .call 124 [(.t 15)]⟩, ⟨some 4, none, .mv (.t 16)⟩]) .ret))
theorem k_impl_compareTables : codeOf Try.prog 76 = some ⟨17, c_impl_compareTables, [(.tmp 4)]⟩ := by kernel_rfl
theorem m_impl_compareTables : modes 76 = ⟨[], .asis, none, false⟩ := by unfold modes; rfl
def c_impl_areTables : SC := (.seq (.reg [⟨some 2, none, .mv (.c (.bool false))⟩]) (.seq (.seq (.reg [⟨some 5, none, .mv (.t 0)⟩, ⟨some 6, none, .len false (.t 5)⟩, ⟨some 7, none, .mv (.c (.int .i64 0))⟩]) (.block 0 (.loop [1, 0, 0, 0, 0, 1, 1, 1, 0, 0, 0, 0, 0, 0, 0, 0, 0, 0, 0, 0, 0, 0, 0, 0, 0, 0, 0, 0, 0, 0, 0, 0, 0, 0, 0, 0, 0, 0, 0, 0] (.seq (.reg [⟨some 8, none, .bin .lss false (.t 7) (.t 6)⟩]) (.seq (.cond (.t 8) .skip (.exit 0)) (.seq (.block 1 (.seq (.reg [⟨some 9, none, .mv (.t 7)⟩, ⟨some 10, none, .iaddr 4 (.t 5) (.t 7)⟩, ⟨some 11, none, .load true 4 (.t 10)⟩, ⟨(some 4), none, (.alloc 80 [(.str ⟨#[]⟩), (.int .i64 0), (.bool false), .nil])⟩, ⟨some 3, none, .mv (.t 9)⟩, ⟨none, none, (.store 4 (.t 4) (.t 11))⟩]) (.seq (.dreg [[], [0], [1, 0], [2, 1, 0], [3, 2, 1, 0], [4, 3, 2, 1, 0], [5, 4, 3, 2, 1, 0], [6, 5, 4, 3, 2, 1, 0], [7, 6, 5, 4, 3, 2, 1, 0], [4, 3, 2, 1, 0, 8, 7, 6, 5], [9, 4, 3, 2, 1, 0, 8, 7, 6, 5], [10, 9, 4, 3, 2, 1, 0, 8, 7, 6, 5], [11, 10, 9, 4, 3, 2, 1, 0, 8, 7, 6, 5], [12, 11, 10, 9, 4, 3, 2, 1, 0, 8, 7, 6, 5], [13, 12, 11, 10, 9, 4, 3, 2, 1, 0, 8, 7, 6, 5], [13, 12, 11, 10, 9, 4, 3, 2, 1, 0, 8, 7, 6, 5], [15, 13, 12, 11, 10, 9, 4, 3, 2, 1, 0, 8, 7, 6, 5], [14, 13, 12, 11, 10, 9, 4, 3, 2, 1, 0, 8, 7, 6, 5, 16, 15], [17, 14, 13, 12, 11, 10, 9, 4, 3, 2, 1, 0, 8, 7, 6, 5, 16, 15], [13, 12, 11, 10, 9, 4, 3, 2, 1, 0, 8, 7, 6, 5], [18, 17, 14, 13, 12, 11, 10, 9, 4, 3, 2, 1, 0, 8, 7, 6, 5, 16, 15, 19], [20, 18, 17, 14, 13, 12, 11, 10, 9, 4, 3, 2, 1, 0, 8, 7, 6, 5, 16, 15, 19], [13, 12, 11, 10, 9, 4, 3, 2, 1, 0, 8, 7, 6, 5, 21, 20, 18, 17, 14, 16, 15, 19], [10, 9, 4, 3, 2, 1, 0, 8, 7, 6, 5, 22, 13, 12, 11, 21, 20, 18, 17, 14, 16, 15, 19]] [⟨some 12, none, .faddr 0 (.t 4)⟩, ⟨some 13, none, .load false 1 (.t 12)⟩, ⟨some 14, none, .call 134 [(.t 13)]⟩, ⟨some 15, none, .un .not (.t 14)⟩, ⟨some 16, none, .mv (.t 15)⟩, ⟨(some 17), (some (16, false)), (.faddr 1 (.t 4))⟩, ⟨(some 18), (some (16, false)), (.load false 1 (.t 17))⟩, ⟨(some 19), (some (16, false)), (.call 84 [(.t 18), (.c (.int .i64 0)), (.c (.int .i64 3))])⟩, ⟨(some 20), (some (16, false)), (.un .not (.t 19))⟩, ⟨some 21, none, .pick (.t 16) (.c (.bool true)) (.t 20)⟩, ⟨some 22, none, .mv (.t 21)⟩, ⟨(some 23), (some (22, false)), (.mv (.t 3))⟩, ⟨(some 24), (some (22, false)), (.bin .gtr false (.t 23) (.c (.int .i64 0)))⟩, ⟨(some 25), (some (22, false)), (.mv (.t 24))⟩, ⟨(some 26), (some (25, true)), (.mv (.t 0))⟩, ⟨(some 27), (some (25, true)), (.mv (.t 3))⟩, ⟨(some 28), (some (25, true)), (.bin .sub false (.t 27) (.c (.int .i64 1)))⟩, ⟨(some 29), (some (25, true)), (.iaddr 4 (.t 26) (.t 28))⟩, ⟨(some 30), (some (25, true)), (.load true 4 (.t 29))⟩, ⟨(some 31), (some (25, true)), (.load true 4 (.t 4))⟩, ⟨(some 32), (some (25, true)), (.call 76 [(.t 30), (.t 31)])⟩, ⟨(some 33), (some (25, true)), (.bin .geq false (.t 32) (.c (.int .i64 0)))⟩, ⟨(some 34), (some (22, false)), (.pick (.t 25) (.t 33) (.c (.bool false)))⟩, ⟨some 35, none, .pick (.t 22) (.c (.bool true)) (.t 34)⟩]) (.cond (.t 35) (.seq (.reg [⟨some 2, none, .mv (.c (.bool false))⟩]) .ret) .skip)))) (.reg [⟨some 36, none, .bin .add false (.t 7) (.c (.int .i64 1))⟩, ⟨some 7, none, .mv (.t 36)⟩]))))))) (.seq (.reg [⟨some 37, none, .mv (.t 0)⟩, ⟨some 38, none, .len false (.t 37)⟩, ⟨some 39, none, .bin .leq false (.t 38) (.c (.int .i64 12))⟩, ⟨some 2, none, .mv (.t 39)⟩]) .ret)))
theorem k_impl_areTables : codeOf Try.prog 85 = some ⟨40, c_impl_areTables, [(.tmp 2)]⟩ := by kernel_rfl
theorem m_impl_areTables : modes 85 = ⟨[], .asis, none, false⟩ := by unfold modes; rfl
def c_impl_Table_choices : SC := (.seq (.reg [⟨some 2, none, .boxv 80 4 (.t 0)⟩, ⟨some 4, none, .mv (.c (.int .i64 0))⟩]) (.seq (.seq (.reg [⟨some 5, none, .faddr 2 (.t 2)⟩, ⟨some 6, none, .load false 1 (.t 5)⟩]) (.cond (.t 6) (.seq (.reg [⟨some 4, none, .mv (.c (.int .i64 2))⟩]) .ret) .skip)) (.seq (.reg [⟨some 7, none, .mv (.t 1)⟩, ⟨some 4, none, .mv (.t 7)⟩]) .ret)))
theorem k_impl_Table_choices : codeOf Try.prog 91 = some ⟨8, c_impl_Table_choices, [(.tmp 4)]⟩ := by kernel_rfl
theorem m_impl_Table_choices : modes 91 = ⟨[], .asis, none, false⟩ := by unfold modes; rfl
def c_impl_IsValidInterpretation : SC := (.seq (.reg [⟨some 1, none, .boxv 40 2 (.t 0)⟩, ⟨some 2, none, .mv (.c (.bool false))⟩]) (.seq (.seq (.reg [⟨some 3, none, .faddr 0 (.t 1)⟩, ⟨some 4, none, .load false 1 (.t 3)⟩, ⟨some 5, none, .call 84 [(.t 4), (.c (.int .i64 1)), (.c (.int .i64 3))]⟩, ⟨some 6, none, .un .not (.t 5)⟩, ⟨some 7, none, .mv (.t 6)⟩, ⟨(some 8), (some (7, false)), (.faddr 1 (.t 1))⟩, ⟨(some 9), (some (7, false)), (.load false 1 (.t 8))⟩, ⟨(some 10), (some (7, false)), (.call 85 [(.t 9)])⟩, ⟨(some 11), (some (7, false)), (.un .not (.t 10))⟩, ⟨some 12, none, .pick (.t 7) (.c (.bool true)) (.t 11)⟩]) (.cond (.t 12) (.seq (.reg [⟨some 2, none, .mv (.c (.bool false))⟩]) .ret) .skip)) (.seq (.reg [⟨some 13, none, .faddr 1 (.t 1)⟩, ⟨some 14, none, .load false 1 (.t 13)⟩, ⟨some 15, none, .mkfn 87 [(.t 1)]⟩, ⟨some 16, none, .call 86 [(.t 14), (.t 15)]⟩, ⟨some 17, none, .un .not (.t 16)⟩, ⟨some 2, none, .mv (.t 17)⟩]) .ret)))
theorem k_impl_IsValidInterpretation : codeOf Try.prog 48 = some ⟨18, c_impl_IsValidInterpretation, [(.tmp 2)]⟩ := by kernel_rfl
theorem m_impl_IsValidInterpretation : modes 48 = ⟨[], .asis, none, false⟩ := by unfold modes; rfl
def c_impl_IsValidInterpretation_1 : SC := (.seq (.reg [⟨some 2, none, .boxv 80 4 (.t 0)⟩, ⟨some 3, none, .mv (.c (.bool false))⟩]) (.seq (.dreg [[], [0], [1, 0], [], [3], [], [5], [4, 3, 6, 5], [2, 1, 0, 7, 4, 3, 6, 5], [8, 2, 1, 0, 7, 4, 3, 6, 5], [9, 8, 2, 1, 0, 7, 4, 3, 6, 5], [10, 9, 8, 2, 1, 0, 7, 4, 3, 6, 5], [9, 8, 2, 1, 0, 7, 4, 3, 6, 5], [11, 10, 9, 8, 2, 1, 0, 7, 4, 3, 6, 5, 12], [9, 8, 2, 1, 0, 7, 4, 3, 6, 5, 13, 11, 10, 12], [14, 9, 8, 2, 1, 0, 7, 4, 3, 6, 5, 13, 11, 10, 12]] [⟨some 4, none, .faddr 3 (.t 2)⟩, ⟨some 5, none, .load false 1 (.t 4)⟩, ⟨some 6, none, .len false (.t 5)⟩, ⟨some 7, none, .faddr 0 (.t 1)⟩, ⟨some 8, none, .load false 1 (.t 7)⟩, ⟨some 9, none, .faddr 1 (.t 2)⟩, ⟨some 10, none, .load false 1 (.t 9)⟩, ⟨some 11, none, .call 88 [(.t 8), (.t 10)]⟩, ⟨some 12, none, .bin .neq false (.t 6) (.t 11)⟩, ⟨some 13, none, .mv (.t 12)⟩, ⟨(some 14), (some (13, false)), (.faddr 3 (.t 2))⟩, ⟨(some 15), (some (13, false)), (.load false 1 (.t 14))⟩, ⟨(some 16), (some (13, false)), (.mkfn 90 [(.t 2), (.t 1)])⟩, ⟨(some 17), (some (13, false)), (.call 89 [(.t 15), (.t 16)])⟩, ⟨some 18, none, .pick (.t 13) (.c (.bool true)) (.t 17)⟩, ⟨some 3, none, .mv (.t 18)⟩]) .ret))
theorem k_impl_IsValidInterpretation_1 : codeOf Try.prog 87 = some ⟨19, c_impl_IsValidInterpretation_1, [(.tmp 3)]⟩ := by kernel_rfl
theorem m_impl_IsValidInterpretation_1 : modes 87 = ⟨[], .asis, none, false⟩ := by unfold modes; rfl
def c_impl_IsValidInterpretation_1_1 : SC := (.seq (.reg [⟨some 4, none, .mv (.c (.bool false))⟩]) (.seq (.reg [⟨some 5, none, .mv (.t 0)⟩, ⟨some 6, none, .load true 4 (.t 1)⟩, ⟨some 7, none, .faddr 0 (.t 2)⟩, ⟨some 8, none, .load false 1 (.t 7)⟩, ⟨some 9, none, .call 91 [(.t 6), (.t 8)]⟩, ⟨some 10, none, .bin .sub false (.t 9) (.c (.int .i64 1))⟩, ⟨some 11, none, .call 84 [(.t 5), (.c (.int .i64 0)), (.t 10)]⟩, ⟨some 12, none, .un .not (.t 11)⟩, ⟨some 4, none, .mv (.t 12)⟩]) .ret))
theorem k_impl_IsValidInterpretation_1_1 : codeOf Try.prog 90 = some ⟨13, c_impl_IsValidInterpretation_1_1, [(.tmp 4)]⟩ := by kernel_rfl
theorem m_impl_IsValidInterpretation_1_1 : modes 90 = ⟨[], .asis, none, false⟩ := by unfold modes; rfl
theorem g_impl_IsValidInterpretation_1 : goFn Try.prog 87 = true := by kernel_rfl
theorem g_impl_IsValidInterpretation_1_1 : goFn Try.prog 90 = true := by kernel_rfl
def c_slices_IndexFunc_int_int : SC := (.seq (.reg [⟨some 4, none, .mv (.c (.int .i64 0))⟩]) (.seq (.seq (.reg [⟨some 6, none, .mv (.t 0)⟩, ⟨some 7, none, .len false (.t 6)⟩, ⟨some 8, none, .mv (.c (.int .i64 0))⟩]) (.block 0 (.loop [1, 1, 0, 0, 0, 0, 0, 1, 1, 0, 0, 0, 0, 0, 0, 0, 0, 0, 0] (.seq (.reg [⟨some 9, none, .bin .lss false (.t 8) (.t 7)⟩]) (.seq (.cond (.t 9) .skip (.exit 0)) (.seq (.block 1 (.seq (.reg [⟨some 10, none, .mv (.t 8)⟩, ⟨some 5, none, .mv (.t 10)⟩]) (.seq (.reg [⟨some 11, none, .mv (.t 1)⟩, ⟨some 12, none, .mv (.t 0)⟩, ⟨some 13, none, .mv (.t 5)⟩, ⟨some 14, none, .iaddr 1 (.t 12) (.t 13)⟩, ⟨some 15, none, .load false 1 (.t 14)⟩, ⟨some 16, none, .callv (.t 11) [(.t 15)]⟩]) (.cond (.t 16) (.seq (.reg [⟨some 17, none, .mv (.t 5)⟩, ⟨some 4, none, .mv (.t 17)⟩]) .ret) .skip)))) (.reg [⟨some 18, none, .bin .add false (.t 8) (.c (.int .i64 1))⟩, ⟨some 8, none, .mv (.t 18)⟩]))))))) (.seq (.reg [⟨some 4, none, .mv (.c (.int .i64 (-(0 + 1))))⟩]) .ret)))
theorem k_slices_IndexFunc_int_int : codeOf Try.prog 136 = some ⟨19, c_slices_IndexFunc_int_int, [(.tmp 4)]⟩ := by kernel_rfl
theorem m_slices_IndexFunc_int_int : modes 136 = ⟨[], .asis, none, false⟩ := by unfold modes; rfl
def c_slices_ContainsFunc_int_int : SC := (.seq (.reg [⟨some 4, none, .mv (.c (.bool false))⟩]) (.seq (.reg [⟨some 5, none, .mv (.t 0)⟩, ⟨some 6, none, .mv (.t 1)⟩, ⟨some 7, none, .call 136 [(.t 5), (.t 6)]⟩, ⟨some 8, none, .bin .geq false (.t 7) (.c (.int .i64 0))⟩, ⟨some 4, none, .mv (.t 8)⟩]) .ret))
theorem k_slices_ContainsFunc_int_int : codeOf Try.prog 89 = some ⟨9, c_slices_ContainsFunc_int_int, [(.tmp 4)]⟩ := by kernel_rfl
theorem m_slices_ContainsFunc_int_int : modes 89 = ⟨[], .asis, none, false⟩ := by unfold modes; rfl
def c_slices_IndexFunc_impl_Table_impl_Table : SC := (.seq (.reg [⟨some 4, none, .mv (.c (.int .i64 0))⟩]) (.seq (.seq (.reg [⟨some 6, none, .mv (.t 0)⟩, ⟨some 7, none, .len false (.t 6)⟩, ⟨some 8, none, .mv (.c (.int .i64 0))⟩]) (.block 0 (.loop [1, 1, 0, 0, 0, 0, 0, 1, 1, 0, 0, 0, 0, 0, 0, 0, 0, 0, 0] (.seq (.reg [⟨some 9, none, .bin .lss false (.t 8) (.t 7)⟩]) (.seq (.cond (.t 9) .skip (.exit 0)) (.seq (.block 1 (.seq (.reg [⟨some 10, none, .mv (.t 8)⟩, ⟨some 5, none, .mv (.t 10)⟩]) (.seq (.reg [⟨some 11, none, .mv (.t 1)⟩, ⟨some 12, none, .mv (.t 0)⟩, ⟨some 13, none, .mv (.t 5)⟩, ⟨some 14, none, .iaddr 4 (.t 12) (.t 13)⟩, ⟨some 15, none, .load true 4 (.t 14)⟩, ⟨some 16, none, .callv (.t 11) [(.t 15)]⟩]) (.cond (.t 16) (.seq (.reg [⟨some 17, none, .mv (.t 5)⟩, ⟨some 4, none, .mv (.t 17)⟩]) .ret) .skip)))) (.reg [⟨some 18, none, .bin .add false (.t 8) (.c (.int .i64 1))⟩, ⟨some 8, none, .mv (.t 18)⟩]))))))) (.seq (.reg [⟨some 4, none, .mv (.c (.int .i64 (-(0 + 1))))⟩]) .ret)))
theorem k_slices_IndexFunc_impl_Table_impl_Table : codeOf Try.prog 135 = some ⟨19, c_slices_IndexFunc_impl_Table_impl_Table, [(.tmp 4)]⟩ := by kernel_rfl
theorem m_slices_IndexFunc_impl_Table_impl_Table : modes 135 = ⟨[], .asis, none, false⟩ := by unfold modes; rfl
def c_slices_ContainsFunc_impl_Table_impl_Table : SC := (.seq (.reg [⟨some 4, none, .mv (.c (.bool false))⟩]) (.seq (.reg [⟨some 5, none, .mv (.t 0)⟩, ⟨some 6, none, .mv (.t 1)⟩, ⟨some 7, none, .call 135 [(.t 5), (.t 6)]⟩, ⟨some 8, none, .bin .geq false (.t 7) (.c (.int .i64 0))⟩, ⟨some 4, none, .mv (.t 8)⟩]) .ret))
theorem k_slices_ContainsFunc_impl_Table_impl_Table : codeOf Try.prog 86 = some ⟨9, c_slices_ContainsFunc_impl_Table_impl_Table, [(.tmp 4)]⟩ := by kernel_rfl
theorem m_slices_ContainsFunc_impl_Table_impl_Table : modes 86 = ⟨[], .asis, none, false⟩ := by unfold modes; rfl
def c_spec_l10Tables : SC := (.seq (.reg [⟨some 2, none, .mv (.c (.bool false))⟩]) (.seq (.seq (.reg [⟨some 5, none, .mv (.t 0)⟩, ⟨some 6, none, .len false (.t 5)⟩, ⟨some 7, none, .bin .gtr false (.t 6) (.c (.int .i64 12))⟩]) (.cond (.t 7) (.seq (.reg [⟨some 2, none, .mv (.c (.bool false))⟩]) .ret) .skip)) (.seq (.seq (.reg [⟨some 3, none, .mv (.c (.int .i64 0))⟩]) (.block 0 (.loop [1, 0, 0, 1, 0, 0, 0, 0, 0, 0, 0, 0, 0, 0, 0, 0, 0, 0, 0, 0, 0, 0, 0, 0, 0, 0, 0, 0, 0, 0, 0, 0, 0, 0, 0, 0, 0, 0, 0, 0, 0, 0, 0, 0, 0, 0, 0, 0, 0, 0, 0, 0, 0, 0, 0, 0, 0, 0, 0, 0, 0, 0, 0] (.seq (.seq (.reg [⟨some 8, none, .mv (.t 3)⟩, ⟨some 9, none, .mv (.t 0)⟩, ⟨some 10, none, .len false (.t 9)⟩, ⟨some 11, none, .bin .lss false (.t 8) (.t 10)⟩]) (.cond (.t 11) .skip (.exit 0))) (.seq (.block 1 (.seq (.reg [⟨some 14, none, .mv (.t 0)⟩, ⟨some 15, none, .mv (.t 3)⟩, ⟨some 16, none, .iaddr 4 (.t 14) (.t 15)⟩, ⟨some 17, none, .load true 4 (.t 16)⟩, ⟨(some 4), none, (.alloc 80 [(.str ⟨#[]⟩), (.int .i64 0), (.bool false), .nil])⟩, ⟨none, none, (.store 4 (.t 4) (.t 17))⟩]) (.seq (.seq (.reg [⟨some 18, none, .faddr 0 (.t 4)⟩, ⟨some 19, none, .load false 1 (.t 18)⟩, ⟨some 20, none, .call 118 [(.t 19)]⟩, ⟨some 21, none, .un .not (.t 20)⟩, ⟨some 22, none, .mv (.t 21)⟩, ⟨(some 23), (some (22, false)), (.faddr 1 (.t 4))⟩, ⟨(some 24), (some (22, false)), (.load false 1 (.t 23))⟩, ⟨(some 25), (some (22, false)), (.call 45 [(.t 24), (.c (.int .i64 0)), (.c (.int .i64 3))])⟩, ⟨(some 26), (some (22, false)), (.un .not (.t 25))⟩, ⟨some 27, none, .pick (.t 22) (.c (.bool true)) (.t 26)⟩]) (.cond (.t 27) (.seq (.reg [⟨some 2, none, .mv (.c (.bool false))⟩]) .ret) .skip)) (.seq (.dreg [[], [0], [1, 0], [2, 1, 0], [2, 1, 0], [4, 2, 1, 0], [3, 2, 1, 0, 5, 4], [6, 3, 2, 1, 0, 5, 4], [7, 6, 3, 2, 1, 0, 5, 4], [2, 1, 0], [9, 2, 1, 0], [8, 7, 6, 3, 2, 1, 0, 5, 4, 10, 9], [11, 8, 7, 6, 3, 2, 1, 0, 5, 4, 10, 9], [12, 11, 8, 7, 6, 3, 2, 1, 0, 5, 4, 10, 9], [12, 11, 8, 7, 6, 3, 2, 1, 0, 5, 4, 10, 9], [14, 12, 11, 8, 7, 6, 3, 2, 1, 0, 5, 4, 10, 9], [13, 12, 11, 8, 7, 6, 3, 2, 1, 0, 5, 4, 10, 9, 15, 14], [16, 13, 12, 11, 8, 7, 6, 3, 2, 1, 0, 5, 4, 10, 9, 15, 14], [17, 16, 13, 12, 11, 8, 7, 6, 3, 2, 1, 0, 5, 4, 10, 9, 15, 14], [12, 11, 8, 7, 6, 3, 2, 1, 0, 5, 4, 10, 9], [19, 12, 11, 8, 7, 6, 3, 2, 1, 0, 5, 4, 10, 9], [18, 17, 16, 13, 12, 11, 8, 7, 6, 3, 2, 1, 0, 5, 4, 10, 9, 15, 14, 20, 19], [21, 18, 17, 16, 13, 12, 11, 8, 7, 6, 3, 2, 1, 0, 5, 4, 10, 9, 15, 14, 20, 19], [22, 21, 18, 17, 16, 13, 12, 11, 8, 7, 6, 3, 2, 1, 0, 5, 4, 10, 9, 15, 14, 20, 19], [22, 21, 18, 17, 16, 13, 12, 11, 8, 7, 6, 3, 2, 1, 0, 5, 4, 10, 9, 15, 14, 20, 19], [24, 22, 21, 18, 17, 16, 13, 12, 11, 8, 7, 6, 3, 2, 1, 0, 5, 4, 10, 9, 15, 14, 20, 19], [23, 22, 21, 18, 17, 16, 13, 12, 11, 8, 7, 6, 3, 2, 1, 0, 5, 4, 10, 9, 15, 14, 20, 19, 25, 24], [26, 23, 22, 21, 18, 17, 16, 13, 12, 11, 8, 7, 6, 3, 2, 1, 0, 5, 4, 10, 9, 15, 14, 20, 19, 25, 24], [27, 26, 23, 22, 21, 18, 17, 16, 13, 12, 11, 8, 7, 6, 3, 2, 1, 0, 5, 4, 10, 9, 15, 14, 20, 19, 25, 24], [22, 21, 18, 17, 16, 13, 12, 11, 8, 7, 6, 3, 2, 1, 0, 5, 4, 10, 9, 15, 14, 20, 19], [29, 22, 21, 18, 17, 16, 13, 12, 11, 8, 7, 6, 3, 2, 1, 0, 5, 4, 10, 9, 15, 14, 20, 19], [28, 27, 26, 23, 22, 21, 18, 17, 16, 13, 12, 11, 8, 7, 6, 3, 2, 1, 0, 5, 4, 10, 9, 15, 14, 20, 19, 25, 24, 30, 29], [22, 21, 18, 17, 16, 13, 12, 11, 8, 7, 6, 3, 2, 1, 0, 5, 4, 10, 9, 15, 14, 20, 19, 31, 28, 27, 26, 23, 25, 24, 30, 29], [12, 11, 8, 7, 6, 3, 2, 1, 0, 5, 4, 10, 9, 32, 22, 21, 18, 17, 16, 13, 15, 14, 20, 19, 31, 28, 27, 26, 23, 25, 24, 30, 29], [2, 1, 0, 33, 12, 11, 8, 7, 6, 3, 5, 4, 10, 9, 32, 22, 21, 18, 17, 16, 13, 15, 14, 20, 19, 31, 28, 27, 26, 23, 25, 24, 30, 29]] [⟨some 28, none, .mv (.t 3)⟩, ⟨some 29, none, .bin .gtr false (.t 28) (.c (.int .i64 0))⟩, ⟨some 30, none, .mv (.t 29)⟩, ⟨(some 31), (some (30, true)), (.mv (.t 0))⟩, ⟨(some 32), (some (30, true)), (.mv (.t 3))⟩, ⟨(some 33), (some (30, true)), (.bin .sub false (.t 32) (.c (.int .i64 1)))⟩, ⟨(some 34), (some (30, true)), (.iaddr 4 (.t 31) (.t 33))⟩, ⟨(some 35), (some (30, true)), (.faddr 0 (.t 34))⟩, ⟨(some 36), (some (30, true)), (.load false 1 (.t 35))⟩, ⟨(some 37), (some (30, true)), (.faddr 0 (.t 4))⟩, ⟨(some 38), (some (30, true)), (.load false 1 (.t 37))⟩, ⟨(some 39), (some (30, true)), (.bin .gtr false (.t 36) (.t 38))⟩, ⟨(some 40), (some (30, true)), (.mv (.t 39))⟩, ⟨(some 41), (some (40, false)), (.mv (.t 0))⟩, ⟨(some 42), (some (40, false)), (.mv (.t 3))⟩, ⟨(some 43), (some (40, false)), (.bin .sub false (.t 42) (.c (.int .i64 1)))⟩, ⟨(some 44), (some (40, false)), (.iaddr 4 (.t 41) (.t 43))⟩, ⟨(some 45), (some (40, false)), (.faddr 0 (.t 44))⟩, ⟨(some 46), (some (40, false)), (.load false 1 (.t 45))⟩, ⟨(some 47), (some (40, false)), (.faddr 0 (.t 4))⟩, ⟨(some 48), (some (40, false)), (.load false 1 (.t 47))⟩, ⟨(some 49), (some (40, false)), (.bin .eql false (.t 46) (.t 48))⟩, ⟨(some 50), (some (40, false)), (.mv (.t 49))⟩, ⟨(some 51), (some (50, true)), (.mv (.t 0))⟩, ⟨(some 52), (some (50, true)), (.mv (.t 3))⟩, ⟨(some 53), (some (50, true)), (.bin .sub false (.t 52) (.c (.int .i64 1)))⟩, ⟨(some 54), (some (50, true)), (.iaddr 4 (.t 51) (.t 53))⟩, ⟨(some 55), (some (50, true)), (.faddr 1 (.t 54))⟩, ⟨(some 56), (some (50, true)), (.load false 1 (.t 55))⟩, ⟨(some 57), (some (50, true)), (.faddr 1 (.t 4))⟩, ⟨(some 58), (some (50, true)), (.load false 1 (.t 57))⟩, ⟨(some 59), (some (50, true)), (.bin .geq false (.t 56) (.t 58))⟩, ⟨(some 60), (some (40, false)), (.pick (.t 50) (.t 59) (.c (.bool false)))⟩, ⟨(some 61), (some (30, true)), (.pick (.t 40) (.c (.bool true)) (.t 60))⟩, ⟨some 62, none, .pick (.t 30) (.t 61) (.c (.bool false))⟩]) (.cond (.t 62) (.seq (.reg [⟨some 2, none, .mv (.c (.bool false))⟩]) .ret) .skip))))) (.reg [⟨some 12, none, .mv (.t 3)⟩, ⟨some 13, none, .bin .add false (.t 12) (.c (.int .i64 1))⟩, ⟨some 3, none, .mv (.t 13)⟩])))))) (.seq (.reg [⟨some 2, none, .mv (.c (.bool true))⟩]) .ret))))
theorem k_spec_l10Tables : codeOf Try.prog 81 = some ⟨63, c_spec_l10Tables, [(.tmp 2)]⟩ := by kernel_rfl
theorem m_spec_l10Tables : modes 81 = ⟨[], .asis, none, false⟩ := by unfold modes; rfl
def c_spec_l10Good : SC := (.seq (.reg [⟨some 1, none, .boxv 40 2 (.t 0)⟩, ⟨some 2, none, .mv (.c (.bool false))⟩]) (.seq (.seq (.reg [⟨some 7, none, .faddr 0 (.t 1)⟩, ⟨some 8, none, .load false 1 (.t 7)⟩, ⟨some 9, none, .call 45 [(.t 8), (.c (.int .i64 1)), (.c (.int .i64 3))]⟩, ⟨some 10, none, .un .not (.t 9)⟩, ⟨some 11, none, .mv (.t 10)⟩, ⟨(some 12), (some (11, false)), (.faddr 1 (.t 1))⟩, ⟨(some 13), (some (11, false)), (.load false 1 (.t 12))⟩, ⟨(some 14), (some (11, false)), (.call 81 [(.t 13)])⟩, ⟨(some 15), (some (11, false)), (.un .not (.t 14))⟩, ⟨some 16, none, .pick (.t 11) (.c (.bool true)) (.t 15)⟩]) (.cond (.t 16) (.seq (.reg [⟨some 2, none, .mv (.c (.bool false))⟩]) .ret) .skip)) (.seq (.seq (.reg [⟨some 3, none, .mv (.c (.int .i64 0))⟩]) (.block 0 (.loop [0, 1, 0, 1, 0, 0, 0, 0, 0, 0, 0, 0, 0, 0, 0, 0, 0, 0, 0, 0, 0, 0, 0, 0, 0, 0, 0, 0, 0, 0, 0, 0, 0, 0, 0, 0, 0, 0, 0, 0, 0, 0, 0, 0, 0, 0, 0, 0, 0, 0, 0, 0, 0, 0, 0, 0, 0, 0] (.seq (.seq (.reg [⟨some 17, none, .mv (.t 3)⟩, ⟨some 18, none, .faddr 1 (.t 1)⟩, ⟨some 19, none, .load false 1 (.t 18)⟩, ⟨some 20, none, .len false (.t 19)⟩, ⟨some 21, none, .bin .lss false (.t 17) (.t 20)⟩]) (.cond (.t 21) .skip (.exit 0))) (.seq (.block 1 (.seq (.reg [⟨some 24, none, .faddr 1 (.t 1)⟩, ⟨some 25, none, .load false 1 (.t 24)⟩, ⟨some 26, none, .mv (.t 3)⟩, ⟨some 27, none, .iaddr 4 (.t 25) (.t 26)⟩, ⟨some 28, none, .load true 4 (.t 27)⟩, ⟨(some 4), none, (.alloc 80 [(.str ⟨#[]⟩), (.int .i64 0), (.bool false), .nil])⟩, ⟨none, none, (.store 4 (.t 4) (.t 28))⟩]) (.seq (.reg [⟨some 29, none, .faddr 0 (.t 1)⟩, ⟨some 30, none, .load false 1 (.t 29)⟩, ⟨some 31, none, .bin .sub false (.t 30) (.c (.int .i64 1))⟩, ⟨some 5, none, .mv (.t 31)⟩]) (.seq (.seq (.reg [⟨some 32, none, .faddr 2 (.t 4)⟩, ⟨some 33, none, .load false 1 (.t 32)⟩]) (.cond (.t 33) (.reg [⟨some 5, none, .mv (.c (.int .i64 1))⟩]) .skip)) (.seq (.seq (.dreg [[], [0], [1, 0], [], [3], [], [5], [4, 3, 6, 5], [2, 1, 0, 7, 4, 3, 6, 5]] [⟨some 34, none, .faddr 3 (.t 4)⟩, ⟨some 35, none, .load false 1 (.t 34)⟩, ⟨some 36, none, .len false (.t 35)⟩, ⟨some 37, none, .faddr 0 (.t 1)⟩, ⟨some 38, none, .load false 1 (.t 37)⟩, ⟨some 39, none, .faddr 1 (.t 4)⟩, ⟨some 40, none, .load false 1 (.t 39)⟩, ⟨some 41, none, .call 82 [(.t 38), (.t 40)]⟩, ⟨some 42, none, .bin .neq false (.t 36) (.t 41)⟩]) (.cond (.t 42) (.seq (.reg [⟨some 2, none, .mv (.c (.bool false))⟩]) .ret) .skip)) (.seq (.reg [⟨some 6, none, .mv (.c (.int .i64 0))⟩]) (.block 2 (.loop [0, 1, 0, 1, 1, 1, 1, 0, 0, 0, 0, 0, 0, 0, 0, 0, 0, 0, 0, 0, 0, 0, 0, 0, 0, 0, 0, 0, 0, 0, 0, 0, 0, 0, 0, 0, 0, 0, 0, 0, 0, 0, 0, 0, 0, 0, 0, 0, 0, 0, 0, 0, 0, 0, 0, 0, 0, 0] (.seq (.seq (.reg [⟨some 43, none, .mv (.t 6)⟩, ⟨some 44, none, .faddr 3 (.t 4)⟩, ⟨some 45, none, .load false 1 (.t 44)⟩, ⟨some 46, none, .len false (.t 45)⟩, ⟨some 47, none, .bin .lss false (.t 43) (.t 46)⟩]) (.cond (.t 47) .skip (.exit 2))) (.seq (.block 3 (.seq (.reg [⟨some 50, none, .faddr 3 (.t 4)⟩, ⟨some 51, none, .load false 1 (.t 50)⟩, ⟨some 52, none, .mv (.t 6)⟩, ⟨some 53, none, .iaddr 1 (.t 51) (.t 52)⟩, ⟨some 54, none, .load false 1 (.t 53)⟩, ⟨some 55, none, .mv (.t 5)⟩, ⟨some 56, none, .call 45 [(.t 54), (.c (.int .i64 0)), (.t 55)]⟩, ⟨some 57, none, .un .not (.t 56)⟩]) (.cond (.t 57) (.seq (.reg [⟨some 2, none, .mv (.c (.bool false))⟩]) .ret) .skip))) (.reg [⟨some 48, none, .mv (.t 6)⟩, ⟨some 49, none, .bin .add false (.t 48) (.c (.int .i64 1))⟩, ⟨some 6, none, .mv (.t 49)⟩]))))))))))) (.reg [⟨some 22, none, .mv (.t 3)⟩, ⟨some 23, none, .bin .add false (.t 22) (.c (.int .i64 1))⟩, ⟨some 3, none, .mv (.t 23)⟩])))))) (.seq (.reg [⟨some 2, none, .mv (.c (.bool true))⟩]) .ret))))
theorem k_spec_l10Good : codeOf Try.prog 44 = some ⟨58, c_spec_l10Good, [(.tmp 2)]⟩ := by kernel_rfl
theorem m_spec_l10Good : modes 44 = ⟨[], .asis, none, false⟩ := by unfold modes; rfl
theorem within_E (x lo hi : Int) : E 84 [.int .i64 x, .int .i64 lo, .int .i64 hi] [] = some (.bool (inI x lo hi), []) := by
  unfold inI
  cases h : dec (lo ≤ x) with
  | false =>
    rw [Bool.false_and]
    refine E_walk k_impl_within m_impl_within (of_decide_eq_true rfl) ?_
    simp (disch := omega) only [c_impl_within, go_sem, go_cond, zA, zB, zC, zD, zE, zF, zG, zH, ↓reduceIte, zI, reduceCtorEq, zJ, zK, h]
  | true =>
    rw [Bool.true_and]
    refine E_walk k_impl_within m_impl_within (of_decide_eq_true rfl) ?_
    simp (disch := omega) only [c_impl_within, go_sem, go_cond, zA, zB, zC, zD, zE, zF, zG, zH, ↓reduceIte, zI, reduceCtorEq, zJ, zK, h]
theorem l1In_E (x lo hi : Int) : E 45 [.int .i64 x, .int .i64 lo, .int .i64 hi] [] = some (.bool (inI x lo hi), []) := by
  unfold inI
  cases h : dec (lo ≤ x) with
  | false =>
    rw [Bool.false_and]
    refine E_walk k_spec_l1In m_spec_l1In (of_decide_eq_true rfl) ?_
    simp (disch := omega) only [c_spec_l1In, go_sem, go_cond, zA, zB, zC, zD, zE, zF, zG, zH, ↓reduceIte, zI, reduceCtorEq, zJ, zK, h]
  | true =>
    rw [Bool.true_and]
    refine E_walk k_spec_l1In m_spec_l1In (of_decide_eq_true rfl) ?_
    simp (disch := omega) only [c_spec_l1In, go_sem, go_cond, zA, zB, zC, zD, zE, zF, zG, zH, ↓reduceIte, zI, reduceCtorEq, zJ, zK, h]
theorem power_E (b k : Int) (h1 : 1 ≤ b) (h3 : b ≤ 3) (h0 : 0 ≤ k) (hk : k ≤ 12) : E 88 [.int .i64 b, .int .i64 k] [] = some (.int .i64 (pw b k.toNat), []) := by
  refine E_walk k_impl_power m_impl_power (of_decide_eq_true rfl) ?_
  simp (disch := omega) only [c_impl_power, go_sem, go_cond, zA, zB, zC, zD, zE, zF, zG, zH, ↓reduceIte, zI, reduceCtorEq, zJ, zK]
  refine go_loop (α := Int) (fun i => ⟨slots 14 0 [(0, .int .i64 b), (5, .int .i64 (pw b i.toNat)), (6, .int .i64 k), (7, .int .i64 i)], []⟩) (fun i => 0 ≤ i ∧ i ≤ k) (fun i => (k - i).toNat) 0 ⟨Int.le_refl 0, h0⟩ (by simp (disch := omega) only [go_sem, go_cond, zA, zB, zC, zD, zE, zF, zG, zH, ↓reduceIte, zI, reduceCtorEq, zJ, zK, Int.toNat_zero, pw]) ?_
  rintro i ⟨hi0, hi1⟩
  rcases Int.lt_or_le i k with hlt | hge
  · have hn : (i + 1).toNat = i.toNat + 1 := by omega
    have hp := pw_small h1 h3 (k := i.toNat + 1) (by omega)
    rw [pw] at hp
    simp (disch := omega) only [go_sem, go_cond, zA, zB, zC, zD, zE, zF, zG, zH, ↓reduceIte, zI, reduceCtorEq, zJ, zK]
    refine ⟨i + 1, ⟨by omega, by omega⟩, by omega, ?_⟩
    simp only [hn, pw, and_self]
  · obtain rfl : i = k := by omega
    simp (disch := omega) only [go_sem, go_cond, zA, zB, zC, zD, zE, zF, zG, zH, ↓reduceIte, zI, reduceCtorEq, zJ, zK]
theorem l10Power_E (b k : Int) (h1 : 1 ≤ b) (h3 : b ≤ 3) (h0 : 0 ≤ k) (hk : k ≤ 12) : E 82 [.int .i64 b, .int .i64 k] [] = some (.int .i64 (pw b k.toNat), []) := by
  refine E_walk k_spec_l10Power m_spec_l10Power (of_decide_eq_true rfl) ?_
  simp (disch := omega) only [c_spec_l10Power, go_sem, go_cond, zA, zB, zC, zD, zE, zF, zG, zH, ↓reduceIte, zI, reduceCtorEq, zJ, zK]
  refine go_loop (α := Int) (fun i => ⟨slots 16 0 [(0, .int .i64 b), (1, .int .i64 k), (5, .int .i64 (pw b i.toNat)), (6, .int .i64 i)], []⟩) (fun i => 0 ≤ i ∧ i ≤ k) (fun i => (k - i).toNat) 0 ⟨Int.le_refl 0, h0⟩ (by simp (disch := omega) only [go_sem, go_cond, zA, zB, zC, zD, zE, zF, zG, zH, ↓reduceIte, zI, reduceCtorEq, zJ, zK, Int.toNat_zero, pw]) ?_
  rintro i ⟨hi0, hi1⟩
  rcases Int.lt_or_le i k with hlt | hge
  · have hn : (i + 1).toNat = i.toNat + 1 := by omega
    have hp := pw_small h1 h3 (k := i.toNat + 1) (by omega)
    rw [pw] at hp
    simp (disch := omega) only [go_sem, go_cond, zA, zB, zC, zD, zE, zF, zG, zH, ↓reduceIte, zI, reduceCtorEq, zJ, zK]
    refine ⟨i + 1, ⟨by omega, by omega⟩, by omega, ?_⟩
    simp only [hn, pw, and_self]
  · obtain rfl : i = k := by omega
    simp (disch := omega) only [go_sem, go_cond, zA, zB, zC, zD, zE, zF, zG, zH, ↓reduceIte, zI, reduceCtorEq, zJ, zK]
theorem compareTables_E (x y : Tl) : E 76 [x.sv, y.sv] [] = some (.int .i64 (orZ (cmpB x.name y.name) (cmpI x.arity y.arity)), []) := by
  have h1 := compareS_E x.name y.name
  have h2 := compareI_E x.arity y.arity
  have h3 := or2_E (cmpB x.name y.name) (cmpI x.arity y.arity)
  refine E_walk k_impl_compareTables m_impl_compareTables (of_decide_eq_true rfl) ?_
  simp (disch := omega) only [c_impl_compareTables, go_sem, go_cond, zA, zB, zC, zD, zE, zF, zG, zH, ↓reduceIte, zI, reduceCtorEq, zJ, zK, h1, h2, h3, m_cmp_Compare_string, m_cmp_Compare_int, m_cmp_Or_int]
theorem keyLt_cmp (x y : Tl) : keyLt x y = dec (orZ (cmpB x.name y.name) (cmpI x.arity y.arity) < 0) := by
  unfold keyLt cmpB
  cases h1 : strLt x.name y.name with
  | true =>
    rw [Bool.true_or, cond_true, orZ, if_neg (by omega)]
    exact (dec_t (by omega)).symm
  | false =>
    rw [Bool.false_or, cond_false]
    cases h2 : dec (x.name = y.name) with
    | false =>
      rw [Bool.false_and, cond_false, orZ, if_neg (by omega)]
      exact (dec_f (by omega)).symm
    | true =>
      rw [Bool.true_and, cond_true, orZ, if_pos rfl, cmpI]
      cases h3 : dec (x.arity < y.arity) with
      | true => rw [cond_true]; exact (dec_t (by omega)).symm
      | false =>
        rw [cond_false]
        cases dec (y.arity < x.arity) with
        | true => rw [cond_true]; exact (dec_f (by omega)).symm
        | false => rw [cond_false]; exact (dec_f (by omega)).symm
set_option maxHeartbeats 4000000 in
theorem areTables_E (xs : List Tl) (hl : xs.length ≤ 1099511627776) : E 85 [.arr (xs.map Tl.d)] [] = some (.bool (tabsB xs), []) := by
  refine E_walk k_impl_areTables m_impl_areTables (of_decide_eq_true rfl) ?_
  simp (disch := omega) only [c_impl_areTables, go_sem, go_cond, zA, zB, zC, zD, zE, zF, zG, zH, ↓reduceIte, zI, reduceCtorEq, zJ, zK]
  refine go_loop (α := Int) (fun a => ⟨slots 40 0 [(0, .arr (xs.map Tl.d)), (5, .arr (xs.map Tl.d)), (6, .int .i64 xs.length), (7, .int .i64 a)], []⟩) (fun a => ∃ k : Nat, a = k ∧ k ≤ (xs).length ∧ allTo (tlAt xs) k = true) (fun a => (xs).length - (a).toNat) 0 ⟨0, rfl, Nat.zero_le _, by rw [allTo]⟩ (by simp (disch := omega) only [go_sem, go_cond, zA, zB, zC, zD, zE, zF, zG, zH, ↓reduceIte, zI, reduceCtorEq, zJ, zK]) ?_
  rintro i ⟨k, hi, hk, hR⟩
  have hni : i.toNat = k := by omega
  have hni1 : (i + 1).toNat = k + 1 := by omega
  rcases Nat.lt_or_ge k (xs).length with hlt | hge
  · have hg := get_at Tl.d hlt
    rw [Tl.d_eq] at hg
    have hs := isSymbol_E xs[k].name
    have hw := within_E xs[k].arity 0 3
    have no : tlAt xs k = false → tabsB xs = false := fun h => by unfold tabsB; rw [allTo_no h hlt, Bool.false_and]
    cases ha : symB xs[k].name with
    | false =>
      rw [ha] at hs
      rw [no (by cases k with | zero => rw [tlAt_zero hlt, ha, Bool.false_and] | succ j => rw [tlAt_succ hlt, ha, Bool.false_and])]
      simp (disch := omega) only [go_sem, go_cond, zA, zB, zC, zD, zE, zF, zG, zH, ↓reduceIte, zI, reduceCtorEq, zJ, zK, hni, hg, hs, hw, m_impl_isSymbol, m_impl_within, m_impl_compareTables]
    | true =>
      rw [ha] at hs
      cases hb : inI xs[k].arity 0 3 with
      | false =>
        rw [hb] at hw
        rw [no (by cases k with | zero => rw [tlAt_zero hlt, hb, Bool.and_false] | succ j => rw [tlAt_succ hlt, hb, Bool.false_and, Bool.and_false])]
        simp (disch := omega) only [go_sem, go_cond, zA, zB, zC, zD, zE, zF, zG, zH, ↓reduceIte, zI, reduceCtorEq, zJ, zK, hni, hg, hs, hw, m_impl_isSymbol, m_impl_within, m_impl_compareTables]
      | true =>
        rw [hb] at hw
        cases k with
        | zero =>
          obtain rfl : i = 0 := hi
          simp (disch := omega) only [go_sem, go_cond, zA, zB, zC, zD, zE, zF, zG, zH, ↓reduceIte, zI, reduceCtorEq, zJ, zK, hni, hg, hs, hw, m_impl_isSymbol, m_impl_within, m_impl_compareTables]
          exact ⟨1, ⟨1, rfl, hlt, by rw [allTo, hR, tlAt_zero hlt, ha, hb]; rfl⟩, by omega, by first | trivial | rfl⟩
        | succ j =>
          have hj : j < xs.length := by omega
          have hg2 := get_at Tl.d hj
          rw [Tl.d_eq] at hg2
          have hni2 : (i - 1).toNat = j := by omega
          have hc := compareTables_E xs[j] xs[j + 1]
          have hk2 := keyLt_cmp xs[j] xs[j + 1]
          generalize orZ (cmpB xs[j].name xs[j + 1].name) (cmpI xs[j].arity xs[j + 1].arity) = cz at *
          rcases Int.lt_or_le cz 0 with hq | hq
          · simp (disch := omega) only [go_sem, go_cond, zA, zB, zC, zD, zE, zF, zG, zH, ↓reduceIte, zI, reduceCtorEq, zJ, zK, hni, hg, hs, hw, m_impl_isSymbol, m_impl_within, m_impl_compareTables, hni2, hg2, hc]
            exact ⟨i + 1, ⟨j + 1 + 1, by omega, hlt, by rw [allTo, hR, tlAt_succ hlt, ha, hb, hk2, dec_t hq]; rfl⟩, by omega, by first | trivial | rfl⟩
          · rw [no (by rw [tlAt_succ hlt, ha, hb, hk2, dec_f (by omega)]; rfl)]
            simp (disch := omega) only [go_sem, go_cond, zA, zB, zC, zD, zE, zF, zG, zH, ↓reduceIte, zI, reduceCtorEq, zJ, zK, hni, hg, hs, hw, m_impl_isSymbol, m_impl_within, m_impl_compareTables, hni2, hg2, hc]
  · obtain rfl : k = xs.length := by omega
    simp (disch := omega) only [go_sem, go_cond, zA, zB, zC, zD, zE, zF, zG, zH, ↓reduceIte, zI, reduceCtorEq, zJ, zK, hni]
    unfold tabsB
    rw [hR, Bool.true_and, dec_of]
    exact decide_eq_decide.2 (by omega)
theorem choices_E (t : Tl) (sz : Int) : E 91 [t.sv, .int .i64 sz] [] = some (.int .i64 (kinds sz t), []) := by
  unfold kinds
  cases h : t.pred with
  | false =>
    refine E_walk k_impl_Table_choices m_impl_Table_choices (of_decide_eq_true rfl) ?_
    simp (disch := omega) only [c_impl_Table_choices, go_sem, go_cond, zA, zB, zC, zD, zE, zF, zG, zH, ↓reduceIte, zI, reduceCtorEq, zJ, zK, h]
    try rfl
  | true =>
    refine E_walk k_impl_Table_choices m_impl_Table_choices (of_decide_eq_true rfl) ?_
    simp (disch := omega) only [c_impl_Table_choices, go_sem, go_cond, zA, zB, zC, zD, zE, zF, zG, zH, ↓reduceIte, zI, reduceCtorEq, zJ, zK, h]
    try rfl
set_option maxHeartbeats 2000000 in
theorem inVals_E (m : Ip) (t : Tl) (hs : 1 ≤ m.size ∧ m.size ≤ 3) (v : Int) : E 90 [.int .i64 v, .ptr 0 0, .ptr 1 0] [.box 80 [.str t.name, .int .i64 t.arity, .bool t.pred, .arr (t.vals.map fun n => [D.int n])], .box 40 [.int .i64 m.size, .arr (m.tables.map Tl.d)]] = some (.bool (!inI v 0 (kinds m.size t - 1)), [.box 80 [.str t.name, .int .i64 t.arity, .bool t.pred, .arr (t.vals.map fun n => [D.int n])], .box 40 [.int .i64 m.size, .arr (m.tables.map Tl.d)]]) := by
  have h1 := choices_E t m.size
  have h2 := within_E v 0 (kinds m.size t - 1)
  have h3 : 1 ≤ kinds m.size t ∧ kinds m.size t ≤ 3 := by unfold kinds; split <;> omega
  refine E_walk k_impl_IsValidInterpretation_1_1 m_impl_IsValidInterpretation_1_1 (of_decide_eq_true rfl) ?_
  simp (disch := omega) only [c_impl_IsValidInterpretation_1_1, go_sem, go_cond, zA, zB, zC, zD, zE, zF, zG, zH, ↓reduceIte, zI, reduceCtorEq, zJ, zK, h1, h2, m_impl_within, m_impl_Table_choices]
set_option maxHeartbeats 2000000 in
theorem indexInt_E (m : Ip) (t : Tl) (hs : 1 ≤ m.size ∧ m.size ≤ 3) (xs : List Int) (hl : xs.length ≤ 1099511627776) : E 136 [.arr (xs.map (fun n => [D.int n])), .fn 90 [.ptr 0 0, .ptr 1 0]] [.box 80 [.str t.name, .int .i64 t.arity, .bool t.pred, .arr (t.vals.map fun n => [D.int n])], .box 40 [.int .i64 m.size, .arr (m.tables.map Tl.d)]] = some (.int .i64 (idxP (fun v => !inI v 0 (kinds m.size t - 1)) xs 0), [.box 80 [.str t.name, .int .i64 t.arity, .bool t.pred, .arr (t.vals.map fun n => [D.int n])], .box 40 [.int .i64 m.size, .arr (m.tables.map Tl.d)]]) := by
  have hE := inVals_E m t hs
  generalize hpp : (fun v : Int => !inI v 0 (kinds m.size t - 1)) = p at *
  have hpe : ∀ v : Int, (!inI v 0 (kinds m.size t - 1)) = p v := fun v => by rw [← hpp]
  refine E_walk k_slices_IndexFunc_int_int m_slices_IndexFunc_int_int (of_decide_eq_true rfl) ?_
  simp (disch := omega) only [c_slices_IndexFunc_int_int, go_sem, go_cond, zA, zB, zC, zD, zE, zF, zG, zH, ↓reduceIte, zI, reduceCtorEq, zJ, zK]
  refine go_loop (α := Int) (fun a => ⟨slots 19 0 [(0, .arr (xs.map (fun n => [D.int n]))), (1, .fn 90 [.ptr 0 0, .ptr 1 0]), (7, .int .i64 xs.length), (8, .int .i64 a)], [.box 80 [.str t.name, .int .i64 t.arity, .bool t.pred, .arr (t.vals.map fun n => [D.int n])], .box 40 [.int .i64 m.size, .arr (m.tables.map Tl.d)]]⟩) (fun a => ∃ k : Nat, a = k ∧ k ≤ (xs).length ∧ idxP p (xs.drop k) a = idxP p xs 0) (fun a => (xs).length - (a).toNat) 0 ⟨0, rfl, Nat.zero_le _, by rw [List.drop_zero]⟩ (by simp (disch := omega) only [go_sem, go_cond, zA, zB, zC, zD, zE, zF, zG, zH, ↓reduceIte, zI, reduceCtorEq, zJ, zK]) ?_
  rintro i ⟨k, hi, hk, hR⟩
  have hni : i.toNat = k := by omega
  have hni1 : (i + 1).toNat = k + 1 := by omega
  rcases Nat.lt_or_ge k (xs).length with hlt | hge
  · have hg' := get_at (fun n => [D.int n]) hlt
    have hc := hE xs[k]
    rw [hpe] at hc
    rw [List.drop_eq_getElem_cons hlt, idxP] at hR
    cases hp : p xs[k] with
    | true =>
      rw [hp] at hc hR
      simp (disch := omega) only [go_sem, go_cond, zA, zB, zC, zD, zE, zF, zG, zH, ↓reduceIte, zI, reduceCtorEq, zJ, zK, hni, hg', hc, g_impl_IsValidInterpretation_1_1, m_impl_IsValidInterpretation_1_1]
      simpa using hR
    | false =>
      rw [hp] at hc hR
      simp (disch := omega) only [go_sem, go_cond, zA, zB, zC, zD, zE, zF, zG, zH, ↓reduceIte, zI, reduceCtorEq, zJ, zK, hni, hg', hc, g_impl_IsValidInterpretation_1_1, m_impl_IsValidInterpretation_1_1]
      exact ⟨i + 1, ⟨k + 1, by omega, hlt, by simpa using hR⟩, by omega, by first | trivial | rfl⟩
  · rw [List.drop_eq_nil_of_le hge, idxP] at hR
    simp (disch := omega) only [go_sem, go_cond, zA, zB, zC, zD, zE, zF, zG, zH, ↓reduceIte, zI, reduceCtorEq, zJ, zK, hni]
    exact hR
theorem containsInt_E (m : Ip) (t : Tl) (hs : 1 ≤ m.size ∧ m.size ≤ 3) (xs : List Int) (hl : xs.length ≤ 1099511627776) : E 89 [.arr (xs.map (fun n => [D.int n])), .fn 90 [.ptr 0 0, .ptr 1 0]] [.box 80 [.str t.name, .int .i64 t.arity, .bool t.pred, .arr (t.vals.map fun n => [D.int n])], .box 40 [.int .i64 m.size, .arr (m.tables.map Tl.d)]] = some (.bool (xs.any fun v => !inI v 0 (kinds m.size t - 1)), [.box 80 [.str t.name, .int .i64 t.arity, .bool t.pred, .arr (t.vals.map fun n => [D.int n])], .box 40 [.int .i64 m.size, .arr (m.tables.map Tl.d)]]) := by
  have h := indexInt_E m t hs xs hl
  refine E_walk k_slices_ContainsFunc_int_int m_slices_ContainsFunc_int_int (of_decide_eq_true rfl) ?_
  simp (disch := omega) only [c_slices_ContainsFunc_int_int, go_sem, go_cond, zA, zB, zC, zD, zE, zF, zG, zH, ↓reduceIte, zI, reduceCtorEq, zJ, zK, h, m_slices_IndexFunc_int_int]
  rw [idxP_any]
set_option maxHeartbeats 2000000 in
theorem badTable_E (m : Ip) (t : Tl) (hs : 1 ≤ m.size ∧ m.size ≤ 3) (ha : 0 ≤ t.arity ∧ t.arity ≤ 3) (hl : t.vals.length ≤ 1099511627776) : E 87 [t.sv, .ptr 0 0] [.box 40 [.int .i64 m.size, .arr (m.tables.map Tl.d)]] = some (.bool (!tlB m.size t), [.box 40 [.int .i64 m.size, .arr (m.tables.map Tl.d)]]) := by
  have h1 := power_E m.size t.arity hs.1 hs.2 ha.1 (by omega)
  have h2 := containsInt_E m t hs t.vals hl
  have hall : (t.vals.any fun v => !inI v 0 (kinds m.size t - 1)) = !(t.vals.all fun v => inI v 0 (kinds m.size t - 1)) := by
    induction t.vals with
    | nil => rfl
    | cons a l ih => rw [List.any_cons, List.all_cons, ih, Bool.not_and]
  rw [hall] at h2
  have hp := pw_small hs.1 hs.2 (k := t.arity.toNat) (by omega)
  unfold tlB
  cases hd : dec ((t.vals.length : Int) = pw m.size t.arity.toNat) with
  | false =>
    rw [Bool.false_and]
    refine E_walk k_impl_IsValidInterpretation_1 m_impl_IsValidInterpretation_1 (of_decide_eq_true rfl) ?_
    simp (disch := omega) only [c_impl_IsValidInterpretation_1, go_sem, go_cond, zA, zB, zC, zD, zE, zF, zG, zH, ↓reduceIte, zI, reduceCtorEq, zJ, zK, h1, h2, hd, m_impl_power, m_slices_ContainsFunc_int_int, g_impl_IsValidInterpretation_1_1]
  | true =>
    rw [Bool.true_and]
    refine E_walk k_impl_IsValidInterpretation_1 m_impl_IsValidInterpretation_1 (of_decide_eq_true rfl) ?_
    simp (disch := omega) only [c_impl_IsValidInterpretation_1, go_sem, go_cond, zA, zB, zC, zD, zE, zF, zG, zH, ↓reduceIte, zI, reduceCtorEq, zJ, zK, h1, h2, hd, m_impl_power, m_slices_ContainsFunc_int_int, g_impl_IsValidInterpretation_1_1]
set_option maxHeartbeats 2000000 in
theorem indexTab_E (m : Ip) (hs : 1 ≤ m.size ∧ m.size ≤ 3) (xs : List Tl) (hx : ∀ t ∈ xs, (0 ≤ t.arity ∧ t.arity ≤ 3) ∧ t.vals.length ≤ 1099511627776) (hl : xs.length ≤ 1099511627776) : E 135 [.arr (xs.map Tl.d), .fn 87 [.ptr 0 0]] [.box 40 [.int .i64 m.size, .arr (m.tables.map Tl.d)]] = some (.int .i64 (idxP (fun t => !tlB m.size t) xs 0), [.box 40 [.int .i64 m.size, .arr (m.tables.map Tl.d)]]) := by
  have hE := fun t (ht : t ∈ xs) => badTable_E m t hs (hx t ht).1 (hx t ht).2
  generalize hpp : (fun t : Tl => !tlB m.size t) = p at *
  have hpe : ∀ t, (!tlB m.size t) = p t := fun t => by rw [← hpp]
  refine E_walk k_slices_IndexFunc_impl_Table_impl_Table m_slices_IndexFunc_impl_Table_impl_Table (of_decide_eq_true rfl) ?_
  simp (disch := omega) only [c_slices_IndexFunc_impl_Table_impl_Table, go_sem, go_cond, zA, zB, zC, zD, zE, zF, zG, zH, ↓reduceIte, zI, reduceCtorEq, zJ, zK]
  refine go_loop (α := Int) (fun a => ⟨slots 19 0 [(0, .arr (xs.map Tl.d)), (1, .fn 87 [.ptr 0 0]), (7, .int .i64 xs.length), (8, .int .i64 a)], [.box 40 [.int .i64 m.size, .arr (m.tables.map Tl.d)]]⟩) (fun a => ∃ k : Nat, a = k ∧ k ≤ (xs).length ∧ idxP p (xs.drop k) a = idxP p xs 0) (fun a => (xs).length - (a).toNat) 0 ⟨0, rfl, Nat.zero_le _, by rw [List.drop_zero]⟩ (by simp (disch := omega) only [go_sem, go_cond, zA, zB, zC, zD, zE, zF, zG, zH, ↓reduceIte, zI, reduceCtorEq, zJ, zK]) ?_
  rintro i ⟨k, hi, hk, hR⟩
  have hni : i.toNat = k := by omega
  have hni1 : (i + 1).toNat = k + 1 := by omega
  rcases Nat.lt_or_ge k (xs).length with hlt | hge
  · have hg' := get_at Tl.d hlt
    rw [Tl.d_eq] at hg'
    have hc := hE xs[k] (List.getElem_mem hlt)
    rw [hpe] at hc
    rw [List.drop_eq_getElem_cons hlt, idxP] at hR
    cases hp : p xs[k] with
    | true =>
      rw [hp] at hc hR
      simp (disch := omega) only [go_sem, go_cond, zA, zB, zC, zD, zE, zF, zG, zH, ↓reduceIte, zI, reduceCtorEq, zJ, zK, hni, hg', hc, g_impl_IsValidInterpretation_1, m_impl_IsValidInterpretation_1]
      simpa using hR
    | false =>
      rw [hp] at hc hR
      simp (disch := omega) only [go_sem, go_cond, zA, zB, zC, zD, zE, zF, zG, zH, ↓reduceIte, zI, reduceCtorEq, zJ, zK, hni, hg', hc, g_impl_IsValidInterpretation_1, m_impl_IsValidInterpretation_1]
      exact ⟨i + 1, ⟨k + 1, by omega, hlt, by simpa using hR⟩, by omega, by first | trivial | rfl⟩
  · rw [List.drop_eq_nil_of_le hge, idxP] at hR
    simp (disch := omega) only [go_sem, go_cond, zA, zB, zC, zD, zE, zF, zG, zH, ↓reduceIte, zI, reduceCtorEq, zJ, zK, hni]
    exact hR
theorem containsTab_E (m : Ip) (hs : 1 ≤ m.size ∧ m.size ≤ 3) (xs : List Tl) (hx : ∀ t ∈ xs, (0 ≤ t.arity ∧ t.arity ≤ 3) ∧ t.vals.length ≤ 1099511627776) (hl : xs.length ≤ 1099511627776) : E 86 [.arr (xs.map Tl.d), .fn 87 [.ptr 0 0]] [.box 40 [.int .i64 m.size, .arr (m.tables.map Tl.d)]] = some (.bool (!xs.all (tlB m.size)), [.box 40 [.int .i64 m.size, .arr (m.tables.map Tl.d)]]) := by
  have h := indexTab_E m hs xs hx hl
  have hall : (xs.any fun t => !tlB m.size t) = !xs.all (tlB m.size) := by
    induction xs with
    | nil => rfl
    | cons a l ih => rw [List.any_cons, List.all_cons, Bool.not_and]; congr 1; clear h hx hl ih; induction l with
      | nil => rfl
      | cons a l ih => rw [List.any_cons, List.all_cons, ih, Bool.not_and]
  rw [← hall]
  refine E_walk k_slices_ContainsFunc_impl_Table_impl_Table m_slices_ContainsFunc_impl_Table_impl_Table (of_decide_eq_true rfl) ?_
  simp (disch := omega) only [c_slices_ContainsFunc_impl_Table_impl_Table, go_sem, go_cond, zA, zB, zC, zD, zE, zF, zG, zH, ↓reduceIte, zI, reduceCtorEq, zJ, zK, h, m_slices_IndexFunc_impl_Table_impl_Table]
  rw [idxP_any]
set_option maxHeartbeats 2000000 in
theorem isValidInterpretation_E (m : Ip) (hm : m.tame) : E 48 [m.sv] [] = some (.bool m.ok, []) := by
  have h1 := within_E m.size 1 3
  have h2 := areTables_E m.tables hm.1
  unfold Ip.ok
  cases hs : inI m.size 1 3 with
  | false =>
    rw [hs] at h1
    rw [Bool.false_and]
    refine E_walk k_impl_IsValidInterpretation m_impl_IsValidInterpretation (of_decide_eq_true rfl) ?_
    simp (disch := omega) only [c_impl_IsValidInterpretation, go_sem, go_cond, zA, zB, zC, zD, zE, zF, zG, zH, ↓reduceIte, zI, reduceCtorEq, zJ, zK, h1, h2, m_impl_within, m_impl_areTables]
  | true =>
    rw [hs] at h1
    rw [Bool.true_and]
    cases ht : tabsB m.tables with
    | false =>
      rw [ht] at h2
      rw [Bool.false_and]
      refine E_walk k_impl_IsValidInterpretation m_impl_IsValidInterpretation (of_decide_eq_true rfl) ?_
      simp (disch := omega) only [c_impl_IsValidInterpretation, go_sem, go_cond, zA, zB, zC, zD, zE, zF, zG, zH, ↓reduceIte, zI, reduceCtorEq, zJ, zK, h1, h2, m_impl_within, m_impl_areTables]
    | true =>
      rw [ht] at h2
      rw [Bool.true_and]
      have h3 := containsTab_E m (inI_iff.1 hs) m.tables (fun t hx => ⟨tabsB_arity ht hx, hm.2 t hx⟩) hm.1
      refine E_walk k_impl_IsValidInterpretation m_impl_IsValidInterpretation (of_decide_eq_true rfl) ?_
      simp (disch := omega) only [c_impl_IsValidInterpretation, go_sem, go_cond, zA, zB, zC, zD, zE, zF, zG, zH, ↓reduceIte, zI, reduceCtorEq, zJ, zK, h1, h2, h3, m_impl_within, m_impl_areTables, m_slices_ContainsFunc_impl_Table_impl_Table]
      rw [Bool.not_not]
set_option maxHeartbeats 8000000 in
theorem l10Tables_E (xs : List Tl) (hl : xs.length ≤ 1099511627776) : E 81 [.arr (xs.map Tl.d)] [] = some (.bool (tabsB xs), []) := by
  rcases Nat.lt_or_ge 12 xs.length with h8 | h8
  · have e : tabsB xs = false := by unfold tabsB; rw [decide_eq_false (by omega), Bool.and_false]
    rw [e]
    refine E_walk k_spec_l10Tables m_spec_l10Tables (of_decide_eq_true rfl) ?_
    simp (disch := omega) only [c_spec_l10Tables, go_sem, go_cond, zA, zB, zC, zD, zE, zF, zG, zH, ↓reduceIte, zI, reduceCtorEq, zJ, zK]
  refine E_walk k_spec_l10Tables m_spec_l10Tables (of_decide_eq_true rfl) ?_
  simp (disch := omega) only [c_spec_l10Tables, go_sem, go_cond, zA, zB, zC, zD, zE, zF, zG, zH, ↓reduceIte, zI, reduceCtorEq, zJ, zK]
  refine go_loop (α := Int) (fun a => ⟨slots 63 0 [(0, .arr (xs.map Tl.d)), (3, .int .i64 a)], []⟩) (fun a => ∃ k : Nat, a = k ∧ k ≤ (xs).length ∧ allTo (tlAt xs) k = true) (fun a => (xs).length - (a).toNat) 0 ⟨0, rfl, Nat.zero_le _, by rw [allTo]⟩ (by simp (disch := omega) only [go_sem, go_cond, zA, zB, zC, zD, zE, zF, zG, zH, ↓reduceIte, zI, reduceCtorEq, zJ, zK]) ?_
  rintro i ⟨k, hi, hk, hR⟩
  have hni : i.toNat = k := by omega
  have hni1 : (i + 1).toNat = k + 1 := by omega
  rcases Nat.lt_or_ge k (xs).length with hlt | hge
  · have hg := get_at Tl.d hlt
    rw [Tl.d_eq] at hg
    have hs := l2Symbol_E xs[k].name
    have hw := l1In_E xs[k].arity 0 3
    have no : tlAt xs k = false → tabsB xs = false := fun h => by unfold tabsB; rw [allTo_no h hlt, Bool.false_and]
    cases ha : symB xs[k].name with
    | false =>
      rw [ha] at hs
      rw [no (by cases k with | zero => rw [tlAt_zero hlt, ha, Bool.false_and] | succ j => rw [tlAt_succ hlt, ha, Bool.false_and])]
      simp (disch := omega) only [go_sem, go_cond, zA, zB, zC, zD, zE, zF, zG, zH, ↓reduceIte, zI, reduceCtorEq, zJ, zK, hni, hg, hs, hw, m_spec_l2Symbol, m_spec_l1In]
    | true =>
      rw [ha] at hs
      cases hb : inI xs[k].arity 0 3 with
      | false =>
        rw [hb] at hw
        rw [no (by cases k with | zero => rw [tlAt_zero hlt, hb, Bool.and_false] | succ j => rw [tlAt_succ hlt, hb, Bool.false_and, Bool.and_false])]
        simp (disch := omega) only [go_sem, go_cond, zA, zB, zC, zD, zE, zF, zG, zH, ↓reduceIte, zI, reduceCtorEq, zJ, zK, hni, hg, hs, hw, m_spec_l2Symbol, m_spec_l1In]
      | true =>
        rw [hb] at hw
        cases k with
        | zero =>
          obtain rfl : i = 0 := hi
          simp (disch := omega) only [go_sem, go_cond, zA, zB, zC, zD, zE, zF, zG, zH, ↓reduceIte, zI, reduceCtorEq, zJ, zK, hni, hg, hs, hw, m_spec_l2Symbol, m_spec_l1In]
          exact ⟨1, ⟨1, rfl, hlt, by rw [allTo, hR, tlAt_zero hlt, ha, hb]; rfl⟩, by omega, by first | trivial | rfl⟩
        | succ j =>
          have hj : j < xs.length := by omega
          have hg2 := get_at Tl.d hj
          rw [Tl.d_eq] at hg2
          have hni2 : (i - 1).toNat = j := by omega
          have yes : keyLt xs[j] xs[j + 1] = true → allTo (tlAt xs) (j + 1 + 1) = true := fun h => by rw [allTo, hR, tlAt_succ hlt, ha, hb, h]; rfl
          have no2 : keyLt xs[j] xs[j + 1] = false → tabsB xs = false := fun h => no (by rw [tlAt_succ hlt, ha, hb, h]; rfl)
          cases h1 : strLt xs[j].name xs[j + 1].name with
          | true =>
            have h2 : dec (xs[j].name = xs[j + 1].name) = false := dec_f (strLt_ne h1)
            have hk2 : keyLt xs[j] xs[j + 1] = true := by unfold keyLt; rw [h1]; rfl
            simp (disch := omega) only [go_sem, go_cond, zA, zB, zC, zD, zE, zF, zG, zH, ↓reduceIte, zI, reduceCtorEq, zJ, zK, hni, hg, hs, hw, m_spec_l2Symbol, m_spec_l1In, hni2, hg2, h1, h2]
            exact ⟨i + 1, ⟨j + 1 + 1, by omega, hlt, yes hk2⟩, by omega, by first | trivial | rfl⟩
          | false =>
            cases h2 : dec (xs[j].name = xs[j + 1].name) with
            | false =>
              have hk2 : keyLt xs[j] xs[j + 1] = false := by unfold keyLt; rw [h1, h2]; rfl
              rw [no2 hk2]
              simp (disch := omega) only [go_sem, go_cond, zA, zB, zC, zD, zE, zF, zG, zH, ↓reduceIte, zI, reduceCtorEq, zJ, zK, hni, hg, hs, hw, m_spec_l2Symbol, m_spec_l1In, hni2, hg2, h1, h2]
            | true =>
              rcases Int.lt_or_le xs[j].arity xs[j + 1].arity with hq | hq
              · have h3 : dec (xs[j + 1].arity ≤ xs[j].arity) = false := dec_f (by omega)
                have hk2 : keyLt xs[j] xs[j + 1] = true := by unfold keyLt; rw [h1, h2, dec_t hq]; rfl
                simp (disch := omega) only [go_sem, go_cond, zA, zB, zC, zD, zE, zF, zG, zH, ↓reduceIte, zI, reduceCtorEq, zJ, zK, hni, hg, hs, hw, m_spec_l2Symbol, m_spec_l1In, hni2, hg2, h1, h2, h3]
                exact ⟨i + 1, ⟨j + 1 + 1, by omega, hlt, yes hk2⟩, by omega, by first | trivial | rfl⟩
              · have h3 : dec (xs[j + 1].arity ≤ xs[j].arity) = true := dec_t hq
                have hk2 : keyLt xs[j] xs[j + 1] = false := by unfold keyLt; rw [h1, h2, dec_f (by omega)]; rfl
                rw [no2 hk2]
                simp (disch := omega) only [go_sem, go_cond, zA, zB, zC, zD, zE, zF, zG, zH, ↓reduceIte, zI, reduceCtorEq, zJ, zK, hni, hg, hs, hw, m_spec_l2Symbol, m_spec_l1In, hni2, hg2, h1, h2, h3]
  · obtain rfl : k = xs.length := by omega
    simp (disch := omega) only [go_sem, go_cond, zA, zB, zC, zD, zE, zF, zG, zH, ↓reduceIte, zI, reduceCtorEq, zJ, zK, hni]
    unfold tabsB
    rw [hR, decide_eq_true h8]; rfl
set_option maxHeartbeats 8000000 in
theorem l10Good_E (m : Ip) (hm : m.tame) : E 44 [m.sv] [] = some (.bool m.ok, []) := by
  have h1 := l1In_E m.size 1 3
  have h2 := l10Tables_E m.tables hm.1
  unfold Ip.ok
  cases hs : inI m.size 1 3 with
  | false =>
    rw [hs] at h1
    rw [Bool.false_and]
    refine E_walk k_spec_l10Good m_spec_l10Good (of_decide_eq_true rfl) ?_
    simp (disch := omega) only [c_spec_l10Good, go_sem, go_cond, zA, zB, zC, zD, zE, zF, zG, zH, ↓reduceIte, zI, reduceCtorEq, zJ, zK, h1, h2, m_spec_l1In, m_spec_l10Tables]
  | true =>
    rw [hs] at h1
    rw [Bool.true_and]
    cases ht : tabsB m.tables with
    | false =>
      rw [ht] at h2
      rw [Bool.false_and]
      refine E_walk k_spec_l10Good m_spec_l10Good (of_decide_eq_true rfl) ?_
      simp (disch := omega) only [c_spec_l10Good, go_sem, go_cond, zA, zB, zC, zD, zE, zF, zG, zH, ↓reduceIte, zI, reduceCtorEq, zJ, zK, h1, h2, m_spec_l1In, m_spec_l10Tables]
    | true =>
      rw [ht] at h2
      rw [Bool.true_and]
      obtain ⟨s1, s3⟩ := inI_iff.1 hs
      have hl := hm.1
      refine E_walk k_spec_l10Good m_spec_l10Good (of_decide_eq_true rfl) ?_
      simp (disch := omega) only [c_spec_l10Good, go_sem, go_cond, zA, zB, zC, zD, zE, zF, zG, zH, ↓reduceIte, zI, reduceCtorEq, zJ, zK, h1, h2, m_spec_l1In, m_spec_l10Tables]
      refine go_loop (α := Int) (fun a => ⟨slots 58 0 [(1, .ptr 0 0), (3, .int .i64 a)], [.box 40 [.int .i64 m.size, .arr (m.tables.map Tl.d)]]⟩) (fun a => ∃ k : Nat, a = k ∧ k ≤ (m.tables).length ∧ (m.tables.drop k).all (tlB m.size) = m.tables.all (tlB m.size)) (fun a => (m.tables).length - (a).toNat) 0 ⟨0, rfl, Nat.zero_le _, by rw [List.drop_zero]⟩ (by simp (disch := omega) only [go_sem, go_cond, zA, zB, zC, zD, zE, zF, zG, zH, ↓reduceIte, zI, reduceCtorEq, zJ, zK]) ?_
      rintro i ⟨k, hi, hk, hR⟩
      have hni : i.toNat = k := by omega
      have hni1 : (i + 1).toNat = k + 1 := by omega
      rcases Nat.lt_or_ge k (m.tables).length with hlt | hge
      · have hg := get_at Tl.d hlt
        rw [Tl.d_eq] at hg
        obtain ⟨a0, a3⟩ := tabsB_arity ht (List.getElem_mem hlt)
        have hvl := hm.2 _ (List.getElem_mem hlt)
        have hp := l10Power_E m.size m.tables[k].arity s1 s3 a0 (by omega)
        have hps := pw_small s1 s3 (k := m.tables[k].arity.toNat) (by omega)
        rw [List.drop_eq_getElem_cons hlt, List.all_cons] at hR
        have hT : tlB m.size m.tables[k] = (dec ((m.tables[k].vals.length : Int) = pw m.size m.tables[k].arity.toNat) && m.tables[k].vals.all fun v => inI v 0 (kinds m.size m.tables[k] - 1)) := rfl
        have hk0 : 1 ≤ kinds m.size m.tables[k] ∧ kinds m.size m.tables[k] ≤ 3 := by unfold kinds; split <;> omega
        have step : ∀ b : Bool, m.tables[k].pred = b → kinds m.size m.tables[k] = (if b then 2 else m.size) := fun b hb => by unfold kinds; rw [hb]
        cases hd : dec ((m.tables[k].vals.length : Int) = pw m.size m.tables[k].arity.toNat) with
        | false =>
          rw [hT, hd, Bool.false_and, Bool.false_and] at hR
          rw [← hR]
          cases hb : m.tables[k].pred
          · simp (disch := omega) only [go_sem, go_cond, zA, zB, zC, zD, zE, zF, zG, zH, ↓reduceIte, zI, reduceCtorEq, zJ, zK, hni, hg, hp, hd, hb, m_spec_l10Power]
          · simp (disch := omega) only [go_sem, go_cond, zA, zB, zC, zD, zE, zF, zG, zH, ↓reduceIte, zI, reduceCtorEq, zJ, zK, hni, hg, hp, hd, hb, m_spec_l10Power]
        | true =>
          rw [hT, hd, Bool.true_and] at hR
          have fin : ∀ (b : Bool), m.tables[k].pred = b → True := fun _ _ => trivial
          cases hb : m.tables[k].pred
          all_goals
            have hkk := step _ hb
            simp only [if_true, if_false, Bool.false_eq_true] at hkk
            simp (disch := omega) only [go_sem, go_cond, zA, zB, zC, zD, zE, zF, zG, zH, ↓reduceIte, zI, reduceCtorEq, zJ, zK, hni, hg, hp, hd, hb, m_spec_l10Power]
            refine go_loop (α := Int) (fun q => ⟨slots 58 0 [(1, .ptr 0 0), (3, .int .i64 i), (4, .ptr 1 0), (5, .int .i64 (kinds m.size m.tables[k] - 1)), (6, .int .i64 q)], [.box 40 [.int .i64 m.size, .arr (m.tables.map Tl.d)], .box 80 [.str m.tables[k].name, .int .i64 m.tables[k].arity, .bool m.tables[k].pred, .arr (m.tables[k].vals.map fun n => [D.int n])]]⟩) (fun q => ∃ n : Nat, q = n ∧ n ≤ m.tables[k].vals.length ∧ ((m.tables[k].vals.drop n).all fun v => inI v 0 (kinds m.size m.tables[k] - 1)) = (m.tables[k].vals.all fun v => inI v 0 (kinds m.size m.tables[k] - 1))) (fun q => m.tables[k].vals.length - q.toNat) 0 ⟨0, rfl, Nat.zero_le _, by rw [List.drop_zero]⟩ (by simp (disch := omega) only [go_sem, go_cond, zA, zB, zC, zD, zE, zF, zG, zH, ↓reduceIte, zI, reduceCtorEq, zJ, zK, hkk, hb, Int.reduceSub]) ?_
            rintro q ⟨n, hq, hn, hQ⟩
            have hqn : q.toNat = n := by omega
            rcases Nat.lt_or_ge n m.tables[k].vals.length with hlt2 | hge2
            · have hgv := get_at (fun n => [D.int n]) hlt2
              have hv := l1In_E m.tables[k].vals[n] 0 (kinds m.size m.tables[k] - 1)
              rw [List.drop_eq_getElem_cons hlt2, List.all_cons] at hQ
              cases hw : inI m.tables[k].vals[n] 0 (kinds m.size m.tables[k] - 1) with
              | false =>
                rw [hw] at hv hQ
                rw [Bool.false_and] at hQ
                rw [← hQ, Bool.false_and] at hR
                rw [← hR]
                simp (disch := omega) only [go_sem, go_cond, zA, zB, zC, zD, zE, zF, zG, zH, ↓reduceIte, zI, reduceCtorEq, zJ, zK, hqn, hgv, hv, m_spec_l1In]
              | true =>
                rw [hw] at hv hQ
                rw [Bool.true_and] at hQ
                simp (disch := omega) only [go_sem, go_cond, zA, zB, zC, zD, zE, zF, zG, zH, ↓reduceIte, zI, reduceCtorEq, zJ, zK, hqn, hgv, hv, m_spec_l1In]
                exact ⟨q + 1, ⟨n + 1, by omega, hlt2, hQ⟩, by omega, by first | trivial | rfl | simp only [hb]⟩
            · rw [List.drop_eq_nil_of_le hge2, List.all_nil] at hQ
              rw [← hQ, Bool.true_and] at hR
              simp (disch := omega) only [go_sem, go_cond, zA, zB, zC, zD, zE, zF, zG, zH, ↓reduceIte, zI, reduceCtorEq, zJ, zK, hqn]
              exact ⟨i + 1, ⟨k + 1, by omega, hlt, hR⟩, by omega, by first | trivial | rfl⟩
      · rw [List.drop_eq_nil_of_le hge, List.all_nil] at hR
        rw [← hR]
        simp (disch := omega) only [go_sem, go_cond, zA, zB, zC, zD, zE, zF, zG, zH, ↓reduceIte, zI, reduceCtorEq, zJ, zK, hni]
def c_slices_Index_int_int : SC := (.seq (.reg [⟨some 4, none, .mv (.c (.int .i64 0))⟩]) (.seq (.seq (.reg [⟨some 6, none, .mv (.t 0)⟩, ⟨some 7, none, .len false (.t 6)⟩, ⟨some 8, none, .mv (.c (.int .i64 0))⟩]) (.block 0 (.loop [1, 1, 0, 0, 0, 0, 0, 1, 1, 0, 0, 0, 0, 0, 0, 0, 0, 0, 0] (.seq (.reg [⟨some 9, none, .bin .lss false (.t 8) (.t 7)⟩]) (.seq (.cond (.t 9) .skip (.exit 0)) (.seq (.block 1 (.seq (.reg [⟨some 10, none, .mv (.t 8)⟩, ⟨some 5, none, .mv (.t 10)⟩]) (.seq (.reg [⟨some 11, none, .mv (.t 1)⟩, ⟨some 12, none, .mv (.t 0)⟩, ⟨some 13, none, .mv (.t 5)⟩, ⟨some 14, none, .iaddr 1 (.t 12) (.t 13)⟩, ⟨some 15, none, .load false 1 (.t 14)⟩, ⟨some 16, none, .bin .eql false (.t 11) (.t 15)⟩]) (.cond (.t 16) (.seq (.reg [⟨some 17, none, .mv (.t 5)⟩, ⟨some 4, none, .mv (.t 17)⟩]) .ret) .skip)))) (.reg [⟨some 18, none, .bin .add false (.t 8) (.c (.int .i64 1))⟩, ⟨some 8, none, .mv (.t 18)⟩]))))))) (.seq (.reg [⟨some 4, none, .mv (.c (.int .i64 (-(0 + 1))))⟩]) .ret)))
theorem k_slices_Index_int_int : codeOf Try.prog 92 = some ⟨19, c_slices_Index_int_int, [(.tmp 4)]⟩ := by kernel_rfl
theorem m_slices_Index_int_int : modes 92 = ⟨[], .asis, none, false⟩ := by unfold modes; rfl
def c_slices_Contains_int_int : SC := (.seq (.reg [⟨some 4, none, .mv (.c (.bool false))⟩]) (.seq (.reg [⟨some 5, none, .mv (.t 0)⟩, ⟨some 6, none, .mv (.t 1)⟩, ⟨some 7, none, .call 92 [(.t 5), (.t 6)]⟩, ⟨some 8, none, .bin .geq false (.t 7) (.c (.int .i64 0))⟩, ⟨some 4, none, .mv (.t 8)⟩]) .ret))
theorem k_slices_Contains_int_int : codeOf Try.prog 49 = some ⟨9, c_slices_Contains_int_int, [(.tmp 4)]⟩ := by kernel_rfl
theorem m_slices_Contains_int_int : modes 49 = ⟨[], .asis, none, false⟩ := by unfold modes; rfl
def c_impl_copyTables : SC := (.seq (.reg [⟨some 2, none, .mv (.c .nil)⟩]) (.seq (.reg [⟨(some 6), none, (.mkrow 80 4 [(.str ⟨#[]⟩), (.int .i64 0), (.bool false), .nil] 0 [])⟩, ⟨some 3, none, .mv (.t 6)⟩]) (.seq (.seq (.reg [⟨some 7, none, .mv (.t 0)⟩, ⟨some 8, none, .len false (.t 7)⟩, ⟨some 9, none, .mv (.c (.int .i64 0))⟩]) (.block 0 (.loop [0, 0, 0, 1, 0, 0, 0, 1, 1, 1, 0, 0, 0, 0, 0, 0, 0, 0, 0, 0, 0, 0, 0] (.seq (.reg [⟨some 10, none, .bin .lss false (.t 9) (.t 8)⟩]) (.seq (.cond (.t 10) .skip (.exit 0)) (.seq (.block 1 (.seq (.reg [⟨some 11, none, .iaddr 4 (.t 7) (.t 9)⟩, ⟨some 12, none, .load true 4 (.t 11)⟩, ⟨(some 5), none, (.alloc 80 [(.str ⟨#[]⟩), (.int .i64 0), (.bool false), .nil])⟩, ⟨none, none, (.store 4 (.t 5) (.t 12))⟩]) (.seq (.reg [⟨some 13, none, .faddr 3 (.t 5)⟩, ⟨some 14, none, .load false 1 (.t 13)⟩, ⟨some 15, none, .call 93 [(.t 14)]⟩, ⟨some 16, none, .faddr 3 (.t 5)⟩, ⟨none, none, (.store 1 (.t 16) (.t 15))⟩]) (.reg [⟨some 17, none, .mv (.t 3)⟩, ⟨some 18, none, .load true 4 (.t 5)⟩, ⟨(some 19), none, (.mkrow 80 4 [(.str ⟨#[]⟩), (.int .i64 0), (.bool false), .nil] 1 [(0, (.t 18))])⟩, ⟨(some 20), none, (.append 80 4 56 [(.str ⟨#[]⟩), (.int .i64 0), (.bool false), .nil] (.t 17) (.t 19))⟩, ⟨some 3, none, .mv (.t 20)⟩])))) (.reg [⟨some 21, none, .bin .add false (.t 9) (.c (.int .i64 1))⟩, ⟨some 9, none, .mv (.t 21)⟩]))))))) (.seq (.reg [⟨some 22, none, .mv (.t 3)⟩, ⟨some 2, none, .mv (.t 22)⟩]) .ret))))
theorem k_impl_copyTables : codeOf Try.prog 50 = some ⟨23, c_impl_copyTables, [(.tmp 2)]⟩ := by kernel_rfl
theorem m_impl_copyTables : modes 50 = ⟨[], .tr [], none, false⟩ := by unfold modes; rfl
def c_impl_RenameElements : SC := (.seq (.reg [⟨some 2, none, .boxv 40 2 (.t 0)⟩, ⟨some 4, none, .alloc 40 [(.int .i64 0), .nil]⟩, ⟨some 5, none, .mv (.c (.bool false))⟩]) (.seq (.seq (.reg [⟨some 15, none, .load true 2 (.t 2)⟩, ⟨some 16, none, .call 48 [(.t 15)]⟩, ⟨some 17, none, .un .not (.t 16)⟩, ⟨some 18, none, .mv (.t 17)⟩, ⟨(some 19), (some (18, false)), (.mv (.t 1))⟩, ⟨(some 20), (some (18, false)), (.len false (.t 19))⟩, ⟨(some 21), (some (18, false)), (.faddr 0 (.t 2))⟩, ⟨(some 22), (some (18, false)), (.load false 1 (.t 21))⟩, ⟨(some 23), (some (18, false)), (.bin .neq false (.t 20) (.t 22))⟩, ⟨some 24, none, .pick (.t 18) (.c (.bool true)) (.t 23)⟩]) (.cond (.t 24) (.seq (.reg [⟨some 25, none, .build [(.int .i64 0), .nil] []⟩, ⟨none, none, (.store 2 (.t 4) (.t 25))⟩, ⟨some 5, none, .mv (.c (.bool false))⟩]) .ret) .skip)) (.seq (.seq (.reg [⟨some 26, none, .faddr 0 (.t 2)⟩, ⟨some 27, none, .load false 1 (.t 26)⟩, ⟨some 28, none, .mv (.c (.int .i64 0))⟩]) (.block 0 (.loop [0, 1, 1, 0, 1, 0, 0, 0, 0, 0, 0, 0, 0, 0, 0, 0, 0, 0, 0, 0, 0, 0, 0, 0, 0, 0, 0, 1, 1, 0, 0, 0, 0, 0, 0, 0, 0, 0, 0, 0, 0, 0, 0, 0, 0, 0, 0, 0, 0, 0, 0, 0, 0, 0, 0, 0, 0, 0, 0, 0, 0, 0, 0, 0, 0, 0, 0, 0, 0, 0, 0, 0, 0, 0, 0, 0, 0, 0, 0, 0, 0, 0, 0, 0, 0, 0, 0, 0, 0, 0, 0, 0, 0, 0, 0, 0, 0, 0, 0, 0, 0, 0, 0] (.seq (.reg [⟨some 29, none, .bin .lss false (.t 28) (.t 27)⟩]) (.seq (.cond (.t 29) .skip (.exit 0)) (.seq (.block 1 (.seq (.reg [⟨some 30, none, .mv (.t 28)⟩, ⟨some 6, none, .mv (.t 30)⟩]) (.seq (.reg [⟨some 31, none, .mv (.t 1)⟩, ⟨some 32, none, .mv (.t 6)⟩, ⟨some 33, none, .call 49 [(.t 31), (.t 32)]⟩, ⟨some 34, none, .un .not (.t 33)⟩]) (.cond (.t 34) (.seq (.reg [⟨some 35, none, .build [(.int .i64 0), .nil] []⟩, ⟨none, none, (.store 2 (.t 4) (.t 35))⟩, ⟨some 5, none, .mv (.c (.bool false))⟩]) .ret) .skip)))) (.reg [⟨some 36, none, .bin .add false (.t 28) (.c (.int .i64 1))⟩, ⟨some 28, none, .mv (.t 36)⟩]))))))) (.seq (.dreg [[], [0], [], [2], [3, 2], [1, 0, 4, 3, 2], [], [6, 5, 1, 0, 4, 3, 2]] [⟨some 37, none, .faddr 0 (.t 2)⟩, ⟨some 38, none, .load false 1 (.t 37)⟩, ⟨some 39, none, .faddr 1 (.t 2)⟩, ⟨some 40, none, .load false 1 (.t 39)⟩, ⟨some 41, none, .call 50 [(.t 40)]⟩, ⟨some 42, none, .build [(.int .i64 0), .nil] [(0, (1, (.t 38))), (1, (1, (.t 41)))]⟩, ⟨some 7, none, .alloc 40 [(.int .i64 0), .nil]⟩, ⟨none, none, (.store 2 (.t 7) (.t 42))⟩]) (.seq (.seq (.reg [⟨some 43, none, .faddr 1 (.t 2)⟩, ⟨some 44, none, .load false 1 (.t 43)⟩, ⟨some 45, none, .len false (.t 44)⟩, ⟨some 46, none, .mv (.c (.int .i64 0))⟩]) (.block 2 (.loop [0, 1, 1, 0, 1, 0, 0, 1, 0, 0, 0, 0, 0, 0, 0, 0, 0, 0, 0, 0, 0, 0, 0, 0, 0, 0, 0, 0, 0, 0, 0, 0, 0, 0, 0, 0, 0, 0, 0, 0, 0, 0, 0, 0, 1, 1, 1, 0, 0, 0, 0, 0, 0, 0, 0, 0, 0, 0, 0, 0, 0, 0, 0, 0, 0, 0, 0, 0, 0, 0, 0, 0, 0, 0, 0, 0, 0, 0, 0, 0, 0, 0, 0, 0, 0, 0, 0, 0, 0, 0, 0, 0, 0, 0, 0, 0, 0, 0, 0, 0, 0, 0, 0] (.seq (.reg [⟨some 47, none, .bin .lss false (.t 46) (.t 45)⟩]) (.seq (.cond (.t 47) .skip (.exit 2)) (.seq (.block 3 (.seq (.reg [⟨some 48, none, .mv (.t 46)⟩, ⟨some 49, none, .iaddr 4 (.t 44) (.t 46)⟩, ⟨some 50, none, .load true 4 (.t 49)⟩, ⟨(some 9), none, (.alloc 80 [(.str ⟨#[]⟩), (.int .i64 0), (.bool false), .nil])⟩, ⟨some 8, none, .mv (.t 48)⟩, ⟨none, none, (.store 4 (.t 9) (.t 50))⟩]) (.seq (.reg [⟨some 51, none, .faddr 3 (.t 9)⟩, ⟨some 52, none, .load false 1 (.t 51)⟩, ⟨some 53, none, .len false (.t 52)⟩, ⟨some 54, none, .mv (.c (.int .i64 0))⟩]) (.block 4 (.loop [0, 1, 1, 0, 1, 0, 0, 1, 1, 1, 0, 0, 0, 0, 0, 0, 0, 0, 0, 0, 0, 0, 0, 0, 0, 0, 0, 0, 0, 0, 0, 0, 0, 0, 0, 0, 0, 0, 0, 0, 0, 0, 0, 0, 1, 1, 1, 0, 0, 0, 0, 0, 1, 1, 1, 0, 0, 0, 0, 0, 0, 0, 0, 0, 0, 0, 0, 0, 0, 0, 0, 0, 0, 0, 0, 0, 0, 0, 0, 0, 0, 0, 0, 0, 0, 0, 0, 0, 0, 0, 0, 0, 0, 0, 0, 0, 0, 0, 0, 0, 0, 0, 0] (.seq (.reg [⟨some 55, none, .bin .lss false (.t 54) (.t 53)⟩]) (.seq (.cond (.t 55) .skip (.exit 4)) (.seq (.block 5 (.seq (.reg [⟨some 56, none, .mv (.t 54)⟩, ⟨some 57, none, .iaddr 1 (.t 52) (.t 54)⟩, ⟨some 58, none, .load false 1 (.t 57)⟩, ⟨some 10, none, .mv (.t 56)⟩, ⟨some 11, none, .mv (.t 58)⟩]) (.seq (.reg [⟨some 59, none, .mv (.t 10)⟩, ⟨some 12, none, .mv (.c (.int .i64 0))⟩, ⟨some 13, none, .mv (.c (.int .i64 1))⟩, ⟨some 14, none, .mv (.t 59)⟩]) (.seq (.seq (.reg [⟨some 60, none, .faddr 1 (.t 9)⟩, ⟨some 61, none, .load false 1 (.t 60)⟩, ⟨some 62, none, .mv (.c (.int .i64 0))⟩]) (.block 6 (.loop [0, 1, 1, 0, 1, 0, 0, 1, 1, 1, 0, 1, 1, 1, 1, 0, 0, 0, 0, 0, 0, 0, 0, 0, 0, 0, 0, 0, 0, 0, 0, 0, 0, 0, 0, 0, 0, 0, 0, 0, 0, 0, 0, 0, 1, 1, 1, 0, 0, 0, 0, 0, 1, 1, 1, 0, 0, 0, 0, 0, 0, 1, 1, 0, 0, 0, 0, 0, 0, 0, 0, 0, 0, 0, 0, 0, 0, 0, 0, 0, 0, 0, 0, 0, 0, 0, 0, 0, 0, 0, 0, 0, 0, 0, 0, 0, 0, 0, 0, 0, 0, 0, 0] (.seq (.reg [⟨some 63, none, .bin .lss false (.t 62) (.t 61)⟩]) (.seq (.cond (.t 63) .skip (.exit 6)) (.seq (.block 7 (.seq (.reg [⟨some 64, none, .mv (.t 12)⟩, ⟨some 65, none, .mv (.t 13)⟩, ⟨some 66, none, .mv (.t 1)⟩, ⟨some 67, none, .mv (.t 14)⟩, ⟨some 68, none, .faddr 0 (.t 2)⟩, ⟨some 69, none, .load false 1 (.t 68)⟩, ⟨some 70, none, .bin .rem false (.t 67) (.t 69)⟩, ⟨some 71, none, .iaddr 1 (.t 66) (.t 70)⟩, ⟨some 72, none, .load false 1 (.t 71)⟩, ⟨some 73, none, .bin .mul false (.t 65) (.t 72)⟩, ⟨some 74, none, .bin .add false (.t 64) (.t 73)⟩, ⟨some 12, none, .mv (.t 74)⟩]) (.seq (.reg [⟨some 75, none, .mv (.t 13)⟩, ⟨some 76, none, .faddr 0 (.t 2)⟩, ⟨some 77, none, .load false 1 (.t 76)⟩, ⟨some 78, none, .bin .mul false (.t 75) (.t 77)⟩, ⟨some 13, none, .mv (.t 78)⟩]) (.reg [⟨some 79, none, .mv (.t 14)⟩, ⟨some 80, none, .faddr 0 (.t 2)⟩, ⟨some 81, none, .load false 1 (.t 80)⟩, ⟨some 82, none, .bin .quo false (.t 79) (.t 81)⟩, ⟨some 14, none, .mv (.t 82)⟩])))) (.reg [⟨some 83, none, .bin .add false (.t 62) (.c (.int .i64 1))⟩, ⟨some 62, none, .mv (.t 83)⟩]))))))) (.seq (.seq (.reg [⟨some 84, none, .faddr 2 (.t 9)⟩, ⟨some 85, none, .load false 1 (.t 84)⟩, ⟨some 86, none, .un .not (.t 85)⟩]) (.cond (.t 86) (.reg [⟨some 87, none, .mv (.t 1)⟩, ⟨some 88, none, .mv (.t 11)⟩, ⟨some 89, none, .iaddr 1 (.t 87) (.t 88)⟩, ⟨some 90, none, .load false 1 (.t 89)⟩, ⟨some 11, none, .mv (.t 90)⟩]) .skip)) (.reg [⟨some 91, none, .faddr 1 (.t 7)⟩, ⟨some 92, none, .load false 1 (.t 91)⟩, ⟨some 93, none, .mv (.t 8)⟩, ⟨some 94, none, .iaddr 4 (.t 92) (.t 93)⟩, ⟨some 95, none, .faddr 3 (.t 94)⟩, ⟨some 96, none, .load false 1 (.t 95)⟩, ⟨some 97, none, .mv (.t 12)⟩, ⟨some 98, none, .mv (.t 11)⟩, ⟨some 99, none, .iaddr 1 (.t 96) (.t 97)⟩, ⟨none, none, (.store 1 (.t 99) (.t 98))⟩])))))) (.reg [⟨some 100, none, .bin .add false (.t 54) (.c (.int .i64 1))⟩, ⟨some 54, none, .mv (.t 100)⟩]))))))))) (.reg [⟨some 101, none, .bin .add false (.t 46) (.c (.int .i64 1))⟩, ⟨some 46, none, .mv (.t 101)⟩]))))))) (.seq (.reg [⟨some 102, none, .load true 2 (.t 7)⟩, ⟨none, none, (.store 2 (.t 4) (.t 102))⟩, ⟨some 5, none, .mv (.c (.bool true))⟩]) .ret))))))
theorem k_impl_RenameElements : codeOf Try.prog 19 = some ⟨103, c_impl_RenameElements, [(.cell 4 true 2), (.tmp 5)]⟩ := by kernel_rfl
theorem m_impl_RenameElements : modes 19 = ⟨[], .tr [none, some (80, 4), none], none, false⟩ := by unfold modes; rfl
theorem indexI_E (xs : List Int) (n : Int) (hl : xs.length ≤ 1099511627776) : E 92 [.arr (xs.map fun s => [D.int s]), .int .i64 n] [] = some (.int .i64 (idxP (fun s => dec (n = s)) xs 0), []) := by
  refine E_walk k_slices_Index_int_int m_slices_Index_int_int (of_decide_eq_true rfl) ?_
  simp (disch := omega) only [c_slices_Index_int_int, go_sem, go_cond, zA, zB, zC, zD, zE, zF, zG, zH, ↓reduceIte, zI, reduceCtorEq, zJ, zK]
  refine go_loop (α := Int) (fun a => ⟨slots 19 0 [(0, .arr (xs.map fun s => [D.int s])), (1, .int .i64 n), (7, .int .i64 xs.length), (8, .int .i64 a)], []⟩) (fun a => ∃ k : Nat, a = k ∧ k ≤ (xs).length ∧ idxP (fun s => dec (n = s)) (xs.drop k) a = idxP (fun s => dec (n = s)) xs 0) (fun a => (xs).length - (a).toNat) 0 ⟨0, rfl, Nat.zero_le _, by rw [List.drop_zero]⟩ (by simp (disch := omega) only [go_sem, go_cond, zA, zB, zC, zD, zE, zF, zG, zH, ↓reduceIte, zI, reduceCtorEq, zJ, zK]) ?_
  rintro i ⟨k, hi, hk, hR⟩
  have hni : i.toNat = k := by omega
  have hni1 : (i + 1).toNat = k + 1 := by omega
  rcases Nat.lt_or_ge k (xs).length with hlt | hge
  · have hg := get_at (fun s => [D.int s]) hlt
    rw [List.drop_eq_getElem_cons hlt, idxP] at hR
    cases hp : dec (n = xs[k]) with
    | true =>
      rw [hp] at hR
      simp (disch := omega) only [go_sem, go_cond, zA, zB, zC, zD, zE, zF, zG, zH, ↓reduceIte, zI, reduceCtorEq, zJ, zK, hni, hg, hp]
      simpa using hR
    | false =>
      rw [hp] at hR
      simp (disch := omega) only [go_sem, go_cond, zA, zB, zC, zD, zE, zF, zG, zH, ↓reduceIte, zI, reduceCtorEq, zJ, zK, hni, hg, hp]
      exact ⟨i + 1, ⟨k + 1, by omega, hlt, by simpa using hR⟩, by omega, by first | trivial | rfl⟩
  · rw [List.drop_eq_nil_of_le hge, idxP] at hR
    simp (disch := omega) only [go_sem, go_cond, zA, zB, zC, zD, zE, zF, zG, zH, ↓reduceIte, zI, reduceCtorEq, zJ, zK, hni]
    exact hR
theorem containsI_E (xs : List Int) (n : Int) (hl : xs.length ≤ 1099511627776) : E 49 [.arr (xs.map fun s => [D.int s]), .int .i64 n] [] = some (.bool (dec (n ∈ xs)), []) := by
  have h := indexI_E xs n hl
  have e : dec (n ∈ xs) = dec (0 ≤ idxP (fun s => dec (n = s)) xs 0) := by
    rw [idxP_any]
    by_cases hm : n ∈ xs
    · rw [dec_t hm]
      exact (List.any_eq_true.2 ⟨n, hm, dec_t rfl⟩).symm
    · rw [dec_f hm]
      refine Eq.symm (Bool.eq_false_iff.2 fun h => ?_)
      obtain ⟨x, h1, h2⟩ := List.any_eq_true.1 h
      have e := dec_iff.1 h2
      subst e
      exact hm h1
  rw [e]
  refine E_walk k_slices_Contains_int_int m_slices_Contains_int_int (of_decide_eq_true rfl) ?_
  simp (disch := omega) only [c_slices_Contains_int_int, go_sem, go_cond, zA, zB, zC, zD, zE, zF, zG, zH, ↓reduceIte, zI, reduceCtorEq, zJ, zK, h, m_slices_Index_int_int]
theorem cloneI_E (xs : List Int) (h : xs.length ≤ 1048576) : E 93 [.arr (xs.map fun s => [D.int s])] [] = some (.ref 0, [.row 3 1 (xs.map fun s => [OT.int s])]) := by
  rw [E_extO (g := cloneI) (by unfold modes; rfl)]
  unfold cloneI
  simp only
  rw [dec_t ⟨fun e he => by obtain ⟨s, _, rfl⟩ := List.mem_map.1 he; exact ⟨s, rfl⟩, by simpa using h⟩, cond_true, List.map_map]
  rfl
theorem m_slices_Clone_int_int : modes 93 = ⟨[], .asis, some cloneI, false⟩ := by unfold modes; rfl
theorem copyTables_E (ts : List Tl) (hl : ts.length ≤ 1048576) (hv : ∀ t ∈ ts, t.vals.length ≤ 1048576) : E 50 [.arr (ts.map Tl.d)] [] = some (.ref 0, [.tree (ts.map Tl.o) []]) := by
  refine E_walk k_impl_copyTables m_impl_copyTables (of_decide_eq_true rfl) ?_
  simp (disch := omega) only [c_impl_copyTables, go_sem, go_cond, zA, zB, zC, zD, zE, zF, zG, zH, ↓reduceIte, zI, reduceCtorEq, zJ, zK]
  refine go_loop (α := Int) (fun a => ⟨slots 23 0 [(3, .ref 0), (7, .arr (ts.map Tl.d)), (8, .int .i64 ts.length), (9, .int .i64 a)], [.row 80 4 ((ts.take a.toNat).map Tl.o)]⟩) (fun a => ∃ k : Nat, a = k ∧ k ≤ (ts).length) (fun a => (ts).length - (a).toNat) 0 ⟨0, rfl, Nat.zero_le _⟩ (by simp (disch := omega) only [go_sem, go_cond, zA, zB, zC, zD, zE, zF, zG, zH, ↓reduceIte, zI, reduceCtorEq, zJ, zK]) ?_
  rintro i ⟨k, hi, hk⟩
  have hni : i.toNat = k := by omega
  have hni1 : (i + 1).toNat = k + 1 := by omega
  rcases Nat.lt_or_ge k (ts).length with hlt | hge
  · have hg := get_at Tl.d hlt
    rw [Tl.d_eq] at hg
    have hc := cloneI_E ts[k].vals (hv _ (List.getElem_mem hlt))
    have hs := map_snoc Tl.o hlt
    rw [Tl.o_eq] at hs
    have htl : (ts.take k).length = k := by rw [List.length_take]; omega
    simp (disch := omega) only [go_sem, go_cond, zA, zB, zC, zD, zE, zF, zG, zH, ↓reduceIte, zI, reduceCtorEq, zJ, zK, hni, hg, hc, htl, m_slices_Clone_int_int]
    refine ⟨i + 1, ⟨k + 1, by omega, hlt⟩, by omega, ?_⟩
    simp (disch := omega) only [go_sem, go_cond, zA, zB, zC, zD, zE, zF, zG, zH, ↓reduceIte, zI, reduceCtorEq, zJ, zK, hni1, hs]
  · obtain rfl : k = ts.length := by omega
    have ht : ts.take ts.length = ts := List.take_length
    simp (disch := omega) only [go_sem, go_cond, zA, zB, zC, zD, zE, zF, zG, zH, ↓reduceIte, zI, reduceCtorEq, zJ, zK, hni, ht, order, toTree]
end Go.Proofs.Ytolhlpglgheldaa
