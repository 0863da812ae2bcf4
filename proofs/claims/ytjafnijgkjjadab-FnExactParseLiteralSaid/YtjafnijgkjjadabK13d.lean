/-
  This text holds, one behind the other: This text tells what the steps of the program's reader answer. No condition.
  This text tells what the program's reader answers for a word. No condition.
  This text tells what the program's reader answers for a term. No condition.
  This text tells what the reference's reader answers for a term. No condition.
  This text tells what the program answers for the text of a term. No condition.
  This text tells what ParseTerm answers in both packages. No condition.
  This text holds the plain laws of the texts of atoms and literals. No condition.
  This text holds the plain laws of reading atoms. No condition.
  This text tells what ParseAtom answers in both packages. No condition.
  This text holds the plain laws of reading literals. No condition.
  This text tells what ParseLiteral answers in both packages. No condition.
  This text tells what the laws' marks answer. No condition.
  This text tells what the laws read of the marks. No condition.
  This text tells what the laws' marks of a record answer. No condition.
-/
import Derived.Test.YtjafnijgkjjadabK13c
set_option maxRecDepth 100000
set_option linter.unusedSimpArgs false
set_option linter.unusedVariables false
namespace Go.Proofs.Ytjafnijgkjjadab
open Go.RowKit

def c_impl_isLower : SC := (.seq (.reg [⟨(some 2), none, (.mv (.c (.bool false)))⟩]) (.seq (.reg [⟨(some 3), none, (.mv (.t 0))⟩, ⟨(some 4), none, (.bin .geq false (.t 3) (.c (.int .u8 97)))⟩, ⟨(some 5), none, (.mv (.t 4))⟩, ⟨(some 6), (some (5, true)), (.mv (.t 0))⟩, ⟨(some 7), (some (5, true)), (.bin .leq false (.t 6) (.c (.int .u8 122)))⟩, ⟨(some 8), none, (.pick (.t 5) (.t 7) (.c (.bool false)))⟩, ⟨(some 2), none, (.mv (.t 8))⟩]) .ret))
theorem k_impl_isLower : codeOf Try.prog 139 = some ⟨9, c_impl_isLower, [(.tmp 2)]⟩ := by kernel_rfl
theorem m_impl_isLower : modes 139 = ⟨[], .asis, none, false⟩ := by unfold modes; rfl

def c_impl_isUpper : SC := (.seq (.reg [⟨(some 2), none, (.mv (.c (.bool false)))⟩]) (.seq (.reg [⟨(some 3), none, (.mv (.t 0))⟩, ⟨(some 4), none, (.bin .geq false (.t 3) (.c (.int .u8 65)))⟩, ⟨(some 5), none, (.mv (.t 4))⟩, ⟨(some 6), (some (5, true)), (.mv (.t 0))⟩, ⟨(some 7), (some (5, true)), (.bin .leq false (.t 6) (.c (.int .u8 90)))⟩, ⟨(some 8), none, (.pick (.t 5) (.t 7) (.c (.bool false)))⟩, ⟨(some 2), none, (.mv (.t 8))⟩]) .ret))
theorem k_impl_isUpper : codeOf Try.prog 140 = some ⟨9, c_impl_isUpper, [(.tmp 2)]⟩ := by kernel_rfl
theorem m_impl_isUpper : modes 140 = ⟨[], .asis, none, false⟩ := by unfold modes; rfl

def c_impl_isDigit : SC := (.seq (.reg [⟨(some 2), none, (.mv (.c (.bool false)))⟩]) (.seq (.reg [⟨(some 3), none, (.mv (.t 0))⟩, ⟨(some 4), none, (.bin .geq false (.t 3) (.c (.int .u8 48)))⟩, ⟨(some 5), none, (.mv (.t 4))⟩, ⟨(some 6), (some (5, true)), (.mv (.t 0))⟩, ⟨(some 7), (some (5, true)), (.bin .leq false (.t 6) (.c (.int .u8 57)))⟩, ⟨(some 8), none, (.pick (.t 5) (.t 7) (.c (.bool false)))⟩, ⟨(some 2), none, (.mv (.t 8))⟩]) .ret))
theorem k_impl_isDigit : codeOf Try.prog 141 = some ⟨9, c_impl_isDigit, [(.tmp 2)]⟩ := by kernel_rfl
theorem m_impl_isDigit : modes 141 = ⟨[], .asis, none, false⟩ := by unfold modes; rfl

def c_spec_l3Word : SC := (.seq (.reg [⟨(some 2), none, (.mv (.c (.bool false)))⟩]) (.seq (.reg [⟨(some 3), none, (.mv (.t 0))⟩, ⟨(some 4), none, (.call 166 [(.t 3)])⟩, ⟨(some 5), none, (.mv (.t 4))⟩, ⟨(some 6), (some (5, false)), (.mv (.t 0))⟩, ⟨(some 7), (some (5, false)), (.bin .geq false (.t 6) (.c (.int .u8 65)))⟩, ⟨(some 8), (some (5, false)), (.mv (.t 7))⟩, ⟨(some 9), (some (8, true)), (.mv (.t 0))⟩, ⟨(some 10), (some (8, true)), (.bin .leq false (.t 9) (.c (.int .u8 90)))⟩, ⟨(some 11), (some (5, false)), (.pick (.t 8) (.t 10) (.c (.bool false)))⟩, ⟨(some 12), none, (.pick (.t 5) (.c (.bool true)) (.t 11))⟩, ⟨(some 13), none, (.mv (.t 12))⟩, ⟨(some 14), (some (13, false)), (.mv (.t 0))⟩, ⟨(some 15), (some (13, false)), (.bin .eql false (.t 14) (.c (.int .u8 95)))⟩, ⟨(some 16), none, (.pick (.t 13) (.c (.bool true)) (.t 15))⟩, ⟨(some 2), none, (.mv (.t 16))⟩]) .ret))
theorem k_spec_l3Word : codeOf Try.prog 138 = some ⟨17, c_spec_l3Word, [(.tmp 2)]⟩ := by kernel_rfl
theorem m_spec_l3Word : modes 138 = ⟨[], .asis, none, false⟩ := by unfold modes; rfl

def c_spec_l2Small : SC := (.seq (.reg [⟨(some 2), none, (.mv (.c (.bool false)))⟩]) (.seq (.reg [⟨(some 3), none, (.mv (.t 0))⟩, ⟨(some 4), none, (.bin .geq false (.t 3) (.c (.int .u8 97)))⟩, ⟨(some 5), none, (.mv (.t 4))⟩, ⟨(some 6), (some (5, true)), (.mv (.t 0))⟩, ⟨(some 7), (some (5, true)), (.bin .leq false (.t 6) (.c (.int .u8 122)))⟩, ⟨(some 8), none, (.pick (.t 5) (.t 7) (.c (.bool false)))⟩, ⟨(some 9), none, (.mv (.t 8))⟩, ⟨(some 10), (some (9, false)), (.mv (.t 0))⟩, ⟨(some 11), (some (9, false)), (.bin .geq false (.t 10) (.c (.int .u8 48)))⟩, ⟨(some 12), (some (9, false)), (.mv (.t 11))⟩, ⟨(some 13), (some (12, true)), (.mv (.t 0))⟩, ⟨(some 14), (some (12, true)), (.bin .leq false (.t 13) (.c (.int .u8 57)))⟩, ⟨(some 15), (some (9, false)), (.pick (.t 12) (.t 14) (.c (.bool false)))⟩, ⟨(some 16), none, (.pick (.t 9) (.c (.bool true)) (.t 15))⟩, ⟨(some 2), none, (.mv (.t 16))⟩]) .ret))
theorem k_spec_l2Small : codeOf Try.prog 166 = some ⟨17, c_spec_l2Small, [(.tmp 2)]⟩ := by kernel_rfl
theorem m_spec_l2Small : modes 166 = ⟨[], .asis, none, false⟩ := by unfold modes; rfl

def c_strings_HasPrefix : SC := (.seq (.reg [⟨(some 4), none, (.mv (.c (.bool false)))⟩]) (.seq (.reg [⟨(some 5), none, (.mv (.t 0))⟩, ⟨(some 6), none, (.mv (.t 1))⟩, ⟨(some 7), none, (.call 183 [(.t 5), (.t 6)])⟩, ⟨(some 4), none, (.mv (.t 7))⟩]) .ret))
theorem k_strings_HasPrefix : codeOf Try.prog 170 = some ⟨8, c_strings_HasPrefix, [(.tmp 4)]⟩ := by kernel_rfl
theorem m_strings_HasPrefix : modes 170 = ⟨[], .asis, none, false⟩ := by unfold modes; rfl

def c_internal_stringslite_HasPrefix : SC := (.seq (.reg [⟨(some 4), none, (.mv (.c (.bool false)))⟩]) (.seq (.reg [⟨(some 5), none, (.mv (.t 0))⟩, ⟨(some 6), none, (.len true (.t 5))⟩, ⟨(some 7), none, (.mv (.t 1))⟩, ⟨(some 8), none, (.len true (.t 7))⟩, ⟨(some 9), none, (.bin .geq false (.t 6) (.t 8))⟩, ⟨(some 10), none, (.mv (.t 9))⟩, ⟨(some 11), (some (10, true)), (.mv (.t 0))⟩, ⟨(some 12), (some (10, true)), (.mv (.t 1))⟩, ⟨(some 13), (some (10, true)), (.len true (.t 12))⟩, ⟨(some 14), (some (10, true)), (.slice true 0 (.t 11) none (some (.t 13)))⟩, ⟨(some 15), (some (10, true)), (.mv (.t 1))⟩, ⟨(some 16), (some (10, true)), (.bin .eql false (.t 14) (.t 15))⟩, ⟨(some 17), none, (.pick (.t 10) (.t 16) (.c (.bool false)))⟩, ⟨(some 4), none, (.mv (.t 17))⟩]) .ret))
theorem k_internal_stringslite_HasPrefix : codeOf Try.prog 183 = some ⟨18, c_internal_stringslite_HasPrefix, [(.tmp 4)]⟩ := by kernel_rfl
theorem m_internal_stringslite_HasPrefix : modes 183 = ⟨[], .asis, none, false⟩ := by unfold modes; rfl

def c_impl_parser_has : SC := (.seq (.reg [⟨(some 4), none, (.mv (.c (.bool false)))⟩]) (.seq (.dreg [[], [0], [1, 0], [2, 1, 0], [3, 2, 1, 0], [4, 3, 2, 1, 0], [5, 4, 3, 2, 1, 0], [6, 5, 4, 3, 2, 1, 0], [7, 6, 5, 4, 3, 2, 1, 0], [8, 7, 6, 5, 4, 3, 2, 1, 0], [5, 4, 3, 2, 1, 0], [10, 5, 4, 3, 2, 1, 0], [11, 10, 5, 4, 3, 2, 1, 0], [12, 11, 10, 5, 4, 3, 2, 1, 0], [9, 8, 7, 6, 5, 4, 3, 2, 1, 0, 13, 12, 11, 10], [5, 4, 3, 2, 1, 0], [14, 9, 8, 7, 6, 5, 4, 3, 2, 1, 0, 13, 12, 11, 10, 15], [5, 4, 3, 2, 1, 0, 16, 14, 9, 8, 7, 6, 13, 12, 11, 10, 15], [17, 5, 4, 3, 2, 1, 0, 16, 14, 9, 8, 7, 6, 13, 12, 11, 10, 15]] [⟨(some 5), none, (.mv (.t 0))⟩, ⟨(some 6), none, (.nilchk (.t 5))⟩, ⟨(some 7), none, (.faddr 2 (.t 6))⟩, ⟨(some 8), none, (.load false 1 (.t 7))⟩, ⟨(some 9), none, (.un .not (.t 8))⟩, ⟨(some 10), none, (.mv (.t 9))⟩, ⟨(some 11), (some (10, true)), (.mv (.t 0))⟩, ⟨(some 12), (some (10, true)), (.nilchk (.t 11))⟩, ⟨(some 13), (some (10, true)), (.faddr 0 (.t 12))⟩, ⟨(some 14), (some (10, true)), (.load false 1 (.t 13))⟩, ⟨(some 15), (some (10, true)), (.mv (.t 0))⟩, ⟨(some 16), (some (10, true)), (.nilchk (.t 15))⟩, ⟨(some 17), (some (10, true)), (.faddr 1 (.t 16))⟩, ⟨(some 18), (some (10, true)), (.load false 1 (.t 17))⟩, ⟨(some 19), (some (10, true)), (.slice true 0 (.t 14) (some (.t 18)) none)⟩, ⟨(some 20), (some (10, true)), (.mv (.t 1))⟩, ⟨(some 21), (some (10, true)), (.call 170 [(.t 19), (.t 20)])⟩, ⟨(some 22), none, (.pick (.t 10) (.t 21) (.c (.bool false)))⟩, ⟨(some 4), none, (.mv (.t 22))⟩]) .ret))
theorem k_impl_parser_has : codeOf Try.prog 142 = some ⟨23, c_impl_parser_has, [(.tmp 4)]⟩ := by kernel_rfl
theorem m_impl_parser_has : modes 142 = ⟨[], .asis, none, false⟩ := by unfold modes; rfl

def c_impl_parser_take : SC := (.seq (.reg [⟨(some 4), none, (.mv (.c (.bool false)))⟩]) (.seq (.reg [⟨(some 6), none, (.mv (.t 0))⟩, ⟨(some 7), none, (.mv (.t 1))⟩, ⟨(some 8), none, (.call 142 [(.t 6), (.t 7)])⟩, ⟨(some 5), none, (.mv (.t 8))⟩]) (.seq (.seq (.reg [⟨(some 9), none, (.mv (.t 5))⟩]) (.cond (.t 9) (.reg [⟨(some 10), none, (.mv (.t 0))⟩, ⟨(some 11), none, (.nilchk (.t 10))⟩, ⟨(some 12), none, (.faddr 1 (.t 11))⟩, ⟨(some 13), none, (.load false 1 (.t 12))⟩, ⟨(some 14), none, (.mv (.t 1))⟩, ⟨(some 15), none, (.len true (.t 14))⟩, ⟨(some 16), none, (.bin .add false (.t 13) (.t 15))⟩, ⟨(some 17), none, (.nilchk (.t 10))⟩, ⟨(some 18), none, (.faddr 1 (.t 17))⟩, ⟨none, none, (.store 1 (.t 18) (.t 16))⟩]) .skip)) (.seq (.reg [⟨(some 19), none, (.mv (.t 5))⟩, ⟨(some 4), none, (.mv (.t 19))⟩]) .ret))))
theorem k_impl_parser_take : codeOf Try.prog 93 = some ⟨20, c_impl_parser_take, [(.tmp 4)]⟩ := by kernel_rfl
theorem m_impl_parser_take : modes 93 = ⟨[], .asis, none, false⟩ := by unfold modes; rfl

def c_impl_parser_must : SC := (.seq (.reg [⟨(some 4), none, (.mv (.t 0))⟩, ⟨(some 5), none, (.mv (.t 1))⟩, ⟨(some 6), none, (.call 93 [(.t 4), (.t 5)])⟩, ⟨(some 7), none, (.un .not (.t 6))⟩]) (.cond (.t 7) (.reg [⟨(some 8), none, (.mv (.t 0))⟩, ⟨(some 9), none, (.nilchk (.t 8))⟩, ⟨(some 10), none, (.faddr 2 (.t 9))⟩, ⟨none, none, (.store 1 (.t 10) (.c (.bool true)))⟩]) .skip))
theorem k_impl_parser_must : codeOf Try.prog 94 = some ⟨11, c_impl_parser_must, []⟩ := by kernel_rfl
theorem m_impl_parser_must : modes 94 = ⟨[], .asis, none, false⟩ := by unfold modes; rfl

def c_impl_parser_ended : SC := (.seq (.reg [⟨(some 2), none, (.mv (.c (.bool false)))⟩]) (.seq (.dreg [[], [0], [1, 0], [2, 1, 0], [3, 2, 1, 0], [4, 3, 2, 1, 0], [5, 4, 3, 2, 1, 0], [6, 5, 4, 3, 2, 1, 0], [7, 6, 5, 4, 3, 2, 1, 0], [8, 7, 6, 5, 4, 3, 2, 1, 0], [5, 4, 3, 2, 1, 0], [10, 5, 4, 3, 2, 1, 0], [11, 10, 5, 4, 3, 2, 1, 0], [12, 11, 10, 5, 4, 3, 2, 1, 0], [13, 12, 11, 10, 5, 4, 3, 2, 1, 0], [9, 8, 7, 6, 5, 4, 3, 2, 1, 0, 14, 13, 12, 11, 10], [5, 4, 3, 2, 1, 0, 15, 9, 8, 7, 6, 14, 13, 12, 11, 10], [16, 5, 4, 3, 2, 1, 0, 15, 9, 8, 7, 6, 14, 13, 12, 11, 10]] [⟨(some 3), none, (.mv (.t 0))⟩, ⟨(some 4), none, (.nilchk (.t 3))⟩, ⟨(some 5), none, (.faddr 2 (.t 4))⟩, ⟨(some 6), none, (.load false 1 (.t 5))⟩, ⟨(some 7), none, (.un .not (.t 6))⟩, ⟨(some 8), none, (.mv (.t 7))⟩, ⟨(some 9), (some (8, true)), (.mv (.t 0))⟩, ⟨(some 10), (some (8, true)), (.nilchk (.t 9))⟩, ⟨(some 11), (some (8, true)), (.faddr 1 (.t 10))⟩, ⟨(some 12), (some (8, true)), (.load false 1 (.t 11))⟩, ⟨(some 13), (some (8, true)), (.mv (.t 0))⟩, ⟨(some 14), (some (8, true)), (.nilchk (.t 13))⟩, ⟨(some 15), (some (8, true)), (.faddr 0 (.t 14))⟩, ⟨(some 16), (some (8, true)), (.load false 1 (.t 15))⟩, ⟨(some 17), (some (8, true)), (.len true (.t 16))⟩, ⟨(some 18), (some (8, true)), (.bin .eql false (.t 12) (.t 17))⟩, ⟨(some 19), none, (.pick (.t 8) (.t 18) (.c (.bool false)))⟩, ⟨(some 2), none, (.mv (.t 19))⟩]) .ret))
theorem k_impl_parser_ended : codeOf Try.prog 47 = some ⟨20, c_impl_parser_ended, [(.tmp 2)]⟩ := by kernel_rfl
theorem m_impl_parser_ended : modes 47 = ⟨[], .asis, none, false⟩ := by unfold modes; rfl

def c_impl_parser_word : SC := (.seq (.reg [⟨(some 2), none, (.mv (.c (.str ⟨#[]⟩)))⟩]) (.seq (.reg [⟨(some 4), none, (.mv (.t 0))⟩, ⟨(some 5), none, (.nilchk (.t 4))⟩, ⟨(some 6), none, (.faddr 1 (.t 5))⟩, ⟨(some 7), none, (.load false 1 (.t 6))⟩, ⟨(some 3), none, (.mv (.t 7))⟩]) (.seq (.block 0 (.loop [1, 0, 0, 1, 0, 0, 0, 0, 0, 0, 0, 0, 0, 0, 0, 0, 0, 0, 0, 0, 0, 0, 0, 0, 0, 0, 0, 0, 0, 0, 0, 0, 0, 0, 0, 0, 0, 0, 0, 0, 0, 0, 0, 0, 0, 0, 0, 0, 0, 0, 0, 0, 0, 0, 0, 0, 0, 0, 0, 0, 0, 0, 0, 0, 0, 0, 0, 0, 0, 0, 0, 0, 0, 0, 0, 0, 0, 0, 0, 0, 0, 0, 0, 0, 0, 0, 0, 0, 0, 0, 0, 0, 0, 0, 0, 0, 0, 0] (.seq (.seq (.dreg [[], [0], [1, 0], [2, 1, 0], [], [4], [5, 4], [6, 5, 4], [7, 6, 5, 4], [3, 2, 1, 0, 8, 7, 6, 5, 4], [9, 3, 2, 1, 0, 8, 7, 6, 5, 4], [10, 9, 3, 2, 1, 0, 8, 7, 6, 5, 4], [11, 10, 9, 3, 2, 1, 0, 8, 7, 6, 5, 4], [12, 11, 10, 9, 3, 2, 1, 0, 8, 7, 6, 5, 4], [13, 12, 11, 10, 9, 3, 2, 1, 0, 8, 7, 6, 5, 4], [10, 9, 3, 2, 1, 0, 8, 7, 6, 5, 4], [15, 10, 9, 3, 2, 1, 0, 8, 7, 6, 5, 4], [16, 15, 10, 9, 3, 2, 1, 0, 8, 7, 6, 5, 4], [17, 16, 15, 10, 9, 3, 2, 1, 0, 8, 7, 6, 5, 4], [14, 13, 12, 11, 10, 9, 3, 2, 1, 0, 8, 7, 6, 5, 4, 18, 17, 16, 15], [19, 14, 13, 12, 11, 10, 9, 3, 2, 1, 0, 8, 7, 6, 5, 4, 18, 17, 16, 15], [20, 19, 14, 13, 12, 11, 10, 9, 3, 2, 1, 0, 8, 7, 6, 5, 4, 18, 17, 16, 15], [21, 20, 19, 14, 13, 12, 11, 10, 9, 3, 2, 1, 0, 8, 7, 6, 5, 4, 18, 17, 16, 15], [22, 21, 20, 19, 14, 13, 12, 11, 10, 9, 3, 2, 1, 0, 8, 7, 6, 5, 4, 18, 17, 16, 15], [23, 22, 21, 20, 19, 14, 13, 12, 11, 10, 9, 3, 2, 1, 0, 8, 7, 6, 5, 4, 18, 17, 16, 15], [24, 23, 22, 21, 20, 19, 14, 13, 12, 11, 10, 9, 3, 2, 1, 0, 8, 7, 6, 5, 4, 18, 17, 16, 15], [21, 20, 19, 14, 13, 12, 11, 10, 9, 3, 2, 1, 0, 8, 7, 6, 5, 4, 18, 17, 16, 15], [26, 21, 20, 19, 14, 13, 12, 11, 10, 9, 3, 2, 1, 0, 8, 7, 6, 5, 4, 18, 17, 16, 15], [27, 26, 21, 20, 19, 14, 13, 12, 11, 10, 9, 3, 2, 1, 0, 8, 7, 6, 5, 4, 18, 17, 16, 15], [28, 27, 26, 21, 20, 19, 14, 13, 12, 11, 10, 9, 3, 2, 1, 0, 8, 7, 6, 5, 4, 18, 17, 16, 15], [25, 24, 23, 22, 21, 20, 19, 14, 13, 12, 11, 10, 9, 3, 2, 1, 0, 8, 7, 6, 5, 4, 18, 17, 16, 15, 29, 28, 27, 26], [30, 25, 24, 23, 22, 21, 20, 19, 14, 13, 12, 11, 10, 9, 3, 2, 1, 0, 8, 7, 6, 5, 4, 18, 17, 16, 15, 29, 28, 27, 26], [21, 20, 19, 14, 13, 12, 11, 10, 9, 3, 2, 1, 0, 8, 7, 6, 5, 4, 18, 17, 16, 15, 31, 30, 25, 24, 23, 22, 29, 28, 27, 26], [32, 21, 20, 19, 14, 13, 12, 11, 10, 9, 3, 2, 1, 0, 8, 7, 6, 5, 4, 18, 17, 16, 15, 31, 30, 25, 24, 23, 22, 29, 28, 27, 26], [33, 32, 21, 20, 19, 14, 13, 12, 11, 10, 9, 3, 2, 1, 0, 8, 7, 6, 5, 4, 18, 17, 16, 15, 31, 30, 25, 24, 23, 22, 29, 28, 27, 26], [34, 33, 32, 21, 20, 19, 14, 13, 12, 11, 10, 9, 3, 2, 1, 0, 8, 7, 6, 5, 4, 18, 17, 16, 15, 31, 30, 25, 24, 23, 22, 29, 28, 27, 26], [35, 34, 33, 32, 21, 20, 19, 14, 13, 12, 11, 10, 9, 3, 2, 1, 0, 8, 7, 6, 5, 4, 18, 17, 16, 15, 31, 30, 25, 24, 23, 22, 29, 28, 27, 26], [36, 35, 34, 33, 32, 21, 20, 19, 14, 13, 12, 11, 10, 9, 3, 2, 1, 0, 8, 7, 6, 5, 4, 18, 17, 16, 15, 31, 30, 25, 24, 23, 22, 29, 28, 27, 26], [33, 32, 21, 20, 19, 14, 13, 12, 11, 10, 9, 3, 2, 1, 0, 8, 7, 6, 5, 4, 18, 17, 16, 15, 31, 30, 25, 24, 23, 22, 29, 28, 27, 26], [38, 33, 32, 21, 20, 19, 14, 13, 12, 11, 10, 9, 3, 2, 1, 0, 8, 7, 6, 5, 4, 18, 17, 16, 15, 31, 30, 25, 24, 23, 22, 29, 28, 27, 26], [39, 38, 33, 32, 21, 20, 19, 14, 13, 12, 11, 10, 9, 3, 2, 1, 0, 8, 7, 6, 5, 4, 18, 17, 16, 15, 31, 30, 25, 24, 23, 22, 29, 28, 27, 26], [40, 39, 38, 33, 32, 21, 20, 19, 14, 13, 12, 11, 10, 9, 3, 2, 1, 0, 8, 7, 6, 5, 4, 18, 17, 16, 15, 31, 30, 25, 24, 23, 22, 29, 28, 27, 26], [37, 36, 35, 34, 33, 32, 21, 20, 19, 14, 13, 12, 11, 10, 9, 3, 2, 1, 0, 8, 7, 6, 5, 4, 18, 17, 16, 15, 31, 30, 25, 24, 23, 22, 29, 28, 27, 26, 41, 40, 39, 38], [42, 37, 36, 35, 34, 33, 32, 21, 20, 19, 14, 13, 12, 11, 10, 9, 3, 2, 1, 0, 8, 7, 6, 5, 4, 18, 17, 16, 15, 31, 30, 25, 24, 23, 22, 29, 28, 27, 26, 41, 40, 39, 38], [33, 32, 21, 20, 19, 14, 13, 12, 11, 10, 9, 3, 2, 1, 0, 8, 7, 6, 5, 4, 18, 17, 16, 15, 31, 30, 25, 24, 23, 22, 29, 28, 27, 26, 43, 42, 37, 36, 35, 34, 41, 40, 39, 38], [44, 33, 32, 21, 20, 19, 14, 13, 12, 11, 10, 9, 3, 2, 1, 0, 8, 7, 6, 5, 4, 18, 17, 16, 15, 31, 30, 25, 24, 23, 22, 29, 28, 27, 26, 43, 42, 37, 36, 35, 34, 41, 40, 39, 38], [45, 44, 33, 32, 21, 20, 19, 14, 13, 12, 11, 10, 9, 3, 2, 1, 0, 8, 7, 6, 5, 4, 18, 17, 16, 15, 31, 30, 25, 24, 23, 22, 29, 28, 27, 26, 43, 42, 37, 36, 35, 34, 41, 40, 39, 38], [46, 45, 44, 33, 32, 21, 20, 19, 14, 13, 12, 11, 10, 9, 3, 2, 1, 0, 8, 7, 6, 5, 4, 18, 17, 16, 15, 31, 30, 25, 24, 23, 22, 29, 28, 27, 26, 43, 42, 37, 36, 35, 34, 41, 40, 39, 38], [47, 46, 45, 44, 33, 32, 21, 20, 19, 14, 13, 12, 11, 10, 9, 3, 2, 1, 0, 8, 7, 6, 5, 4, 18, 17, 16, 15, 31, 30, 25, 24, 23, 22, 29, 28, 27, 26, 43, 42, 37, 36, 35, 34, 41, 40, 39, 38], [48, 47, 46, 45, 44, 33, 32, 21, 20, 19, 14, 13, 12, 11, 10, 9, 3, 2, 1, 0, 8, 7, 6, 5, 4, 18, 17, 16, 15, 31, 30, 25, 24, 23, 22, 29, 28, 27, 26, 43, 42, 37, 36, 35, 34, 41, 40, 39, 38], [45, 44, 33, 32, 21, 20, 19, 14, 13, 12, 11, 10, 9, 3, 2, 1, 0, 8, 7, 6, 5, 4, 18, 17, 16, 15, 31, 30, 25, 24, 23, 22, 29, 28, 27, 26, 43, 42, 37, 36, 35, 34, 41, 40, 39, 38], [50, 45, 44, 33, 32, 21, 20, 19, 14, 13, 12, 11, 10, 9, 3, 2, 1, 0, 8, 7, 6, 5, 4, 18, 17, 16, 15, 31, 30, 25, 24, 23, 22, 29, 28, 27, 26, 43, 42, 37, 36, 35, 34, 41, 40, 39, 38], [51, 50, 45, 44, 33, 32, 21, 20, 19, 14, 13, 12, 11, 10, 9, 3, 2, 1, 0, 8, 7, 6, 5, 4, 18, 17, 16, 15, 31, 30, 25, 24, 23, 22, 29, 28, 27, 26, 43, 42, 37, 36, 35, 34, 41, 40, 39, 38], [52, 51, 50, 45, 44, 33, 32, 21, 20, 19, 14, 13, 12, 11, 10, 9, 3, 2, 1, 0, 8, 7, 6, 5, 4, 18, 17, 16, 15, 31, 30, 25, 24, 23, 22, 29, 28, 27, 26, 43, 42, 37, 36, 35, 34, 41, 40, 39, 38], [49, 48, 47, 46, 45, 44, 33, 32, 21, 20, 19, 14, 13, 12, 11, 10, 9, 3, 2, 1, 0, 8, 7, 6, 5, 4, 18, 17, 16, 15, 31, 30, 25, 24, 23, 22, 29, 28, 27, 26, 43, 42, 37, 36, 35, 34, 41, 40, 39, 38, 53, 52, 51, 50], [54, 49, 48, 47, 46, 45, 44, 33, 32, 21, 20, 19, 14, 13, 12, 11, 10, 9, 3, 2, 1, 0, 8, 7, 6, 5, 4, 18, 17, 16, 15, 31, 30, 25, 24, 23, 22, 29, 28, 27, 26, 43, 42, 37, 36, 35, 34, 41, 40, 39, 38, 53, 52, 51, 50], [45, 44, 33, 32, 21, 20, 19, 14, 13, 12, 11, 10, 9, 3, 2, 1, 0, 8, 7, 6, 5, 4, 18, 17, 16, 15, 31, 30, 25, 24, 23, 22, 29, 28, 27, 26, 43, 42, 37, 36, 35, 34, 41, 40, 39, 38, 55, 54, 49, 48, 47, 46, 53, 52, 51, 50], [10, 9, 3, 2, 1, 0, 8, 7, 6, 5, 4, 56, 45, 44, 33, 32, 21, 20, 19, 14, 13, 12, 11, 18, 17, 16, 15, 31, 30, 25, 24, 23, 22, 29, 28, 27, 26, 43, 42, 37, 36, 35, 34, 41, 40, 39, 38, 55, 54, 49, 48, 47, 46, 53, 52, 51, 50]] [⟨(some 8), none, (.mv (.t 0))⟩, ⟨(some 9), none, (.nilchk (.t 8))⟩, ⟨(some 10), none, (.faddr 1 (.t 9))⟩, ⟨(some 11), none, (.load false 1 (.t 10))⟩, ⟨(some 12), none, (.mv (.t 0))⟩, ⟨(some 13), none, (.nilchk (.t 12))⟩, ⟨(some 14), none, (.faddr 0 (.t 13))⟩, ⟨(some 15), none, (.load false 1 (.t 14))⟩, ⟨(some 16), none, (.len true (.t 15))⟩, ⟨(some 17), none, (.bin .lss false (.t 11) (.t 16))⟩, ⟨(some 18), none, (.mv (.t 17))⟩, ⟨(some 19), (some (18, true)), (.mv (.t 0))⟩, ⟨(some 20), (some (18, true)), (.nilchk (.t 19))⟩, ⟨(some 21), (some (18, true)), (.faddr 0 (.t 20))⟩, ⟨(some 22), (some (18, true)), (.load false 1 (.t 21))⟩, ⟨(some 23), (some (18, true)), (.mv (.t 0))⟩, ⟨(some 24), (some (18, true)), (.nilchk (.t 23))⟩, ⟨(some 25), (some (18, true)), (.faddr 1 (.t 24))⟩, ⟨(some 26), (some (18, true)), (.load false 1 (.t 25))⟩, ⟨(some 27), (some (18, true)), (.idx (.t 22) (.t 26))⟩, ⟨(some 28), (some (18, true)), (.call 139 [(.t 27)])⟩, ⟨(some 29), (some (18, true)), (.mv (.t 28))⟩, ⟨(some 30), (some (29, false)), (.mv (.t 0))⟩, ⟨(some 31), (some (29, false)), (.nilchk (.t 30))⟩, ⟨(some 32), (some (29, false)), (.faddr 0 (.t 31))⟩, ⟨(some 33), (some (29, false)), (.load false 1 (.t 32))⟩, ⟨(some 34), (some (29, false)), (.mv (.t 0))⟩, ⟨(some 35), (some (29, false)), (.nilchk (.t 34))⟩, ⟨(some 36), (some (29, false)), (.faddr 1 (.t 35))⟩, ⟨(some 37), (some (29, false)), (.load false 1 (.t 36))⟩, ⟨(some 38), (some (29, false)), (.idx (.t 33) (.t 37))⟩, ⟨(some 39), (some (29, false)), (.call 140 [(.t 38)])⟩, ⟨(some 40), (some (18, true)), (.pick (.t 29) (.c (.bool true)) (.t 39))⟩, ⟨(some 41), (some (18, true)), (.mv (.t 40))⟩, ⟨(some 42), (some (41, false)), (.mv (.t 0))⟩, ⟨(some 43), (some (41, false)), (.nilchk (.t 42))⟩, ⟨(some 44), (some (41, false)), (.faddr 0 (.t 43))⟩, ⟨(some 45), (some (41, false)), (.load false 1 (.t 44))⟩, ⟨(some 46), (some (41, false)), (.mv (.t 0))⟩, ⟨(some 47), (some (41, false)), (.nilchk (.t 46))⟩, ⟨(some 48), (some (41, false)), (.faddr 1 (.t 47))⟩, ⟨(some 49), (some (41, false)), (.load false 1 (.t 48))⟩, ⟨(some 50), (some (41, false)), (.idx (.t 45) (.t 49))⟩, ⟨(some 51), (some (41, false)), (.call 141 [(.t 50)])⟩, ⟨(some 52), (some (18, true)), (.pick (.t 41) (.c (.bool true)) (.t 51))⟩, ⟨(some 53), (some (18, true)), (.mv (.t 52))⟩, ⟨(some 54), (some (53, false)), (.mv (.t 0))⟩, ⟨(some 55), (some (53, false)), (.nilchk (.t 54))⟩, ⟨(some 56), (some (53, false)), (.faddr 0 (.t 55))⟩, ⟨(some 57), (some (53, false)), (.load false 1 (.t 56))⟩, ⟨(some 58), (some (53, false)), (.mv (.t 0))⟩, ⟨(some 59), (some (53, false)), (.nilchk (.t 58))⟩, ⟨(some 60), (some (53, false)), (.faddr 1 (.t 59))⟩, ⟨(some 61), (some (53, false)), (.load false 1 (.t 60))⟩, ⟨(some 62), (some (53, false)), (.idx (.t 57) (.t 61))⟩, ⟨(some 63), (some (53, false)), (.bin .eql false (.t 62) (.c (.int .u8 95)))⟩, ⟨(some 64), (some (18, true)), (.pick (.t 53) (.c (.bool true)) (.t 63))⟩, ⟨(some 65), none, (.pick (.t 18) (.t 64) (.c (.bool false)))⟩]) (.cond (.t 65) .skip (.exit 0))) (.block 1 (.reg [⟨(some 66), none, (.mv (.t 0))⟩, ⟨(some 67), none, (.nilchk (.t 66))⟩, ⟨(some 68), none, (.faddr 1 (.t 67))⟩, ⟨(some 69), none, (.load false 1 (.t 68))⟩, ⟨(some 70), none, (.bin .add false (.t 69) (.c (.int .i64 1)))⟩, ⟨(some 71), none, (.nilchk (.t 66))⟩, ⟨(some 72), none, (.faddr 1 (.t 71))⟩, ⟨none, none, (.store 1 (.t 72) (.t 70))⟩]))))) (.seq (.seq (.reg [⟨(some 73), none, (.mv (.t 0))⟩, ⟨(some 74), none, (.nilchk (.t 73))⟩, ⟨(some 75), none, (.faddr 2 (.t 74))⟩, ⟨(some 76), none, (.load false 1 (.t 75))⟩, ⟨(some 77), none, (.mv (.t 76))⟩, ⟨(some 78), (some (77, false)), (.mv (.t 3))⟩, ⟨(some 79), (some (77, false)), (.mv (.t 0))⟩, ⟨(some 80), (some (77, false)), (.nilchk (.t 79))⟩, ⟨(some 81), (some (77, false)), (.faddr 1 (.t 80))⟩, ⟨(some 82), (some (77, false)), (.load false 1 (.t 81))⟩, ⟨(some 83), (some (77, false)), (.bin .eql false (.t 78) (.t 82))⟩, ⟨(some 84), none, (.pick (.t 77) (.c (.bool true)) (.t 83))⟩]) (.cond (.t 84) (.seq (.reg [⟨(some 85), none, (.mv (.t 0))⟩, ⟨(some 86), none, (.nilchk (.t 85))⟩, ⟨(some 87), none, (.faddr 2 (.t 86))⟩, ⟨none, none, (.store 1 (.t 87) (.c (.bool true)))⟩]) (.seq (.reg [⟨(some 2), none, (.mv (.c (.str ⟨#[]⟩)))⟩]) .ret)) .skip)) (.seq (.dreg [[], [0], [1, 0], [2, 1, 0], [], [], [5], [6, 5], [7, 6, 5], [3, 2, 1, 0, 4, 8, 7, 6, 5], [9, 3, 2, 1, 0, 4, 8, 7, 6, 5]] [⟨(some 88), none, (.mv (.t 0))⟩, ⟨(some 89), none, (.nilchk (.t 88))⟩, ⟨(some 90), none, (.faddr 0 (.t 89))⟩, ⟨(some 91), none, (.load false 1 (.t 90))⟩, ⟨(some 92), none, (.mv (.t 3))⟩, ⟨(some 93), none, (.mv (.t 0))⟩, ⟨(some 94), none, (.nilchk (.t 93))⟩, ⟨(some 95), none, (.faddr 1 (.t 94))⟩, ⟨(some 96), none, (.load false 1 (.t 95))⟩, ⟨(some 97), none, (.slice true 0 (.t 91) (some (.t 92)) (some (.t 96)))⟩, ⟨(some 2), none, (.mv (.t 97))⟩]) .ret)))))
theorem k_impl_parser_word : codeOf Try.prog 92 = some ⟨98, c_impl_parser_word, [(.tmp 2)]⟩ := by kernel_rfl
theorem m_impl_parser_word : modes 92 = ⟨[], .asis, none, false⟩ := by unfold modes; rfl

theorem pLower_E (n : Int) : E 139 [.int .u8 n] [] = some (.bool (dec (97 ≤ n) && dec (n ≤ 122)), []) := by
  cases h1 : dec (97 ≤ n)
  · refine E_walk k_impl_isLower m_impl_isLower (of_decide_eq_true rfl) ?_
    simp (disch := omega) only [c_impl_isLower, go_sem, Nat.reduceAdd, Nat.reduceSub, Nat.reduceLT, Nat.reduceLeDiff, Nat.reduceEqDiff, Nat.reduceBEq, Nat.reduceBneDiff, Nat.reduceMul, ↓reduceIte, Int.reduceToNat, reduceCtorEq, Int.reduceNeg, Int.reduceAdd, h1]
  · refine E_walk k_impl_isLower m_impl_isLower (of_decide_eq_true rfl) ?_
    simp (disch := omega) only [c_impl_isLower, go_sem, Nat.reduceAdd, Nat.reduceSub, Nat.reduceLT, Nat.reduceLeDiff, Nat.reduceEqDiff, Nat.reduceBEq, Nat.reduceBneDiff, Nat.reduceMul, ↓reduceIte, Int.reduceToNat, reduceCtorEq, Int.reduceNeg, Int.reduceAdd, h1]
theorem pUpper_E (n : Int) : E 140 [.int .u8 n] [] = some (.bool (dec (65 ≤ n) && dec (n ≤ 90)), []) := by
  cases h1 : dec (65 ≤ n)
  · refine E_walk k_impl_isUpper m_impl_isUpper (of_decide_eq_true rfl) ?_
    simp (disch := omega) only [c_impl_isUpper, go_sem, Nat.reduceAdd, Nat.reduceSub, Nat.reduceLT, Nat.reduceLeDiff, Nat.reduceEqDiff, Nat.reduceBEq, Nat.reduceBneDiff, Nat.reduceMul, ↓reduceIte, Int.reduceToNat, reduceCtorEq, Int.reduceNeg, Int.reduceAdd, h1]
  · refine E_walk k_impl_isUpper m_impl_isUpper (of_decide_eq_true rfl) ?_
    simp (disch := omega) only [c_impl_isUpper, go_sem, Nat.reduceAdd, Nat.reduceSub, Nat.reduceLT, Nat.reduceLeDiff, Nat.reduceEqDiff, Nat.reduceBEq, Nat.reduceBneDiff, Nat.reduceMul, ↓reduceIte, Int.reduceToNat, reduceCtorEq, Int.reduceNeg, Int.reduceAdd, h1]
theorem pDigit_E (n : Int) : E 141 [.int .u8 n] [] = some (.bool (dec (48 ≤ n) && dec (n ≤ 57)), []) := by
  cases h1 : dec (48 ≤ n)
  · refine E_walk k_impl_isDigit m_impl_isDigit (of_decide_eq_true rfl) ?_
    simp (disch := omega) only [c_impl_isDigit, go_sem, Nat.reduceAdd, Nat.reduceSub, Nat.reduceLT, Nat.reduceLeDiff, Nat.reduceEqDiff, Nat.reduceBEq, Nat.reduceBneDiff, Nat.reduceMul, ↓reduceIte, Int.reduceToNat, reduceCtorEq, Int.reduceNeg, Int.reduceAdd, h1]
  · refine E_walk k_impl_isDigit m_impl_isDigit (of_decide_eq_true rfl) ?_
    simp (disch := omega) only [c_impl_isDigit, go_sem, Nat.reduceAdd, Nat.reduceSub, Nat.reduceLT, Nat.reduceLeDiff, Nat.reduceEqDiff, Nat.reduceBEq, Nat.reduceBneDiff, Nat.reduceMul, ↓reduceIte, Int.reduceToNat, reduceCtorEq, Int.reduceNeg, Int.reduceAdd, h1]
/-- Whether a text begins with another. -/
noncomputable def preB (a b : ByteArray) : Bool := dec (b.size ≤ a.size) && dec (a.extract 0 b.size = b)
theorem litePrefix_E (a b : ByteArray) : E 183 [.str a, .str b] [] = some (.bool (preB a b), []) := by
  unfold preB
  by_cases h : b.size ≤ a.size
  · have h1 : ((b.size : Int) ≤ (a.size : Int)) = True := eq_true (by omega)
    rw [dec_t h, Bool.true_and]
    refine E_walk k_internal_stringslite_HasPrefix m_internal_stringslite_HasPrefix (of_decide_eq_true rfl) ?_
    simp (disch := omega) only [c_internal_stringslite_HasPrefix, go_sem, Nat.reduceAdd, Nat.reduceSub, Nat.reduceLT, Nat.reduceLeDiff, Nat.reduceEqDiff, Nat.reduceBEq, Nat.reduceBneDiff, Nat.reduceMul, ↓reduceIte, Int.reduceToNat, reduceCtorEq, Int.reduceNeg, Int.reduceAdd, h1, Int.toNat_zero]
  · have h1 : ((b.size : Int) ≤ (a.size : Int)) = False := eq_false (by omega)
    rw [dec_f h, Bool.false_and]
    refine E_walk k_internal_stringslite_HasPrefix m_internal_stringslite_HasPrefix (of_decide_eq_true rfl) ?_
    simp (disch := omega) only [c_internal_stringslite_HasPrefix, go_sem, Nat.reduceAdd, Nat.reduceSub, Nat.reduceLT, Nat.reduceLeDiff, Nat.reduceEqDiff, Nat.reduceBEq, Nat.reduceBneDiff, Nat.reduceMul, ↓reduceIte, Int.reduceToNat, reduceCtorEq, Int.reduceNeg, Int.reduceAdd, h1]
theorem hasPrefix_E (a b : ByteArray) : E 170 [.str a, .str b] [] = some (.bool (preB a b), []) := by
  have h := litePrefix_E a b
  refine E_walk k_strings_HasPrefix m_strings_HasPrefix (of_decide_eq_true rfl) ?_
  simp (disch := omega) only [c_strings_HasPrefix, go_sem, Nat.reduceAdd, Nat.reduceSub, Nat.reduceLT, Nat.reduceLeDiff, Nat.reduceEqDiff, Nat.reduceBEq, Nat.reduceBneDiff, Nat.reduceMul, ↓reduceIte, Int.reduceToNat, reduceCtorEq, Int.reduceNeg, Int.reduceAdd, h, m_internal_stringslite_HasPrefix]
noncomputable def hasB (s : ByteArray) (i : Nat) (x : ByteArray) : Bool := preB (s.extract i s.size) x
theorem seg_len {s : ByteArray} {a b : Nat} (h : a ≤ b) (k : b ≤ s.size) : (seg s a b).length = b - a := by
  unfold seg
  rw [List.length_take, List.length_drop, size_toList]; omega
theorem size_extract' {s : ByteArray} {a b : Nat} (h : a ≤ b) (k : b ≤ s.size) : (s.extract a b).size = b - a := by
  rw [← size_toList, toList_extract, seg_len h k]
theorem preB_seg {a b : ByteArray} : preB a b = true ↔ b.toList = a.toList.take b.size ∧ b.size ≤ a.size := by
  unfold preB
  rw [Bool.and_eq_true, dec_iff, dec_iff]
  constructor
  · rintro ⟨h1, h2⟩
    refine ⟨?_, h1⟩
    rw [← h2, toList_extract]
    unfold seg
    rw [List.drop_zero, Nat.sub_zero, h2]
  · rintro ⟨h1, h2⟩
    refine ⟨h2, bytes_ext ?_⟩
    rw [toList_extract, h1]
    unfold seg
    rw [List.drop_zero, Nat.sub_zero]
/-- What a text begins with, as a piece of it. -/
theorem hasB_seg {s : ByteArray} {i : Nat} {x : ByteArray} (hi : i ≤ s.size) : hasB s i x = true ↔ i + x.size ≤ s.size ∧ seg s i (i + x.size) = x.toList := by
  unfold hasB
  rw [preB_seg, toList_extract, size_extract' hi (Nat.le_refl _)]
  have hs : seg s i s.size = s.toList.drop i := by
    unfold seg
    rw [List.take_of_length_le (by rw [List.length_drop, size_toList]; exact Nat.le_refl _)]
  rw [hs]
  unfold seg
  rw [show i + x.size - i = x.size by omega]
  constructor
  · rintro ⟨h1, h2⟩; exact ⟨by omega, h1.symm⟩
  · rintro ⟨h1, h2⟩; exact ⟨h2.symm, by omega⟩
theorem hasB_one {s : ByteArray} {i : Nat} (hi : i ≤ s.size) (c : UInt8) : hasB s i ⟨#[c]⟩ = isAt s i c.toNat := by
  cases h : isAt s i c.toNat with
  | true =>
    obtain ⟨h1, h2⟩ := isAt_iff.1 h
    refine (hasB_seg hi).2 ⟨h1, ?_⟩
    show seg s i (i + 1) = _
    rw [seg_one h1 h2, ByteArray.toList_eq]
  | false =>
    cases k : hasB s i ⟨#[c]⟩ with
    | false => rfl
    | true =>
      obtain ⟨k1, k2⟩ := (hasB_seg hi).1 k
      have k1 : i + 1 ≤ s.size := k1
      have k2 : seg s i (i + 1) = [c] := by rw [ByteArray.toList_eq] at k2; exact k2
      have hl : i < s.toList.length := by rw [size_toList]; exact k1
      unfold seg at k2
      rw [List.drop_eq_getElem_cons hl, show i + 1 - i = 1 by omega, List.take_succ_cons, List.take_zero] at k2
      have : isAt s i c.toNat = true := isAt_iff.2 ⟨k1, by rw [byteAt_toList k1]; simp only [List.cons.injEq, and_true] at k2; rw [k2]⟩
      rw [this] at h; cases h
/-- The reader's state. -/
abbrev psr (s : ByteArray) (i : Nat) (f : Bool) : Ob := .box 81 [.str s, .int .i64 (i : Int), .bool f]
theorem has_T (s : ByteArray) (i : Nat) (x : ByteArray) : E 142 [.ptr 0 0, .str x] [psr s i true] = some (.bool false, [psr s i true]) := by
  refine E_walk k_impl_parser_has m_impl_parser_has (of_decide_eq_true rfl) ?_
  simp (disch := omega) only [c_impl_parser_has, go_sem, Nat.reduceAdd, Nat.reduceSub, Nat.reduceLT, Nat.reduceLeDiff, Nat.reduceEqDiff, Nat.reduceBEq, Nat.reduceBneDiff, Nat.reduceMul, ↓reduceIte, Int.reduceToNat, reduceCtorEq, Int.reduceNeg, Int.reduceAdd]
theorem has_F (s : ByteArray) (i : Nat) (x : ByteArray) (hi : i ≤ s.size) : E 142 [.ptr 0 0, .str x] [psr s i false] = some (.bool (hasB s i x), [psr s i false]) := by
  have h := hasPrefix_E (s.extract i s.size) x
  unfold hasB
  refine E_walk k_impl_parser_has m_impl_parser_has (of_decide_eq_true rfl) ?_
  simp (disch := omega) only [c_impl_parser_has, go_sem, Nat.reduceAdd, Nat.reduceSub, Nat.reduceLT, Nat.reduceLeDiff, Nat.reduceEqDiff, Nat.reduceBEq, Nat.reduceBneDiff, Nat.reduceMul, ↓reduceIte, Int.reduceToNat, reduceCtorEq, Int.reduceNeg, Int.reduceAdd, h, m_strings_HasPrefix]
theorem take_T (s : ByteArray) (i : Nat) (x : ByteArray) : E 93 [.ptr 0 0, .str x] [psr s i true] = some (.bool false, [psr s i true]) := by
  have h := has_T s i x
  refine E_walk k_impl_parser_take m_impl_parser_take (of_decide_eq_true rfl) ?_
  simp (disch := omega) only [c_impl_parser_take, go_sem, Nat.reduceAdd, Nat.reduceSub, Nat.reduceLT, Nat.reduceLeDiff, Nat.reduceEqDiff, Nat.reduceBEq, Nat.reduceBneDiff, Nat.reduceMul, ↓reduceIte, Int.reduceToNat, reduceCtorEq, Int.reduceNeg, Int.reduceAdd, h, m_impl_parser_has]
theorem take_no (s : ByteArray) (i : Nat) (x : ByteArray) (hi : i ≤ s.size) (hh : hasB s i x = false) : E 93 [.ptr 0 0, .str x] [psr s i false] = some (.bool false, [psr s i false]) := by
  have h := has_F s i x hi
  rw [hh] at h
  refine E_walk k_impl_parser_take m_impl_parser_take (of_decide_eq_true rfl) ?_
  simp (disch := omega) only [c_impl_parser_take, go_sem, Nat.reduceAdd, Nat.reduceSub, Nat.reduceLT, Nat.reduceLeDiff, Nat.reduceEqDiff, Nat.reduceBEq, Nat.reduceBneDiff, Nat.reduceMul, ↓reduceIte, Int.reduceToNat, reduceCtorEq, Int.reduceNeg, Int.reduceAdd, h, m_impl_parser_has]
theorem take_yes (s : ByteArray) (i : Nat) (x : ByteArray) (hi : i + x.size ≤ 1099511627776) (hi2 : i ≤ s.size) (hh : hasB s i x = true) : E 93 [.ptr 0 0, .str x] [psr s i false] = some (.bool true, [psr s (i + x.size) false]) := by
  have h := has_F s i x hi2
  rw [hh] at h
  refine E_walk k_impl_parser_take m_impl_parser_take (of_decide_eq_true rfl) ?_
  simp (disch := omega) only [c_impl_parser_take, go_sem, Nat.reduceAdd, Nat.reduceSub, Nat.reduceLT, Nat.reduceLeDiff, Nat.reduceEqDiff, Nat.reduceBEq, Nat.reduceBneDiff, Nat.reduceMul, ↓reduceIte, Int.reduceToNat, reduceCtorEq, Int.reduceNeg, Int.reduceAdd, h, m_impl_parser_has]
  simp only [psr, Int.natCast_add]
theorem must_T (s : ByteArray) (i : Nat) (x : ByteArray) : E 94 [.ptr 0 0, .str x] [psr s i true] = some (.tup [], [psr s i true]) := by
  have h := take_T s i x
  refine E_walk k_impl_parser_must m_impl_parser_must (of_decide_eq_true rfl) ?_
  simp (disch := omega) only [c_impl_parser_must, go_sem, Nat.reduceAdd, Nat.reduceSub, Nat.reduceLT, Nat.reduceLeDiff, Nat.reduceEqDiff, Nat.reduceBEq, Nat.reduceBneDiff, Nat.reduceMul, ↓reduceIte, Int.reduceToNat, reduceCtorEq, Int.reduceNeg, Int.reduceAdd, h, m_impl_parser_take]
theorem must_no (s : ByteArray) (i : Nat) (x : ByteArray) (hi : i ≤ s.size) (hh : hasB s i x = false) : E 94 [.ptr 0 0, .str x] [psr s i false] = some (.tup [], [psr s i true]) := by
  have h := take_no s i x hi hh
  refine E_walk k_impl_parser_must m_impl_parser_must (of_decide_eq_true rfl) ?_
  simp (disch := omega) only [c_impl_parser_must, go_sem, Nat.reduceAdd, Nat.reduceSub, Nat.reduceLT, Nat.reduceLeDiff, Nat.reduceEqDiff, Nat.reduceBEq, Nat.reduceBneDiff, Nat.reduceMul, ↓reduceIte, Int.reduceToNat, reduceCtorEq, Int.reduceNeg, Int.reduceAdd, h, m_impl_parser_take]
theorem must_yes (s : ByteArray) (i : Nat) (x : ByteArray) (hi : i + x.size ≤ 1099511627776) (hi2 : i ≤ s.size) (hh : hasB s i x = true) : E 94 [.ptr 0 0, .str x] [psr s i false] = some (.tup [], [psr s (i + x.size) false]) := by
  have h := take_yes s i x hi hi2 hh
  refine E_walk k_impl_parser_must m_impl_parser_must (of_decide_eq_true rfl) ?_
  simp (disch := omega) only [c_impl_parser_must, go_sem, Nat.reduceAdd, Nat.reduceSub, Nat.reduceLT, Nat.reduceLeDiff, Nat.reduceEqDiff, Nat.reduceBEq, Nat.reduceBneDiff, Nat.reduceMul, ↓reduceIte, Int.reduceToNat, reduceCtorEq, Int.reduceNeg, Int.reduceAdd, h, m_impl_parser_take]
theorem ended_T (s : ByteArray) (i : Nat) : E 47 [.ptr 0 0] [psr s i true] = some (.bool false, [psr s i true]) := by
  refine E_walk k_impl_parser_ended m_impl_parser_ended (of_decide_eq_true rfl) ?_
  simp (disch := omega) only [c_impl_parser_ended, go_sem, Nat.reduceAdd, Nat.reduceSub, Nat.reduceLT, Nat.reduceLeDiff, Nat.reduceEqDiff, Nat.reduceBEq, Nat.reduceBneDiff, Nat.reduceMul, ↓reduceIte, Int.reduceToNat, reduceCtorEq, Int.reduceNeg, Int.reduceAdd]
theorem ended_F (s : ByteArray) (i : Nat) : E 47 [.ptr 0 0] [psr s i false] = some (.bool (dec (i = s.size)), [psr s i false]) := by
  have e : dec (i = s.size) = dec ((i : Int) = (s.size : Int)) := by
    by_cases h : i = s.size
    · rw [dec_t h, dec_t (by omega)]
    · rw [dec_f h, dec_f (by omega)]
  rw [e]
  refine E_walk k_impl_parser_ended m_impl_parser_ended (of_decide_eq_true rfl) ?_
  simp (disch := omega) only [c_impl_parser_ended, go_sem, Nat.reduceAdd, Nat.reduceSub, Nat.reduceLT, Nat.reduceLeDiff, Nat.reduceEqDiff, Nat.reduceBEq, Nat.reduceBneDiff, Nat.reduceMul, ↓reduceIte, Int.reduceToNat, reduceCtorEq, Int.reduceNeg, Int.reduceAdd]
end Go.Proofs.Ytjafnijgkjjadab

set_option maxRecDepth 100000
set_option linter.unusedSimpArgs false
set_option linter.unusedVariables false
namespace Go.Proofs.Ytjafnijgkjjadab
open Go.RowKit

set_option maxHeartbeats 4000000 in
theorem word_E (s : ByteArray) (i : Nat) (hi : i ≤ s.size) (hs : s.size ≤ 1048576) : E 92 [.ptr 0 0] [psr s i false] = some (.str (bif dec (wEnd s i = i) then ⟨#[]⟩ else s.extract i (wEnd s i)), [psr s (wEnd s i) (dec (wEnd s i = i))]) := by
  refine E_walk k_impl_parser_word m_impl_parser_word (of_decide_eq_true rfl) ?_
  simp (disch := omega) only [c_impl_parser_word, go_sem, Nat.reduceAdd, Nat.reduceSub, Nat.reduceLT, Nat.reduceLeDiff, Nat.reduceEqDiff, Nat.reduceBEq, Nat.reduceBneDiff, Nat.reduceMul, ↓reduceIte, Int.reduceToNat, reduceCtorEq, Int.reduceNeg, Int.reduceAdd]
  refine go_loop (α := Nat) (fun j => ⟨slots 98 0 [(0, .ptr 0 0), (3, .int .i64 (i : Int))], [psr s j false]⟩) (fun j => i ≤ j ∧ j ≤ s.size ∧ wEnd s j = wEnd s i) (fun j => s.size - j) i ⟨Nat.le_refl _, hi, rfl⟩ (by simp (disch := omega) only [go_sem, Nat.reduceAdd, Nat.reduceSub, Nat.reduceLT, Nat.reduceLeDiff, Nat.reduceEqDiff, Nat.reduceBEq, Nat.reduceBneDiff, Nat.reduceMul, ↓reduceIte, Int.reduceToNat, reduceCtorEq, Int.reduceNeg, Int.reduceAdd]) ?_
  rintro j ⟨h1, h2, h3⟩
  have hj : ((j : Nat) : Int).toNat = j := Int.toNat_natCast j
  rcases Nat.lt_or_ge j s.size with hlt | hge
  · have hw := @wEnd_step s j hlt
    have hx : wordB (byteAt s j) = false → wEnd s j = j := fun h => wEnd_stop (fun k => by rw [h] at k; exact absurd k.2 (by simp))
    have a1 := pLower_E (byteAt s j)
    have a2 := pUpper_E (byteAt s j)
    have a3 := pDigit_E (byteAt s j)
    unfold wordB at hw hx
    generalize hg1 : (dec (97 ≤ byteAt s j) && dec (byteAt s j ≤ 122)) = q1 at *
    generalize hg2 : (dec (65 ≤ byteAt s j) && dec (byteAt s j ≤ 90)) = q2 at *
    generalize hg3 : (dec (48 ≤ byteAt s j) && dec (byteAt s j ≤ 57)) = q3 at *
    generalize hg4 : dec (byteAt s j = 95) = q4 at *
    cases q1 <;> cases q2 <;> cases q3 <;> cases q4
    all_goals
      simp only [Bool.or_true, Bool.or_false, Bool.true_or, Bool.false_or, true_implies, Bool.true_eq_false, Bool.false_eq_true, false_implies] at hw hx
    case false.false.false.false =>
      have e : wEnd s i = j := by rw [← h3, hx]
      rw [e]
      by_cases h0 : j = i
      · subst h0
        simp (disch := omega) only [go_sem, Nat.reduceAdd, Nat.reduceSub, Nat.reduceLT, Nat.reduceLeDiff, Nat.reduceEqDiff, Nat.reduceBEq, Nat.reduceBneDiff, Nat.reduceMul, ↓reduceIte, Int.reduceToNat, reduceCtorEq, Int.reduceNeg, Int.reduceAdd, hj, a1, a2, a3, hg4, m_impl_isLower, m_impl_isUpper, m_impl_isDigit, dec_refl]
      · have h0' : ((i : Int) = (j : Int)) = False := eq_false (by omega)
        rw [dec_f h0]
        simp (disch := omega) only [go_sem, Nat.reduceAdd, Nat.reduceSub, Nat.reduceLT, Nat.reduceLeDiff, Nat.reduceEqDiff, Nat.reduceBEq, Nat.reduceBneDiff, Nat.reduceMul, ↓reduceIte, Int.reduceToNat, reduceCtorEq, Int.reduceNeg, Int.reduceAdd, hj, a1, a2, a3, hg4, h0', m_impl_isLower, m_impl_isUpper, m_impl_isDigit]
    all_goals
      simp (disch := omega) only [go_sem, Nat.reduceAdd, Nat.reduceSub, Nat.reduceLT, Nat.reduceLeDiff, Nat.reduceEqDiff, Nat.reduceBEq, Nat.reduceBneDiff, Nat.reduceMul, ↓reduceIte, Int.reduceToNat, reduceCtorEq, Int.reduceNeg, Int.reduceAdd, hj, a1, a2, a3, hg4, m_impl_isLower, m_impl_isUpper, m_impl_isDigit]
      exact ⟨j + 1, ⟨by omega, by omega, by omega⟩, by omega, by first | trivial | (simp only [psr, Int.natCast_add, Int.natCast_one]) | rfl⟩
  · have e : wEnd s i = j := by rw [← h3]; exact wEnd_stop (by omega)
    rw [e]
    by_cases h0 : j = i
    · subst h0
      simp (disch := omega) only [go_sem, Nat.reduceAdd, Nat.reduceSub, Nat.reduceLT, Nat.reduceLeDiff, Nat.reduceEqDiff, Nat.reduceBEq, Nat.reduceBneDiff, Nat.reduceMul, ↓reduceIte, Int.reduceToNat, reduceCtorEq, Int.reduceNeg, Int.reduceAdd, hj, dec_refl]
    · have h0' : ((i : Int) = (j : Int)) = False := eq_false (by omega)
      rw [dec_f h0]
      simp (disch := omega) only [go_sem, Nat.reduceAdd, Nat.reduceSub, Nat.reduceLT, Nat.reduceLeDiff, Nat.reduceEqDiff, Nat.reduceBEq, Nat.reduceBneDiff, Nat.reduceMul, ↓reduceIte, Int.reduceToNat, reduceCtorEq, Int.reduceNeg, Int.reduceAdd, hj, h0']
end Go.Proofs.Ytjafnijgkjjadab

set_option maxRecDepth 100000
set_option linter.unusedSimpArgs false
set_option linter.unusedVariables false
namespace Go.Proofs.Ytjafnijgkjjadab
open Go.RowKit

def c_impl_parser_term : SC := (.seq (.reg [⟨(some 2), none, (.alloc 24 [(.str ⟨#[]⟩), .nil])⟩]) (.seq (.reg [⟨(some 4), none, (.mv (.t 0))⟩, ⟨(some 5), none, (.call 92 [(.t 4)])⟩, ⟨(some 6), none, (.build [(.str ⟨#[]⟩), .nil] [(0, (1, (.t 5)))])⟩, ⟨(some 3), none, (.alloc 24 [(.str ⟨#[]⟩), .nil])⟩, ⟨none, none, (.store 2 (.t 3) (.t 6))⟩]) (.seq (.seq (.reg [⟨(some 7), none, (.mv (.t 0))⟩, ⟨(some 8), none, (.call 93 [(.t 7), (.c (.str ⟨#[40]⟩))])⟩]) (.cond (.t 8) (.seq (.dreg [[], [0], [], [2], [3, 2], [1, 0, 4, 3, 2], [0, 1, 2, 3, 4, 5], [6, 0, 1, 2, 3, 4, 5]] [⟨(some 9), none, (.faddr 1 (.t 3))⟩, ⟨(some 10), none, (.load false 1 (.t 9))⟩, ⟨(some 11), none, (.mv (.t 0))⟩, ⟨(some 12), none, (.call 46 [(.t 11)])⟩, ⟨(some 13), none, (.mkrow 24 2 [(.str ⟨#[]⟩), .nil] 1 [(0, (.t 12))])⟩, ⟨(some 14), none, (.append 24 2 40 [(.str ⟨#[]⟩), .nil] (.t 10) (.t 13))⟩, ⟨(some 15), none, (.faddr 1 (.t 3))⟩, ⟨none, none, (.store 1 (.t 15) (.t 14))⟩]) (.seq (.block 0 (.loop [1, 0, 1, 1, 0, 0, 0, 0, 0, 0, 0, 0, 0, 0, 0, 0, 0, 0, 0, 0, 0, 0, 0, 0, 0, 0, 0, 0] (.seq (.seq (.reg [⟨(some 16), none, (.mv (.t 0))⟩, ⟨(some 17), none, (.call 93 [(.t 16), (.c (.str ⟨#[44]⟩))])⟩]) (.cond (.t 17) .skip (.exit 0))) (.block 1 (.dreg [[], [0], [], [2], [3, 2], [1, 0, 4, 3, 2], [0, 1, 2, 3, 4, 5], [6, 0, 1, 2, 3, 4, 5]] [⟨(some 18), none, (.faddr 1 (.t 3))⟩, ⟨(some 19), none, (.load false 1 (.t 18))⟩, ⟨(some 20), none, (.mv (.t 0))⟩, ⟨(some 21), none, (.call 46 [(.t 20)])⟩, ⟨(some 22), none, (.mkrow 24 2 [(.str ⟨#[]⟩), .nil] 1 [(0, (.t 21))])⟩, ⟨(some 23), none, (.append 24 2 40 [(.str ⟨#[]⟩), .nil] (.t 19) (.t 22))⟩, ⟨(some 24), none, (.faddr 1 (.t 3))⟩, ⟨none, none, (.store 1 (.t 24) (.t 23))⟩]))))) (.reg [⟨(some 25), none, (.mv (.t 0))⟩, ⟨(some 26), none, (.call 94 [(.t 25), (.c (.str ⟨#[41]⟩))])⟩]))) .skip)) (.seq (.reg [⟨(some 27), none, (.load true 2 (.t 3))⟩, ⟨none, none, (.store 2 (.t 2) (.t 27))⟩]) .ret))))
theorem k_impl_parser_term : codeOf Try.prog 46 = some ⟨28, c_impl_parser_term, [(.cell 2 true 2)]⟩ := by kernel_rfl
theorem m_impl_parser_term : modes 46 = ⟨[], .own [none, some (24, 2)], none, false⟩ := by unfold modes; rfl

theorem take1_no (s : ByteArray) (i : Nat) (c : UInt8) (hi : i ≤ s.size) (hh : isAt s i c.toNat = false) : E 93 [.ptr 0 0, .str ⟨#[c]⟩] [psr s i false] = some (.bool false, [psr s i false]) :=
  take_no s i _ hi (by rw [hasB_one hi]; exact hh)
theorem take1_yes (s : ByteArray) (i : Nat) (c : UInt8) (hs : s.size ≤ 1048576) (hi : i ≤ s.size) (hh : isAt s i c.toNat = true) : E 93 [.ptr 0 0, .str ⟨#[c]⟩] [psr s i false] = some (.bool true, [psr s (i + 1) false]) :=
  take_yes s i ⟨#[c]⟩ (by show i + 1 ≤ _; omega) hi (by rw [hasB_one hi]; exact hh)
theorem must1_no (s : ByteArray) (i : Nat) (c : UInt8) (hi : i ≤ s.size) (hh : isAt s i c.toNat = false) : E 94 [.ptr 0 0, .str ⟨#[c]⟩] [psr s i false] = some (.tup [], [psr s i true]) :=
  must_no s i _ hi (by rw [hasB_one hi]; exact hh)
theorem must1_yes (s : ByteArray) (i : Nat) (c : UInt8) (hs : s.size ≤ 1048576) (hi : i ≤ s.size) (hh : isAt s i c.toNat = true) : E 94 [.ptr 0 0, .str ⟨#[c]⟩] [psr s i false] = some (.tup [], [psr s (i + 1) false]) :=
  must_yes s i ⟨#[c]⟩ (by show i + 1 ≤ _; omega) hi (by rw [hasB_one hi]; exact hh)
/-- How the arguments go on behind some of them. -/
noncomputable def contL (r : Nat → Option (Tm × Nat)) (s : ByteArray) (m : Nat) (acc : List Tm) (e : Nat) : Option (List Tm × Nat) :=
  bif isAt s e 44 then (match rdL r s m (e + 1) with
    | none => none
    | some (ts, e') => some (acc ++ ts, e')) else bif isAt s e 41 then some (acc, e + 1) else none
theorem rdL_first (r : Nat → Option (Tm × Nat)) (s : ByteArray) (m i : Nat) : rdL r s (m + 1) i = match r i with
    | none => none
    | some (t, e) => contL r s m [t] e := by
  rw [rdL]
  cases r i with
  | none => rfl
  | some p => rfl
theorem contL_step {r : Nat → Option (Tm × Nat)} {s : ByteArray} {m : Nat} {acc : List Tm} {e : Nat} (h : isAt s e 44 = true) : contL r s (m + 1) acc e = match r (e + 1) with
    | none => none
    | some (t, e2) => contL r s m (acc ++ [t]) e2 := by
  unfold contL
  rw [h, cond_true, rdL_first]
  cases r (e + 1) with
  | none => rfl
  | some p =>
    obtain ⟨t, e2⟩ := p
    simp only
    unfold contL
    cases isAt s e2 44 with
    | true =>
      simp only [cond_true]
      cases rdL r s m (e2 + 1) with
      | none => rfl
      | some q => simp only [List.append_assoc]
    | false =>
      simp only [cond_false]
      cases isAt s e2 41 with
      | true => rfl
      | false => rfl
theorem contL_end {r : Nat → Option (Tm × Nat)} {s : ByteArray} {m : Nat} {acc : List Tm} {e : Nat} (h : isAt s e 44 = false) : contL r s m acc e = bif isAt s e 41 then some (acc, e + 1) else none := by
  unfold contL
  rw [h, cond_false]
/-- What the reader answers for a term. -/
def TermQ (s : ByteArray) (i : Nat) (r : Option (Tm × Nat)) (out : SV × List Ob) : Prop :=
  ∃ (t : Tm) (j : Nat) (f : Bool), out = (.agg [.str t.name, .ref 1], [psr s j f, .row 24 2 (t.args.map Tm.o)]) ∧ i ≤ j ∧ j ≤ s.size ∧ (match r with
    | some (t0, e) => t = t0 ∧ j = e ∧ f = false
    | none => f = true)
set_option maxHeartbeats 8000000 in
theorem term_of (s : ByteArray) (hs : s.size ≤ 1048576) (n : Nat) (ih : ∀ i, i ≤ s.size → s.size - i < n → ∃ out, E 46 [.ptr 0 0] [psr s i false] = some out ∧ TermQ s i (rd s n i) out) (i : Nat) (hi : i ≤ s.size) (hn : s.size - i < n + 1) : ∃ out, E 46 [.ptr 0 0] [psr s i false] = some out ∧ TermQ s i (rd s (n + 1) i) out := by
  have hw := word_E s i hi hs
  have w1 := wEnd_le s i
  have w2 := wEnd_size s i hi
  rw [rd]
  refine E_walkQ k_impl_parser_term m_impl_parser_term (of_decide_eq_true rfl) ?_
  by_cases h0 : wEnd s i = i
  · rw [dec_t h0] at hw ⊢
    rw [cond_true] at hw ⊢
    have ht := take_T s (wEnd s i) ⟨#[40]⟩
    simp (disch := omega) only [c_impl_parser_term, go_sem, Nat.reduceAdd, Nat.reduceSub, Nat.reduceLT, Nat.reduceLeDiff, Nat.reduceEqDiff, Nat.reduceBEq, Nat.reduceBneDiff, Nat.reduceMul, ↓reduceIte, Int.reduceToNat, reduceCtorEq, Int.reduceNeg, Int.reduceAdd, hw, ht, m_impl_parser_word, m_impl_parser_take, m_impl_parser_must]
    exact ⟨_, rfl, .mk ⟨#[]⟩ [], wEnd s i, true, rfl, w1, w2, rfl⟩
  · rw [dec_f h0] at hw ⊢
    rw [cond_false] at hw ⊢
    cases hc : isAt s (wEnd s i) 40 with
    | false =>
      have ht := take1_no s (wEnd s i) 40 w2 hc
      simp only [cond_false]
      simp (disch := omega) only [c_impl_parser_term, go_sem, Nat.reduceAdd, Nat.reduceSub, Nat.reduceLT, Nat.reduceLeDiff, Nat.reduceEqDiff, Nat.reduceBEq, Nat.reduceBneDiff, Nat.reduceMul, ↓reduceIte, Int.reduceToNat, reduceCtorEq, Int.reduceNeg, Int.reduceAdd, hw, ht, m_impl_parser_word, m_impl_parser_take, m_impl_parser_must]
      exact ⟨_, rfl, .mk (s.extract i (wEnd s i)) [], wEnd s i, false, rfl, w1, w2, rfl, rfl, rfl⟩
    | true =>
      obtain ⟨c1, c2⟩ := isAt_iff.1 hc
      have ht := take1_yes s (wEnd s i) 40 hs w2 hc
      obtain ⟨m, rfl⟩ : ∃ m, n = m + 1 := ⟨n - 1, by omega⟩
      obtain ⟨total, htot⟩ : ∃ total, total = rdL (rd s (m + 1)) s (m + 1) (wEnd s i + 1) := ⟨_, rfl⟩
      rw [← htot]
      simp only [cond_true]
      rw [rdL_first] at htot
      obtain ⟨out1, hc1, t1, j1, f1, rfl, g1, g2, g3⟩ := ih (wEnd s i + 1) (by omega) (by omega)
      have start : i ≤ j1 ∧ j1 ≤ s.size ∧ [t1].length ≤ j1 ∧ (f1 = true → total = none) ∧ (f1 = false → ∃ q, s.size - j1 ≤ q ∧ total = contL (rd s (m + 1)) s q [t1] j1) := by
        refine ⟨by omega, g2, by simp only [List.length_cons, List.length_nil]; omega, ?_, ?_⟩
        · rintro rfl
          cases hr : rd s (m + 1) (wEnd s i + 1) with
          | none => rw [hr] at htot; exact htot
          | some p => rw [hr] at g3; exact absurd g3.2.2 (by simp)
        · rintro rfl
          cases hr : rd s (m + 1) (wEnd s i + 1) with
          | none => rw [hr] at g3; cases g3
          | some p =>
            obtain ⟨t0, e0⟩ := p
            rw [hr] at g3 htot
            obtain ⟨rfl, rfl, _⟩ := g3
            exact ⟨m, by omega, htot⟩
      simp (disch := omega) only [c_impl_parser_term, go_sem, Nat.reduceAdd, Nat.reduceSub, Nat.reduceLT, Nat.reduceLeDiff, Nat.reduceEqDiff, Nat.reduceBEq, Nat.reduceBneDiff, Nat.reduceMul, ↓reduceIte, Int.reduceToNat, reduceCtorEq, Int.reduceNeg, Int.reduceAdd, hw, ht, hc1, m_impl_parser_word, m_impl_parser_take, m_impl_parser_must, m_impl_parser_term]
      refine go_loop (α := List Tm × Nat × Bool) (fun a => ⟨slots 28 0 [(0, .ptr 0 0), (2, .ptr 1 0), (3, .ptr 2 0)], [psr s a.2.1 a.2.2, .box 24 [.str ⟨#[]⟩, .nil], .box 24 [.str (s.extract i (wEnd s i)), .ref 3], .row 24 2 (a.1.map Tm.o)]⟩) (fun a => i ≤ a.2.1 ∧ a.2.1 ≤ s.size ∧ a.1.length ≤ a.2.1 ∧ (a.2.2 = true → total = none) ∧ (a.2.2 = false → ∃ q, s.size - a.2.1 ≤ q ∧ total = contL (rd s (m + 1)) s q a.1 a.2.1)) (fun a => if a.2.2 then 0 else s.size - a.2.1 + 1) ([t1], j1, f1) start (by simp (disch := omega) only [go_sem, Nat.reduceAdd, Nat.reduceSub, Nat.reduceLT, Nat.reduceLeDiff, Nat.reduceEqDiff, Nat.reduceBEq, Nat.reduceBneDiff, Nat.reduceMul, ↓reduceIte, Int.reduceToNat, reduceCtorEq, Int.reduceNeg, Int.reduceAdd, List.map_cons, List.map_nil, Tm.o_eq]) ?_
      rintro ⟨acc, j, fl⟩ ⟨hij, hj, hal, hR1, hR2⟩
      dsimp only at hij hj hal hR1 hR2
      cases fl with
      | true =>
        have htk := take_T s j ⟨#[44]⟩
        have hmu := must_T s j ⟨#[41]⟩
        rw [hR1 rfl]
        simp (disch := omega) only [go_sem, Nat.reduceAdd, Nat.reduceSub, Nat.reduceLT, Nat.reduceLeDiff, Nat.reduceEqDiff, Nat.reduceBEq, Nat.reduceBneDiff, Nat.reduceMul, ↓reduceIte, Int.reduceToNat, reduceCtorEq, Int.reduceNeg, Int.reduceAdd, htk, hmu, m_impl_parser_word, m_impl_parser_take, m_impl_parser_must]
        exact ⟨_, rfl, .mk (s.extract i (wEnd s i)) acc, j, true, rfl, by omega, hj, rfl⟩
      | false =>
        obtain ⟨q, hq, hR⟩ := hR2 rfl
        cases hcm : isAt s j 44 with
        | false =>
          rw [contL_end hcm] at hR
          have htk := take1_no s j 44 hj hcm
          cases hcl : isAt s j 41 with
          | false =>
            have hmu := must1_no s j 41 hj hcl
            rw [hcl, cond_false] at hR
            rw [hR]
            simp (disch := omega) only [go_sem, Nat.reduceAdd, Nat.reduceSub, Nat.reduceLT, Nat.reduceLeDiff, Nat.reduceEqDiff, Nat.reduceBEq, Nat.reduceBneDiff, Nat.reduceMul, ↓reduceIte, Int.reduceToNat, reduceCtorEq, Int.reduceNeg, Int.reduceAdd, htk, hmu, m_impl_parser_word, m_impl_parser_take, m_impl_parser_must]
            exact ⟨_, rfl, .mk (s.extract i (wEnd s i)) acc, j, true, rfl, by omega, hj, rfl⟩
          | true =>
            obtain ⟨d1, d2⟩ := isAt_iff.1 hcl
            have hmu := must1_yes s j 41 hs hj hcl
            rw [hcl, cond_true] at hR
            rw [hR]
            simp (disch := omega) only [go_sem, Nat.reduceAdd, Nat.reduceSub, Nat.reduceLT, Nat.reduceLeDiff, Nat.reduceEqDiff, Nat.reduceBEq, Nat.reduceBneDiff, Nat.reduceMul, ↓reduceIte, Int.reduceToNat, reduceCtorEq, Int.reduceNeg, Int.reduceAdd, htk, hmu, m_impl_parser_word, m_impl_parser_take, m_impl_parser_must]
            exact ⟨_, rfl, .mk (s.extract i (wEnd s i)) acc, j + 1, false, rfl, by omega, by omega, rfl, rfl, rfl⟩
        | true =>
          obtain ⟨d1, d2⟩ := isAt_iff.1 hcm
          have htk := take1_yes s j 44 hs hj hcm
          obtain ⟨q, rfl⟩ : ∃ q', q = q' + 1 := ⟨q - 1, by omega⟩
          rw [contL_step hcm] at hR
          obtain ⟨out2, hc2, t2, j2, f2, rfl, k1, k2, k3⟩ := ih (j + 1) (by omega) (by omega)
          simp (disch := omega) only [go_sem, Nat.reduceAdd, Nat.reduceSub, Nat.reduceLT, Nat.reduceLeDiff, Nat.reduceEqDiff, Nat.reduceBEq, Nat.reduceBneDiff, Nat.reduceMul, ↓reduceIte, Int.reduceToNat, reduceCtorEq, Int.reduceNeg, Int.reduceAdd, htk, hc2, m_impl_parser_word, m_impl_parser_take, m_impl_parser_must, m_impl_parser_term, List.length_map]
          refine ⟨(acc ++ [t2], j2, f2), ⟨by dsimp only; omega, k2, by simp only [List.length_append, List.length_cons, List.length_nil]; omega, ?_, ?_⟩, ?_, ?_⟩
          · intro hf
            dsimp only at hf
            subst hf
            cases hr : rd s (m + 1) (j + 1) with
            | none => rw [hr] at hR; exact hR
            | some p => rw [hr] at k3; exact absurd k3.2.2 (by simp)
          · intro hf
            dsimp only at hf
            subst hf
            cases hr : rd s (m + 1) (j + 1) with
            | none => rw [hr] at k3; cases k3
            | some p =>
              obtain ⟨t0, e0⟩ := p
              rw [hr] at k3 hR
              obtain ⟨rfl, rfl, _⟩ := k3
              exact ⟨q, by dsimp only; omega, hR⟩
          · show (if f2 = true then 0 else s.size - j2 + 1) < s.size - j + 1
            split
            · omega
            · cases hr : rd s (m + 1) (j + 1) with
              | none => rw [hr] at k3; simp only at k3; rename_i h; exact absurd k3 h
              | some p => omega
          · exact ⟨rfl, by simp only [List.map_append, List.map_cons, List.map_nil, Tm.o_eq]⟩
theorem term_E (s : ByteArray) (hs : s.size ≤ 1048576) : ∀ (n i : Nat), i ≤ s.size → s.size - i < n → ∃ out, E 46 [.ptr 0 0] [psr s i false] = some out ∧ TermQ s i (rd s n i) out
  | 0, i, _, h => absurd h (by omega)
  | n + 1, i, hi, hn => term_of s hs n (fun i hi hn => term_E s hs n i hi hn) i hi hn
end Go.Proofs.Ytjafnijgkjjadab

set_option maxRecDepth 100000
set_option linter.unusedSimpArgs false
set_option linter.unusedVariables false
namespace Go.Proofs.Ytjafnijgkjjadab
open Go.RowKit

def c_spec_l3Read : SC := (.seq (.reg [⟨(some 4), none, (.alloc 24 [(.str ⟨#[]⟩), .nil])⟩, ⟨(some 5), none, (.mv (.c (.int .i64 0)))⟩]) (.seq (.reg [⟨(some 10), none, (.mv (.t 1))⟩, ⟨(some 6), none, (.mv (.t 10))⟩]) (.seq (.block 0 (.loop [1, 1, 0, 0, 1, 0, 1, 0, 0, 0, 0, 0, 0, 0, 0, 0, 0, 0, 0, 0, 0, 0, 0, 0, 0, 0, 0, 0, 0, 0, 0, 0, 0, 0, 0, 0, 0, 0, 0, 0, 0, 0, 0, 0, 0, 0, 0, 0, 0, 0, 0, 0, 0, 0, 0, 0, 0, 0, 0, 0, 0, 0, 0, 0, 0, 0, 0, 0, 0, 0, 0, 0, 0, 0, 0, 0, 0, 0, 0, 0, 0, 0, 0, 0, 0, 0] (.seq (.seq (.reg [⟨(some 11), none, (.mv (.t 6))⟩, ⟨(some 12), none, (.mv (.t 0))⟩, ⟨(some 13), none, (.len true (.t 12))⟩, ⟨(some 14), none, (.bin .lss false (.t 11) (.t 13))⟩, ⟨(some 15), none, (.mv (.t 14))⟩, ⟨(some 16), (some (15, true)), (.mv (.t 0))⟩, ⟨(some 17), (some (15, true)), (.mv (.t 6))⟩, ⟨(some 18), (some (15, true)), (.idx (.t 16) (.t 17))⟩, ⟨(some 19), (some (15, true)), (.call 138 [(.t 18)])⟩, ⟨(some 20), none, (.pick (.t 15) (.t 19) (.c (.bool false)))⟩]) (.cond (.t 20) .skip (.exit 0))) (.block 1 (.reg [⟨(some 21), none, (.mv (.t 6))⟩, ⟨(some 22), none, (.bin .add false (.t 21) (.c (.int .i64 1)))⟩, ⟨(some 6), none, (.mv (.t 22))⟩]))))) (.seq (.reg [⟨(some 23), none, (.mv (.t 0))⟩, ⟨(some 24), none, (.mv (.t 1))⟩, ⟨(some 25), none, (.mv (.t 6))⟩, ⟨(some 26), none, (.slice true 0 (.t 23) (some (.t 24)) (some (.t 25)))⟩, ⟨(some 27), none, (.build [(.str ⟨#[]⟩), .nil] [(0, (1, (.t 26)))])⟩, ⟨(some 7), none, (.alloc 24 [(.str ⟨#[]⟩), .nil])⟩, ⟨none, none, (.store 2 (.t 7) (.t 27))⟩]) (.seq (.seq (.reg [⟨(some 28), none, (.mv (.t 6))⟩, ⟨(some 29), none, (.mv (.t 1))⟩, ⟨(some 30), none, (.bin .eql false (.t 28) (.t 29))⟩]) (.cond (.t 30) (.seq (.reg [⟨(some 31), none, (.load true 2 (.t 7))⟩, ⟨none, none, (.store 2 (.t 4) (.t 31))⟩, ⟨(some 5), none, (.mv (.c (.int .i64 (-(0 + 1)))))⟩]) .ret) .skip)) (.seq (.seq (.reg [⟨(some 32), none, (.mv (.t 6))⟩, ⟨(some 33), none, (.mv (.t 0))⟩, ⟨(some 34), none, (.len true (.t 33))⟩, ⟨(some 35), none, (.bin .eql false (.t 32) (.t 34))⟩, ⟨(some 36), none, (.mv (.t 35))⟩, ⟨(some 37), (some (36, false)), (.mv (.t 0))⟩, ⟨(some 38), (some (36, false)), (.mv (.t 6))⟩, ⟨(some 39), (some (36, false)), (.idx (.t 37) (.t 38))⟩, ⟨(some 40), (some (36, false)), (.bin .neq false (.t 39) (.c (.int .u8 40)))⟩, ⟨(some 41), none, (.pick (.t 36) (.c (.bool true)) (.t 40))⟩]) (.cond (.t 41) (.seq (.reg [⟨(some 42), none, (.load true 2 (.t 7))⟩, ⟨(some 43), none, (.mv (.t 6))⟩, ⟨none, none, (.store 2 (.t 4) (.t 42))⟩, ⟨(some 5), none, (.mv (.t 43))⟩]) .ret) .skip)) (.block 2 (.loop [1, 0, 0, 0, 1, 0, 1, 1, 0, 0, 0, 0, 0, 0, 0, 0, 0, 0, 0, 0, 0, 0, 0, 0, 0, 0, 0, 0, 0, 0, 0, 0, 0, 0, 0, 0, 0, 0, 0, 0, 0, 0, 0, 0, 0, 0, 0, 0, 0, 0, 0, 0, 0, 0, 0, 0, 0, 0, 0, 0, 0, 0, 0, 0, 0, 0, 0, 0, 0, 0, 0, 0, 0, 0, 0, 0, 0, 0, 0, 0, 0, 0, 0, 0, 0, 0] (.block 3 (.seq (.reg [⟨(some 45), none, (.mv (.t 0))⟩, ⟨(some 46), none, (.mv (.t 6))⟩, ⟨(some 47), none, (.bin .add false (.t 46) (.c (.int .i64 1)))⟩, ⟨(some 48), none, (.call 91 [(.t 45), (.t 47)])⟩, ⟨(some 44), none, (.mv (.t 48))⟩, ⟨(some 49), none, (.ext (.t 44) 0)⟩, ⟨(some 50), none, (.ext (.t 44) 1)⟩, ⟨(some 8), none, (.alloc 24 [(.str ⟨#[]⟩), .nil])⟩, ⟨none, none, (.store 2 (.t 8) (.t 49))⟩, ⟨(some 9), none, (.mv (.t 50))⟩]) (.seq (.seq (.reg [⟨(some 51), none, (.mv (.t 9))⟩, ⟨(some 52), none, (.bin .lss false (.t 51) (.c (.int .i64 0)))⟩, ⟨(some 53), none, (.mv (.t 52))⟩, ⟨(some 54), (some (53, false)), (.mv (.t 9))⟩, ⟨(some 55), (some (53, false)), (.mv (.t 0))⟩, ⟨(some 56), (some (53, false)), (.len true (.t 55))⟩, ⟨(some 57), (some (53, false)), (.bin .eql false (.t 54) (.t 56))⟩, ⟨(some 58), none, (.pick (.t 53) (.c (.bool true)) (.t 57))⟩, ⟨(some 59), none, (.mv (.t 58))⟩, ⟨(some 60), (some (59, false)), (.mv (.t 0))⟩, ⟨(some 61), (some (59, false)), (.mv (.t 9))⟩, ⟨(some 62), (some (59, false)), (.idx (.t 60) (.t 61))⟩, ⟨(some 63), (some (59, false)), (.bin .neq false (.t 62) (.c (.int .u8 44)))⟩, ⟨(some 64), (some (59, false)), (.mv (.t 63))⟩, ⟨(some 65), (some (64, true)), (.mv (.t 0))⟩, ⟨(some 66), (some (64, true)), (.mv (.t 9))⟩, ⟨(some 67), (some (64, true)), (.idx (.t 65) (.t 66))⟩, ⟨(some 68), (some (64, true)), (.bin .neq false (.t 67) (.c (.int .u8 41)))⟩, ⟨(some 69), (some (59, false)), (.pick (.t 64) (.t 68) (.c (.bool false)))⟩, ⟨(some 70), none, (.pick (.t 59) (.c (.bool true)) (.t 69))⟩]) (.cond (.t 70) (.seq (.reg [⟨(some 71), none, (.load true 2 (.t 7))⟩, ⟨none, none, (.store 2 (.t 4) (.t 71))⟩, ⟨(some 5), none, (.mv (.c (.int .i64 (-(0 + 1)))))⟩]) .ret) .skip)) (.seq (.reg [⟨(some 72), none, (.faddr 1 (.t 7))⟩, ⟨(some 73), none, (.load false 1 (.t 72))⟩, ⟨(some 74), none, (.load true 2 (.t 8))⟩, ⟨(some 75), none, (.mkrow 24 2 [(.str ⟨#[]⟩), .nil] 1 [(0, (.t 74))])⟩, ⟨(some 76), none, (.append 24 2 40 [(.str ⟨#[]⟩), .nil] (.t 73) (.t 75))⟩, ⟨(some 77), none, (.faddr 1 (.t 7))⟩, ⟨none, none, (.store 1 (.t 77) (.t 76))⟩]) (.seq (.reg [⟨(some 78), none, (.mv (.t 9))⟩, ⟨(some 6), none, (.mv (.t 78))⟩]) (.seq (.reg [⟨(some 79), none, (.mv (.t 0))⟩, ⟨(some 80), none, (.mv (.t 9))⟩, ⟨(some 81), none, (.idx (.t 79) (.t 80))⟩, ⟨(some 82), none, (.bin .eql false (.t 81) (.c (.int .u8 41)))⟩]) (.cond (.t 82) (.seq (.reg [⟨(some 83), none, (.load true 2 (.t 7))⟩, ⟨(some 84), none, (.mv (.t 9))⟩, ⟨(some 85), none, (.bin .add false (.t 84) (.c (.int .i64 1)))⟩, ⟨none, none, (.store 2 (.t 4) (.t 83))⟩, ⟨(some 5), none, (.mv (.t 85))⟩]) .ret) .skip)))))))))))))))
theorem k_spec_l3Read : codeOf Try.prog 91 = some ⟨86, c_spec_l3Read, [(.cell 4 true 2), (.tmp 5)]⟩ := by kernel_rfl
theorem m_spec_l3Read : modes 91 = ⟨[], .frz, none, false⟩ := by unfold modes; rfl

theorem l2Small_E (n : Int) : E 166 [.int .u8 n] [] = some (.bool ((dec (97 ≤ n) && dec (n ≤ 122)) || (dec (48 ≤ n) && dec (n ≤ 57))), []) := by
  cases h1 : dec (97 ≤ n) <;> cases h2 : dec (n ≤ 122) <;> cases h3 : dec (48 ≤ n)
  all_goals
    refine E_walk k_spec_l2Small m_spec_l2Small (of_decide_eq_true rfl) ?_
    simp (disch := omega) only [c_spec_l2Small, go_sem, Nat.reduceAdd, Nat.reduceSub, Nat.reduceLT, Nat.reduceLeDiff, Nat.reduceEqDiff, Nat.reduceBEq, Nat.reduceBneDiff, Nat.reduceMul, ↓reduceIte, Int.reduceToNat, reduceCtorEq, Int.reduceNeg, Int.reduceAdd, h1, h2, h3]
theorem l3Word_E (n : Int) : E 138 [.int .u8 n] [] = some (.bool (wordB n), []) := by
  have h := l2Small_E n
  unfold wordB
  generalize (dec (97 ≤ n) && dec (n ≤ 122)) = q1 at *
  generalize (dec (48 ≤ n) && dec (n ≤ 57)) = q3 at *
  cases q1 <;> cases q3 <;> cases h1 : dec (65 ≤ n) <;> cases h2 : dec (n ≤ 90)
  all_goals
    simp only [Bool.or_true, Bool.or_false, Bool.true_or, Bool.false_or, Bool.and_true, Bool.and_false, Bool.true_and, Bool.false_and] at h ⊢
    refine E_walk k_spec_l3Word m_spec_l3Word (of_decide_eq_true rfl) ?_
    simp (disch := omega) only [c_spec_l3Word, go_sem, Nat.reduceAdd, Nat.reduceSub, Nat.reduceLT, Nat.reduceLeDiff, Nat.reduceEqDiff, Nat.reduceBEq, Nat.reduceBneDiff, Nat.reduceMul, ↓reduceIte, Int.reduceToNat, reduceCtorEq, Int.reduceNeg, Int.reduceAdd, h, h1, h2, m_spec_l2Small]
/-- What the reference's reader answers. -/
def ReadQ (r : Option (Tm × Nat)) (out : SV × List Ob) : Prop :=
  ∃ (t : Tm) (k : Int), out = (.tup [t.sv, .int .i64 k], []) ∧ (match r with
    | some (t0, e) => t = t0 ∧ k = (e : Int)
    | none => k = -1)
theorem Tm.osh_fullL (xs : List Tm) : OT.fullss (xs.map Tm.osh) = true := Tm.osh_full xs
set_option maxHeartbeats 8000000 in
theorem l3Read_of (s : ByteArray) (hs : s.size ≤ 1048576) (n : Nat) (ih : ∀ i, i ≤ s.size → s.size - i < n → ∃ out, E 91 [.str s, .int .i64 (i : Int)] [] = some out ∧ ReadQ (rd s n i) out) (i : Nat) (hi : i ≤ s.size) (hn : s.size - i < n + 1) : ∃ out, E 91 [.str s, .int .i64 (i : Int)] [] = some out ∧ ReadQ (rd s (n + 1) i) out := by
  have w1 := wEnd_le s i
  have w2 := wEnd_size s i hi
  rw [rd]
  refine E_walkQ k_spec_l3Read m_spec_l3Read (of_decide_eq_true rfl) ?_
  simp (disch := omega) only [c_spec_l3Read, go_sem, Nat.reduceAdd, Nat.reduceSub, Nat.reduceLT, Nat.reduceLeDiff, Nat.reduceEqDiff, Nat.reduceBEq, Nat.reduceBneDiff, Nat.reduceMul, ↓reduceIte, Int.reduceToNat, reduceCtorEq, Int.reduceNeg, Int.reduceAdd]
  refine go_loop (α := Nat) (fun j => ⟨slots 86 0 [(0, .str s), (1, .int .i64 (i : Int)), (4, .ptr 0 0), (6, .int .i64 (j : Int))], [.box 24 [.str ⟨#[]⟩, .nil]]⟩) (fun j => i ≤ j ∧ j ≤ s.size ∧ wEnd s j = wEnd s i) (fun j => s.size - j) i ⟨Nat.le_refl _, hi, rfl⟩ (by simp (disch := omega) only [go_sem, Nat.reduceAdd, Nat.reduceSub, Nat.reduceLT, Nat.reduceLeDiff, Nat.reduceEqDiff, Nat.reduceBEq, Nat.reduceBneDiff, Nat.reduceMul, ↓reduceIte, Int.reduceToNat, reduceCtorEq, Int.reduceNeg, Int.reduceAdd]) ?_
  rintro j ⟨h1, h2, h3⟩
  have hj : ((j : Nat) : Int).toNat = j := Int.toNat_natCast j
  have hw := l3Word_E (byteAt s j)
  by_cases hgo : j < s.size ∧ wordB (byteAt s j) = true
  · have hlt := hgo.1
    rw [hgo.2] at hw
    have := wEnd_step hgo.1 hgo.2
    simp (disch := omega) only [go_sem, Nat.reduceAdd, Nat.reduceSub, Nat.reduceLT, Nat.reduceLeDiff, Nat.reduceEqDiff, Nat.reduceBEq, Nat.reduceBneDiff, Nat.reduceMul, ↓reduceIte, Int.reduceToNat, reduceCtorEq, Int.reduceNeg, Int.reduceAdd, hj, hw, m_spec_l3Word]
    exact ⟨j + 1, ⟨by omega, by omega, by omega⟩, by omega, by first | trivial | (simp only [Int.natCast_add, Int.natCast_one]) | rfl⟩
  have hst := wEnd_stop hgo
  obtain rfl : j = wEnd s i := by omega
  have hstop : ∀ K1 K2 : Unit → Prop, (boolP (.bool (dec ((wEnd s i : Int) < (s.size : Int)))) K1 K2) = (boolP (.bool (dec ((wEnd s i : Int) < (s.size : Int)))) K1 K2) := fun _ _ => rfl
  rcases Nat.lt_or_ge (wEnd s i) s.size with hlt | hge
  · have hwf : wordB (byteAt s (wEnd s i)) = false := by
      cases h : wordB (byteAt s (wEnd s i)) with
      | false => rfl
      | true => exact absurd ⟨hlt, h⟩ hgo
    rw [hwf] at hw
    by_cases h0 : wEnd s i = i
    · have h0' : ((wEnd s i : Int) = (i : Int)) = True := eq_true (by omega)
      rw [dec_t h0, cond_true]
      simp (disch := omega) only [go_sem, Nat.reduceAdd, Nat.reduceSub, Nat.reduceLT, Nat.reduceLeDiff, Nat.reduceEqDiff, Nat.reduceBEq, Nat.reduceBneDiff, Nat.reduceMul, ↓reduceIte, Int.reduceToNat, reduceCtorEq, Int.reduceNeg, Int.reduceAdd, hj, hw, h0', m_spec_l3Word]
      exact ⟨_, rfl, .mk (s.extract i (wEnd s i)) [], -1, rfl, rfl⟩
    · have h0' : ((wEnd s i : Int) = (i : Int)) = False := eq_false (by omega)
      have h0s : ((wEnd s i : Int) = (s.size : Int)) = False := eq_false (by omega)
      rw [dec_f h0, cond_false]
      cases hc : isAt s (wEnd s i) 40 with
      | false =>
        have hb : (byteAt s (wEnd s i) = 40) = False := eq_false fun e => by rw [isAt_iff.2 ⟨hlt, e⟩] at hc; cases hc
        rw [cond_false]
        simp (disch := omega) only [go_sem, Nat.reduceAdd, Nat.reduceSub, Nat.reduceLT, Nat.reduceLeDiff, Nat.reduceEqDiff, Nat.reduceBEq, Nat.reduceBneDiff, Nat.reduceMul, ↓reduceIte, Int.reduceToNat, reduceCtorEq, Int.reduceNeg, Int.reduceAdd, hj, hw, h0', h0s, hb, m_spec_l3Word]
        exact ⟨_, rfl, .mk (s.extract i (wEnd s i)) [], (wEnd s i : Int), rfl, rfl, rfl⟩
      | true =>
        obtain ⟨c1, c2⟩ := isAt_iff.1 hc
        have hb : (byteAt s (wEnd s i) = 40) = True := eq_true c2
        rw [cond_true]
        obtain ⟨total, htot⟩ : ∃ total, total = rdL (rd s n) s n (wEnd s i + 1) := ⟨_, rfl⟩
        rw [← htot]
        have h10 : (([] : List Tm) = []) = True := eq_self _
        simp (disch := omega) only [go_sem, Nat.reduceAdd, Nat.reduceSub, Nat.reduceLT, Nat.reduceLeDiff, Nat.reduceEqDiff, Nat.reduceBEq, Nat.reduceBneDiff, Nat.reduceMul, ↓reduceIte, Int.reduceToNat, reduceCtorEq, Int.reduceNeg, Int.reduceAdd, hj, hw, h0', h0s, hb, m_spec_l3Word]
        refine go_loop (α := List Tm × Nat) (fun a => ⟨slots 86 0 [(0, .str s), (4, .ptr 0 0), (6, .int .i64 (a.2 : Int)), (7, .ptr 1 0)], (if a.1 = [] then [.box 24 [.str ⟨#[]⟩, .nil], .box 24 [.str (s.extract i (wEnd s i)), .nil]] else [.box 24 [.str ⟨#[]⟩, .nil], .box 24 [.str (s.extract i (wEnd s i)), .ref 2], .row 24 2 (a.1.map Tm.osh)])⟩) (fun a => i ≤ a.2 ∧ a.2 < s.size ∧ a.1.length ≤ a.2 ∧ ∃ q, s.size - (a.2 + 1) < q ∧ total = (match rdL (rd s n) s q (a.2 + 1) with | none => none | some (ts, e) => some (a.1 ++ ts, e))) (fun a => s.size - a.2) ([], wEnd s i) ⟨w1, hlt, by simp, n, by dsimp only; omega, by rw [htot]; dsimp only; split <;> simp_all⟩ (by simp (disch := omega) only [go_sem, Nat.reduceAdd, Nat.reduceSub, Nat.reduceLT, Nat.reduceLeDiff, Nat.reduceEqDiff, Nat.reduceBEq, Nat.reduceBneDiff, Nat.reduceMul, ↓reduceIte, Int.reduceToNat, reduceCtorEq, Int.reduceNeg, Int.reduceAdd, h10, if_true]) ?_
        rintro ⟨acc, j⟩ ⟨hij, hj2, hal, q, hq, hR⟩
        dsimp only at hij hj2 hal hq hR
        have hjn : ((j : Nat) : Int).toNat = j := Int.toNat_natCast j
        have hj1 : ((j : Int) + 1) = ((j + 1 : Nat) : Int) := by simp
        obtain ⟨q, rfl⟩ : ∃ q', q = q' + 1 := ⟨q - 1, by omega⟩
        rw [rdL] at hR
        obtain ⟨out1, hc1, t1, k1, rfl, g1⟩ := ih (j + 1) (by omega) (by omega)
        cases hr : rd s n (j + 1) with
        | none =>
          rw [hr] at g1 hR
          have hR : total = none := hR
          have g1 : k1 = -1 := g1
          subst g1
          rw [hR]
          rcases List.eq_nil_or_concat acc with ha | ⟨ys, y, ha⟩
          · subst ha
            simp (disch := omega) only [go_sem, Nat.reduceAdd, Nat.reduceSub, Nat.reduceLT, Nat.reduceLeDiff, Nat.reduceEqDiff, Nat.reduceBEq, Nat.reduceBneDiff, Nat.reduceMul, ↓reduceIte, Int.reduceToNat, reduceCtorEq, Int.reduceNeg, Int.reduceAdd, hj1, hjn, hc1, if_true, eq_self, m_spec_l3Read]
            exact ⟨_, rfl, .mk (s.extract i (wEnd s i)) [], -1, rfl, rfl⟩
          · have hne : (acc = []) = False := eq_false (by rw [ha]; simp)
            have hfu := Tm.osh_full acc
            have her := Tm.osh_er acc
            simp (disch := omega) only [go_sem, Nat.reduceAdd, Nat.reduceSub, Nat.reduceLT, Nat.reduceLeDiff, Nat.reduceEqDiff, Nat.reduceBEq, Nat.reduceBneDiff, Nat.reduceMul, ↓reduceIte, Int.reduceToNat, reduceCtorEq, Int.reduceNeg, Int.reduceAdd, hj1, hjn, hc1, hne, if_false, hfu, her, m_spec_l3Read]
            exact ⟨_, rfl, .mk (s.extract i (wEnd s i)) acc, -1, rfl, rfl⟩
        | some p =>
          obtain ⟨t0, e0⟩ := p
          rw [hr] at g1 hR
          obtain ⟨rfl, rfl⟩ := g1
          obtain ⟨z1, z2, _⟩ := rd_ok n (j + 1) t1 e0 (by omega) hr
          have hen : ((e0 : Nat) : Int).toNat = e0 := Int.toNat_natCast e0
          simp only at hR
          have xn : ((e0 : Int) < 0) = False := eq_false (by omega)
          by_cases he : e0 = s.size
          · have x1 : ((e0 : Int) = (s.size : Int)) = True := eq_true (by omega)
            have b1 : ∀ c, isAt s e0 c = false := fun c => by
              cases h : isAt s e0 c with
              | false => rfl
              | true => have := (isAt_iff.1 h).1; omega
            rw [b1, b1, cond_false, cond_false] at hR
            have hR : total = none := hR
            rw [hR]
            rcases List.eq_nil_or_concat acc with ha | ⟨ys, y, ha⟩
            · subst ha
              simp (disch := omega) only [go_sem, Nat.reduceAdd, Nat.reduceSub, Nat.reduceLT, Nat.reduceLeDiff, Nat.reduceEqDiff, Nat.reduceBEq, Nat.reduceBneDiff, Nat.reduceMul, ↓reduceIte, Int.reduceToNat, reduceCtorEq, Int.reduceNeg, Int.reduceAdd, hj1, hjn, hc1, hen, xn, x1, if_true, eq_self, m_spec_l3Read]
              exact ⟨_, rfl, .mk (s.extract i (wEnd s i)) [], -1, rfl, rfl⟩
            · have hne : (acc = []) = False := eq_false (by rw [ha]; simp)
              have hfu := Tm.osh_full acc
              have her := Tm.osh_er acc
              simp (disch := omega) only [go_sem, Nat.reduceAdd, Nat.reduceSub, Nat.reduceLT, Nat.reduceLeDiff, Nat.reduceEqDiff, Nat.reduceBEq, Nat.reduceBneDiff, Nat.reduceMul, ↓reduceIte, Int.reduceToNat, reduceCtorEq, Int.reduceNeg, Int.reduceAdd, hj1, hjn, hc1, hen, xn, x1, hne, if_false, hfu, her, m_spec_l3Read]
              exact ⟨_, rfl, .mk (s.extract i (wEnd s i)) acc, -1, rfl, rfl⟩
          · have hel : e0 < s.size := by omega
            have x1 : ((e0 : Int) = (s.size : Int)) = False := eq_false (by omega)
            have hfa := Tm.osh_full (acc ++ [t1])
            have hera := Tm.osh_er (acc ++ [t1])
            have hma : acc.map Tm.osh ++ [[OT.str t1.name, .sh (t1.args.map Tm.d)]] = (acc ++ [t1]).map Tm.osh := by rw [List.map_append]; rfl
            have hm1 : [[OT.str t1.name, .sh (t1.args.map Tm.d)]] = [t1].map Tm.osh := rfl
            have hnea : (acc ++ [t1] = []) = False := eq_false (by simp)
            have hne1 : ([t1] = []) = False := eq_false (by simp)
            have hf1 := Tm.osh_full [t1]
            have he1 := Tm.osh_er [t1]
            by_cases b44 : byteAt s e0 = 44
            · have x44 : (byteAt s e0 = 44) = True := eq_true b44
              have x41 : (byteAt s e0 = 41) = False := eq_false (by omega)
              rw [isAt_iff.2 ⟨hel, b44⟩, cond_true] at hR
              have next : i ≤ e0 ∧ e0 < s.size ∧ (acc ++ [t1]).length ≤ e0 ∧ ∃ q, s.size - (e0 + 1) < q ∧ total = (match rdL (rd s n) s q (e0 + 1) with | none => none | some (ts, e) => some ((acc ++ [t1]) ++ ts, e)) := by
                refine ⟨by omega, hel, by rw [List.length_append]; simp only [List.length_cons, List.length_nil]; omega, q, by omega, ?_⟩
                rw [hR]
                cases rdL (rd s n) s q (e0 + 1) with
                | none => rfl
                | some p => simp only [List.append_assoc, List.cons_append, List.nil_append]
              rcases List.eq_nil_or_concat acc with ha | ⟨ys, y, ha⟩
              · subst ha
                simp (disch := omega) only [go_sem, Nat.reduceAdd, Nat.reduceSub, Nat.reduceLT, Nat.reduceLeDiff, Nat.reduceEqDiff, Nat.reduceBEq, Nat.reduceBneDiff, Nat.reduceMul, ↓reduceIte, Int.reduceToNat, reduceCtorEq, Int.reduceNeg, Int.reduceAdd, hj1, hjn, hc1, hen, xn, x1, x44, x41, if_true, eq_self, m_spec_l3Read]
                refine ⟨([t1], e0), next, by dsimp only; omega, ?_⟩
                first | trivial | rfl | (simp (disch := omega) only [go_sem, Nat.reduceAdd, Nat.reduceSub, Nat.reduceLT, Nat.reduceLeDiff, Nat.reduceEqDiff, Nat.reduceBEq, Nat.reduceBneDiff, Nat.reduceMul, ↓reduceIte, Int.reduceToNat, reduceCtorEq, Int.reduceNeg, Int.reduceAdd, hnea, hne1, if_false, hma, hm1])
              · have hne : (acc = []) = False := eq_false (by rw [ha]; simp)
                simp (disch := omega) only [go_sem, Nat.reduceAdd, Nat.reduceSub, Nat.reduceLT, Nat.reduceLeDiff, Nat.reduceEqDiff, Nat.reduceBEq, Nat.reduceBneDiff, Nat.reduceMul, ↓reduceIte, Int.reduceToNat, reduceCtorEq, Int.reduceNeg, Int.reduceAdd, hj1, hjn, hc1, hen, xn, x1, x44, x41, hne, if_false, hfa, hera, hma, m_spec_l3Read, List.length_map]
                refine ⟨(acc ++ [t1], e0), next, by dsimp only; omega, ?_⟩
                first | trivial | rfl | (simp (disch := omega) only [go_sem, Nat.reduceAdd, Nat.reduceSub, Nat.reduceLT, Nat.reduceLeDiff, Nat.reduceEqDiff, Nat.reduceBEq, Nat.reduceBneDiff, Nat.reduceMul, ↓reduceIte, Int.reduceToNat, reduceCtorEq, Int.reduceNeg, Int.reduceAdd, hnea, hne1, if_false, hma, hm1])
            · have x44 : (byteAt s e0 = 44) = False := eq_false b44
              have b44' : isAt s e0 44 = false := by
                cases h : isAt s e0 44 with
                | false => rfl
                | true => exact absurd (isAt_iff.1 h).2 b44
              rw [b44', cond_false] at hR
              by_cases b41 : byteAt s e0 = 41
              · have x41 : (byteAt s e0 = 41) = True := eq_true b41
                rw [isAt_iff.2 ⟨hel, b41⟩, cond_true] at hR
                have hR : total = some (acc ++ [t1], e0 + 1) := hR
                rw [hR]
                rcases List.eq_nil_or_concat acc with ha | ⟨ys, y, ha⟩
                · subst ha
                  simp (disch := omega) only [go_sem, Nat.reduceAdd, Nat.reduceSub, Nat.reduceLT, Nat.reduceLeDiff, Nat.reduceEqDiff, Nat.reduceBEq, Nat.reduceBneDiff, Nat.reduceMul, ↓reduceIte, Int.reduceToNat, reduceCtorEq, Int.reduceNeg, Int.reduceAdd, hj1, hjn, hc1, hen, xn, x1, x44, x41, if_true, eq_self, m_spec_l3Read]
                  exact ⟨_, rfl, .mk (s.extract i (wEnd s i)) [t1], ((e0 + 1 : Nat) : Int), by first | rfl | (simp only [Tm.sv, Tm.args, Tm.name, List.map_cons, List.map_nil, Tm.d_eq]; rfl), rfl, rfl⟩
                · have hne : (acc = []) = False := eq_false (by rw [ha]; simp)
                  simp (disch := omega) only [go_sem, Nat.reduceAdd, Nat.reduceSub, Nat.reduceLT, Nat.reduceLeDiff, Nat.reduceEqDiff, Nat.reduceBEq, Nat.reduceBneDiff, Nat.reduceMul, ↓reduceIte, Int.reduceToNat, reduceCtorEq, Int.reduceNeg, Int.reduceAdd, hj1, hjn, hc1, hen, xn, x1, x44, x41, hne, if_false, hfa, hera, hma, m_spec_l3Read, List.length_map]
                  exact ⟨_, rfl, .mk (s.extract i (wEnd s i)) (acc ++ [t1]), ((e0 + 1 : Nat) : Int), rfl, rfl, rfl⟩
              · have x41 : (byteAt s e0 = 41) = False := eq_false b41
                have b41' : isAt s e0 41 = false := by
                  cases h : isAt s e0 41 with
                  | false => rfl
                  | true => exact absurd (isAt_iff.1 h).2 b41
                rw [b41', cond_false] at hR
                have hR : total = none := hR
                rw [hR]
                rcases List.eq_nil_or_concat acc with ha | ⟨ys, y, ha⟩
                · subst ha
                  simp (disch := omega) only [go_sem, Nat.reduceAdd, Nat.reduceSub, Nat.reduceLT, Nat.reduceLeDiff, Nat.reduceEqDiff, Nat.reduceBEq, Nat.reduceBneDiff, Nat.reduceMul, ↓reduceIte, Int.reduceToNat, reduceCtorEq, Int.reduceNeg, Int.reduceAdd, hj1, hjn, hc1, hen, xn, x1, x44, x41, if_true, eq_self, m_spec_l3Read]
                  exact ⟨_, rfl, .mk (s.extract i (wEnd s i)) [], -1, rfl, rfl⟩
                · have hne : (acc = []) = False := eq_false (by rw [ha]; simp)
                  have hfu := Tm.osh_full acc
                  have her := Tm.osh_er acc
                  simp (disch := omega) only [go_sem, Nat.reduceAdd, Nat.reduceSub, Nat.reduceLT, Nat.reduceLeDiff, Nat.reduceEqDiff, Nat.reduceBEq, Nat.reduceBneDiff, Nat.reduceMul, ↓reduceIte, Int.reduceToNat, reduceCtorEq, Int.reduceNeg, Int.reduceAdd, hj1, hjn, hc1, hen, xn, x1, x44, x41, hne, if_false, hfu, her, m_spec_l3Read, List.length_map]
                  exact ⟨_, rfl, .mk (s.extract i (wEnd s i)) acc, -1, rfl, rfl⟩
  · have hge' : ((wEnd s i : Int) = (s.size : Int)) = True := eq_true (by omega)
    by_cases h0 : wEnd s i = i
    · have h0' : ((wEnd s i : Int) = (i : Int)) = True := eq_true (by omega)
      rw [dec_t h0, cond_true]
      simp (disch := omega) only [go_sem, Nat.reduceAdd, Nat.reduceSub, Nat.reduceLT, Nat.reduceLeDiff, Nat.reduceEqDiff, Nat.reduceBEq, Nat.reduceBneDiff, Nat.reduceMul, ↓reduceIte, Int.reduceToNat, reduceCtorEq, Int.reduceNeg, Int.reduceAdd, hj, hw, h0', hge', m_spec_l3Word]
      exact ⟨_, rfl, .mk (s.extract i (wEnd s i)) [], -1, rfl, rfl⟩
    · have h0' : ((wEnd s i : Int) = (i : Int)) = False := eq_false (by omega)
      have hc : isAt s (wEnd s i) 40 = false := by
        cases h : isAt s (wEnd s i) 40 with
        | false => rfl
        | true => have := (isAt_iff.1 h).1; omega
      rw [dec_f h0, cond_false, hc, cond_false]
      simp (disch := omega) only [go_sem, Nat.reduceAdd, Nat.reduceSub, Nat.reduceLT, Nat.reduceLeDiff, Nat.reduceEqDiff, Nat.reduceBEq, Nat.reduceBneDiff, Nat.reduceMul, ↓reduceIte, Int.reduceToNat, reduceCtorEq, Int.reduceNeg, Int.reduceAdd, hj, hw, h0', hge', m_spec_l3Word]
      exact ⟨_, rfl, .mk (s.extract i (wEnd s i)) [], (wEnd s i : Int), rfl, rfl, rfl⟩
end Go.Proofs.Ytjafnijgkjjadab

set_option maxRecDepth 100000
set_option linter.unusedSimpArgs false
set_option linter.unusedVariables false
namespace Go.Proofs.Ytjafnijgkjjadab
open Go.RowKit

theorem m_strings_Join : modes 98 = ⟨[], .asis, some (valX joinX), false⟩ := by unfold modes; rfl
theorem join_E (xs : List ByteArray) (sep : ByteArray) (h1 : xs.length ≤ 1099511627776) (h2 : (joinB xs sep).size ≤ 1099511627776) : E 98 [.arr (xs.map fun s => [D.str s]), .str sep] [] = some (.str (joinB xs sep), []) := by
  refine E_ext (g := joinX) (congrArg FM.ext m_strings_Join) ?_
  have e : (xs.map fun s => [D.str s]).map strD = xs := by
    rw [List.map_map]
    have : (strD ∘ fun s => [D.str s]) = id := rfl
    rw [this, List.map_id]
  simp only [joinX, e]
  rw [dec_t ⟨fun e he => by obtain ⟨s, _, rfl⟩ := List.mem_map.1 he; exact ⟨s, rfl⟩, by simpa using h1, h2⟩, cond_true]
def c_impl_formatTerm : SC := (.seq (.reg [⟨(some 1), none, (.boxv 24 2 (.t 0))⟩, ⟨(some 2), none, (.mv (.c (.str ⟨#[]⟩)))⟩]) (.seq (.seq (.reg [⟨(some 6), none, (.load true 2 (.t 1))⟩, ⟨(some 7), none, (.call 97 [(.t 6)])⟩]) (.cond (.t 7) (.seq (.dreg [[], [0], [1, 0], [2, 1, 0], [3, 2, 1, 0], [4, 3, 2, 1, 0], [], [6], [7, 6], [8, 7, 6], [9, 8, 7, 6, 4, 3, 2, 1, 0], [5, 4, 3, 2, 1, 0, 10, 9, 8, 7, 6], [11, 5, 4, 3, 2, 1, 0, 10, 9, 8, 7, 6]] [⟨(some 8), none, (.faddr 1 (.t 1))⟩, ⟨(some 9), none, (.load false 1 (.t 8))⟩, ⟨(some 10), none, (.iaddr 2 (.t 9) (.c (.int .i64 0)))⟩, ⟨(some 11), none, (.load true 2 (.t 10))⟩, ⟨(some 12), none, (.call 49 [(.t 11)])⟩, ⟨(some 13), none, (.bin .add false (.t 12) (.c (.str ⟨#[32, 61, 32]⟩)))⟩, ⟨(some 14), none, (.faddr 1 (.t 1))⟩, ⟨(some 15), none, (.load false 1 (.t 14))⟩, ⟨(some 16), none, (.iaddr 2 (.t 15) (.c (.int .i64 1)))⟩, ⟨(some 17), none, (.load true 2 (.t 16))⟩, ⟨(some 18), none, (.call 49 [(.t 17)])⟩, ⟨(some 19), none, (.bin .add false (.t 13) (.t 18))⟩, ⟨(some 2), none, (.mv (.t 19))⟩]) .ret) .skip)) (.seq (.seq (.reg [⟨(some 20), none, (.faddr 1 (.t 1))⟩, ⟨(some 21), none, (.load false 1 (.t 20))⟩, ⟨(some 22), none, (.len false (.t 21))⟩, ⟨(some 23), none, (.bin .eql false (.t 22) (.c (.int .i64 0)))⟩]) (.cond (.t 23) (.seq (.reg [⟨(some 24), none, (.faddr 0 (.t 1))⟩, ⟨(some 25), none, (.load false 1 (.t 24))⟩, ⟨(some 2), none, (.mv (.t 25))⟩]) .ret) .skip)) (.seq (.reg [⟨(some 26), none, (.mkrow 9 1 [(.str ⟨#[]⟩)] 0 [])⟩, ⟨(some 3), none, (.mv (.t 26))⟩]) (.seq (.seq (.reg [⟨(some 27), none, (.faddr 1 (.t 1))⟩, ⟨(some 28), none, (.load false 1 (.t 27))⟩, ⟨(some 29), none, (.len false (.t 28))⟩, ⟨(some 30), none, (.mv (.c (.int .i64 0)))⟩]) (.block 0 (.loop [0, 1, 0, 1, 0, 0, 0, 0, 0, 0, 0, 0, 0, 0, 0, 0, 0, 0, 0, 0, 0, 0, 0, 0, 0, 0, 0, 0, 1, 1, 1, 0, 0, 0, 0, 0, 0, 0, 0, 0, 0, 0, 0, 0, 0, 0, 0] (.seq (.reg [⟨(some 31), none, (.bin .lss false (.t 30) (.t 29))⟩]) (.seq (.cond (.t 31) .skip (.exit 0)) (.seq (.block 1 (.seq (.reg [⟨(some 32), none, (.iaddr 2 (.t 28) (.t 30))⟩, ⟨(some 33), none, (.load true 2 (.t 32))⟩, ⟨(some 5), none, (.alloc 24 [(.str ⟨#[]⟩), .nil])⟩, ⟨none, none, (.store 2 (.t 5) (.t 33))⟩]) (.reg [⟨(some 34), none, (.mv (.t 3))⟩, ⟨(some 35), none, (.load true 2 (.t 5))⟩, ⟨(some 36), none, (.call 49 [(.t 35)])⟩, ⟨(some 37), none, (.mkrow 9 1 [(.str ⟨#[]⟩)] 1 [(0, (.t 36))])⟩, ⟨(some 38), none, (.append 9 1 16 [(.str ⟨#[]⟩)] (.t 34) (.t 37))⟩, ⟨(some 3), none, (.mv (.t 38))⟩]))) (.reg [⟨(some 39), none, (.bin .add false (.t 30) (.c (.int .i64 1)))⟩, ⟨(some 30), none, (.mv (.t 39))⟩]))))))) (.seq (.dreg [[], [0], [1, 0], [], [3], [2, 1, 0, 4, 3], [5, 2, 1, 0, 4, 3], [6, 5, 2, 1, 0, 4, 3]] [⟨(some 40), none, (.faddr 0 (.t 1))⟩, ⟨(some 41), none, (.load false 1 (.t 40))⟩, ⟨(some 42), none, (.bin .add false (.t 41) (.c (.str ⟨#[40]⟩)))⟩, ⟨(some 43), none, (.mv (.t 3))⟩, ⟨(some 44), none, (.call 98 [(.t 43), (.c (.str ⟨#[44]⟩))])⟩, ⟨(some 45), none, (.bin .add false (.t 42) (.t 44))⟩, ⟨(some 46), none, (.bin .add false (.t 45) (.c (.str ⟨#[41]⟩)))⟩, ⟨(some 2), none, (.mv (.t 46))⟩]) .ret))))))
theorem k_impl_formatTerm : codeOf Try.prog 49 = some ⟨47, c_impl_formatTerm, [(.tmp 2)]⟩ := by kernel_rfl
theorem m_impl_formatTerm : modes 49 = ⟨[], .asis, none, false⟩ := by unfold modes; rfl

theorem take_snoc {α β : Type} (f : α → β) {xs : List α} {k : Nat} (h : k < xs.length) : (xs.take k).map f ++ [f xs[k]] = (xs.take (k + 1)).map f := by
  rw [List.take_succ_eq_append_getElem h, List.map_append]; rfl
set_option maxHeartbeats 4000000 in
theorem formatTerm_of (x : Tm) (hx : x.names = true) (hn : x.nodes ≤ 1048576) (ih : ∀ y ∈ x.args, E 49 [y.sv] [] = some (.str y.txt, [])) : E 49 [x.sv] [] = some (.str x.txt, []) := by
  have hl := Tm.length_le x.args
  have hne := Tm.nodes_eq x
  have he := isEquality_E x
  rw [Tm.eqn_names hx] at he
  have hsz := Tm.fmt_len x hx
  rw [← Tm.txt_size] at hsz
  rcases Nat.eq_zero_or_pos x.args.length with h0 | h0
  · have hx0 : x.args = [] := List.eq_nil_of_length_eq_zero h0
    have hz : ((x.args.length : Int) = 0) = True := by rw [hx0]; simp
    rw [Tm.txt_leaf hx0]
    refine E_walk k_impl_formatTerm m_impl_formatTerm (of_decide_eq_true rfl) ?_
    simp (disch := omega) only [c_impl_formatTerm, go_sem, Nat.reduceAdd, Nat.reduceSub, Nat.reduceLT, Nat.reduceLeDiff, Nat.reduceEqDiff, Nat.reduceBEq, Nat.reduceBneDiff, Nat.reduceMul, ↓reduceIte, Int.reduceToNat, reduceCtorEq, Int.reduceNeg, Int.reduceAdd, hz, he, m_impl_isEquality]
  · have hz : ((x.args.length : Int) = 0) = False := eq_false (by omega)
    have hnode := Tm.txt_node (x := x) (by omega)
    have hs1 : (x.name ++ (⟨#[40]⟩ : ByteArray)).size = x.name.size + 1 := by rw [ByteArray.size_append]; rfl
    have hs2 : x.name.size + 1 + (joinB (x.args.map Tm.txt) ⟨#[44]⟩).size + 1 = x.txt.size := by
      rw [← hnode, ByteArray.size_append, ByteArray.size_append, ByteArray.size_append]; rfl
    have hs3 : (x.name ++ (⟨#[40]⟩ : ByteArray) ++ joinB (x.args.map Tm.txt) ⟨#[44]⟩).size = x.name.size + 1 + (joinB (x.args.map Tm.txt) ⟨#[44]⟩).size := by rw [ByteArray.size_append, hs1]
    have hs4 : (⟨#[40]⟩ : ByteArray).size = 1 := rfl
    have hs5 : (⟨#[41]⟩ : ByteArray).size = 1 := rfl
    have hj := join_E (x.args.map Tm.txt) ⟨#[44]⟩ (by simp; omega) (by omega)
    rw [List.map_map] at hj
    have hf : ∀ k, OT.fullss ((x.args.take k).map fun y => [OT.str y.txt]) = true := fun k => by
      have := fu_strs ((x.args.take k).map Tm.txt)
      rwa [List.map_map] at this
    have her : ∀ k, OT.erss ((x.args.take k).map fun y => [OT.str y.txt]) = (x.args.take k).map fun y => [D.str y.txt] := fun k => by
      have := er_strs ((x.args.take k).map Tm.txt)
      rwa [List.map_map, List.map_map] at this
    have htl : x.args.take x.args.length = x.args := List.take_length
    have hfx := hf x.args.length
    have herx := her x.args.length
    rw [htl] at hfx herx
    have hjm : (x.args.map ((fun s => [D.str s]) ∘ Tm.txt)) = x.args.map fun y => [D.str y.txt] := rfl
    rw [hjm] at hj
    refine E_walk k_impl_formatTerm m_impl_formatTerm (of_decide_eq_true rfl) ?_
    simp (disch := omega) only [c_impl_formatTerm, go_sem, Nat.reduceAdd, Nat.reduceSub, Nat.reduceLT, Nat.reduceLeDiff, Nat.reduceEqDiff, Nat.reduceBEq, Nat.reduceBneDiff, Nat.reduceMul, ↓reduceIte, Int.reduceToNat, reduceCtorEq, Int.reduceNeg, Int.reduceAdd, hz, he, m_impl_isEquality]
    refine go_loop (α := Int) (fun a => ⟨slots 47 0 [(1, .ptr 0 0), (3, .ref 1), (28, .arr (x.args.map Tm.d)), (29, .int .i64 x.args.length), (30, .int .i64 a)], [.box 24 [.str x.name, .arr (x.args.map Tm.d)], .row 9 1 ((x.args.take a.toNat).map fun y => [OT.str y.txt])]⟩) (fun a => ∃ k : Nat, a = k ∧ k ≤ (x.args).length) (fun a => (x.args).length - (a).toNat) 0 ⟨0, rfl, Nat.zero_le _⟩ (by simp (disch := omega) only [go_sem, Nat.reduceAdd, Nat.reduceSub, Nat.reduceLT, Nat.reduceLeDiff, Nat.reduceEqDiff, Nat.reduceBEq, Nat.reduceBneDiff, Nat.reduceMul, ↓reduceIte, Int.reduceToNat, reduceCtorEq, Int.reduceNeg, Int.reduceAdd, Int.toNat_zero]) ?_
    rintro i ⟨k, hi, hk⟩
    have hni : i.toNat = k := by omega
    have hni1 : (i + 1).toNat = k + 1 := by omega
    rcases Nat.lt_or_ge k (x.args).length with hlt | hge
    · have hg := get_at Tm.d hlt
      rw [Tm.d_eq] at hg
      have hc := ih x.args[k] (List.getElem_mem hlt)
      have hse := take_snoc (fun y : Tm => [OT.str y.txt]) hlt
      have hkl : ((x.args.take k).map fun y => [OT.str y.txt]).length = k := by rw [List.length_map, List.length_take]; omega
      have hkl2 : (x.args.take k).length = k := by rw [List.length_take]; omega
      simp (disch := omega) only [go_sem, Nat.reduceAdd, Nat.reduceSub, Nat.reduceLT, Nat.reduceLeDiff, Nat.reduceEqDiff, Nat.reduceBEq, Nat.reduceBneDiff, Nat.reduceMul, ↓reduceIte, Int.reduceToNat, reduceCtorEq, Int.reduceNeg, Int.reduceAdd, hni, hg, hc, hkl, hkl2, hse, m_impl_formatTerm]
      refine ⟨i + 1, ⟨k + 1, by omega, hlt⟩, by omega, ?_⟩
      simp (disch := omega) only [go_sem, Nat.reduceAdd, Nat.reduceSub, Nat.reduceLT, Nat.reduceLeDiff, Nat.reduceEqDiff, Nat.reduceBEq, Nat.reduceBneDiff, Nat.reduceMul, ↓reduceIte, Int.reduceToNat, reduceCtorEq, Int.reduceNeg, Int.reduceAdd, hni1, hse]
    · obtain rfl : k = x.args.length := by omega
      simp (disch := omega) only [go_sem, Nat.reduceAdd, Nat.reduceSub, Nat.reduceLT, Nat.reduceLeDiff, Nat.reduceEqDiff, Nat.reduceBEq, Nat.reduceBneDiff, Nat.reduceMul, ↓reduceIte, Int.reduceToNat, reduceCtorEq, Int.reduceNeg, Int.reduceAdd, hni, htl, hfx, herx, hj, hs1, hs2, hs3, hs4, hs5, hnode, m_strings_Join]
theorem formatTerm_E (x : Tm) (hx : x.names = true) (hn : x.nodes ≤ 1048576) : E 49 [x.sv] [] = some (.str x.txt, []) :=
  formatTerm_of x hx hn fun y hy => formatTerm_E y (Tm.names_arg hx hy) (by have := Tm.nodes_mem hy; have := Tm.nodes_eq x; omega)
termination_by SizeOf.sizeOf x
decreasing_by exact Tm.lt_of_mem hy
end Go.Proofs.Ytjafnijgkjjadab

set_option maxRecDepth 100000
set_option linter.unusedSimpArgs false
set_option linter.unusedVariables false
namespace Go.Proofs.Ytjafnijgkjjadab
open Go.RowKit

theorem l3Read_E (s : ByteArray) (hs : s.size ≤ 1048576) : ∀ (n i : Nat), i ≤ s.size → s.size - i < n → ∃ out, E 91 [.str s, .int .i64 (i : Int)] [] = some out ∧ ReadQ (rd s n i) out
  | 0, i, _, h => absurd h (by omega)
  | n + 1, i, hi, hn => l3Read_of s hs n (fun i hi hn => l3Read_E s hs n i hi hn) i hi hn
/-! What is read has no more nodes than bytes. -/
theorem rdL_nodes {r : Nat → Option (Tm × Nat)} {s : ByteArray} (hr : ∀ i t e, r i = some (t, e) → i + t.nodes ≤ e) :
    ∀ (m i : Nat) (ts : List Tm) (e : Nat), rdL r s m i = some (ts, e) → i + Tm.nodeS ts ≤ e
  | 0, i, ts, e, h => by cases h
  | m + 1, i, ts, e, h => by
    rw [rdL] at h
    cases hq : r i with
    | none => rw [hq] at h; cases h
    | some p =>
      obtain ⟨t, e0⟩ := p
      rw [hq] at h
      simp only at h
      have h1 := hr i t e0 hq
      cases hc : isAt s e0 44 with
      | true =>
        rw [hc, cond_true] at h
        cases hl : rdL r s m (e0 + 1) with
        | none => rw [hl] at h; cases h
        | some q =>
          obtain ⟨us, e1⟩ := q
          rw [hl] at h
          simp only [Option.some.injEq, Prod.mk.injEq] at h
          obtain ⟨rfl, rfl⟩ := h
          have := rdL_nodes hr m (e0 + 1) us e1 hl
          rw [Tm.nodeS]; omega
      | false =>
        rw [hc, cond_false] at h
        cases hc2 : isAt s e0 41 with
        | true =>
          rw [hc2, cond_true] at h
          simp only [Option.some.injEq, Prod.mk.injEq] at h
          obtain ⟨rfl, rfl⟩ := h
          rw [Tm.nodeS, Tm.nodeS]; omega
        | false => rw [hc2] at h; cases h
theorem rd_nodes {s : ByteArray} : ∀ (n i : Nat) (t : Tm) (e : Nat), rd s n i = some (t, e) → i + t.nodes ≤ e
  | 0, i, t, e, h => by cases h
  | n + 1, i, t, e, h => by
    rw [rd] at h
    have w1 := wEnd_le s i
    by_cases h0 : wEnd s i = i
    · rw [dec_t h0] at h; cases h
    · rw [dec_f h0, cond_false] at h
      cases hc : isAt s (wEnd s i) 40 with
      | true =>
        rw [hc, cond_true] at h
        cases hl : rdL (rd s n) s n (wEnd s i + 1) with
        | none => rw [hl] at h; cases h
        | some q =>
          obtain ⟨us, e1⟩ := q
          rw [hl] at h
          simp only [Option.some.injEq, Prod.mk.injEq] at h
          obtain ⟨rfl, rfl⟩ := h
          have := rdL_nodes (rd_nodes n) n _ us e1 hl
          rw [Tm.nodes_eq]
          show i + (1 + Tm.nodeS us) ≤ _
          omega
      | false =>
        rw [hc, cond_false] at h
        simp only [Option.some.injEq, Prod.mk.injEq] at h
        obtain ⟨rfl, rfl⟩ := h
        rw [Tm.nodes_eq]
        show i + (1 + Tm.nodeS []) ≤ _
        rw [Tm.nodeS]; omega
/-- The whole text as a term. -/
noncomputable def prOk (s : ByteArray) : Bool := match rd s (s.size + 1) 0 with
  | some (t, e) => dec (e = s.size) && t.valid
  | none => false
noncomputable def prTo (s : ByteArray) : Tm := match rd s (s.size + 1) 0 with
  | some (t, e) => bif dec (e = s.size) && t.valid then t else .mk ⟨#[]⟩ []
  | none => .mk ⟨#[]⟩ []
theorem pr_no {s : ByteArray} (h : prOk s = false) : prTo s = .mk ⟨#[]⟩ [] := by
  unfold prOk at h
  unfold prTo
  cases hr : rd s (s.size + 1) 0 with
  | none => rfl
  | some p =>
    obtain ⟨t, e⟩ := p
    rw [hr] at h
    simp only at h ⊢
    rw [h]; rfl
/-- What is read as a whole is the text of a valid term. -/
theorem pr_yes {s : ByteArray} (h : prOk s = true) : (prTo s).valid = true ∧ (prTo s).txt = s := by
  unfold prOk at h
  unfold prTo
  cases hr : rd s (s.size + 1) 0 with
  | none => rw [hr] at h; cases h
  | some p =>
    obtain ⟨t, e⟩ := p
    rw [hr] at h
    simp only at h ⊢
    rw [h, cond_true]
    rw [Bool.and_eq_true, dec_iff] at h
    obtain ⟨rfl, hv⟩ := h
    refine ⟨hv, bytes_ext ?_⟩
    obtain ⟨_, _, h3⟩ := rd_ok _ 0 t s.size (Nat.zero_le _) hr
    rw [Tm.txt_toList, ← h3, seg_all]
theorem valid_names' {t : Tm} (h : t.valid = true) : t.names = true := by
  unfold Tm.valid at h; rw [Bool.and_eq_true] at h; exact h.2
theorem valid_nodes' {t : Tm} (h : t.valid = true) : t.nodes ≤ 30 := Tm.expr_nodes (by unfold Tm.expr; rw [h]; rfl)
theorem txt_size_ok {t : Tm} (h : t.valid = true) : t.txt.size ≤ 4000 := by
  have h1 := Tm.fmt_len t (valid_names' h)
  have h2 := valid_nodes' h
  rw [Tm.txt_size]; omega
theorem pr_size {s : ByteArray} (h : prOk s = true) : s.size ≤ 4000 := by
  obtain ⟨h1, h2⟩ := pr_yes h
  have := txt_size_ok h1
  rwa [h2] at this
def c_spec_l3Whole : SC := (.seq (.reg [⟨(some 2), none, (.alloc 24 [(.str ⟨#[]⟩), .nil])⟩, ⟨(some 3), none, (.mv (.c (.bool false)))⟩]) (.seq (.reg [⟨(some 7), none, (.mv (.t 0))⟩, ⟨(some 8), none, (.call 91 [(.t 7), (.c (.int .i64 0))])⟩, ⟨(some 6), none, (.mv (.t 8))⟩, ⟨(some 9), none, (.ext (.t 6) 0)⟩, ⟨(some 10), none, (.ext (.t 6) 1)⟩, ⟨(some 4), none, (.alloc 24 [(.str ⟨#[]⟩), .nil])⟩, ⟨none, none, (.store 2 (.t 4) (.t 9))⟩, ⟨(some 5), none, (.mv (.t 10))⟩]) (.seq (.seq (.reg [⟨(some 11), none, (.mv (.t 5))⟩, ⟨(some 12), none, (.mv (.t 0))⟩, ⟨(some 13), none, (.len true (.t 12))⟩, ⟨(some 14), none, (.bin .neq false (.t 11) (.t 13))⟩, ⟨(some 15), none, (.mv (.t 14))⟩, ⟨(some 16), (some (15, false)), (.load true 2 (.t 4))⟩, ⟨(some 17), (some (15, false)), (.call 84 [(.t 16)])⟩, ⟨(some 18), (some (15, false)), (.un .not (.t 17))⟩, ⟨(some 19), none, (.pick (.t 15) (.c (.bool true)) (.t 18))⟩]) (.cond (.t 19) (.seq (.reg [⟨(some 20), none, (.build [(.str ⟨#[]⟩), .nil] [])⟩, ⟨none, none, (.store 2 (.t 2) (.t 20))⟩, ⟨(some 3), none, (.mv (.c (.bool false)))⟩]) .ret) .skip)) (.seq (.reg [⟨(some 21), none, (.load true 2 (.t 4))⟩, ⟨none, none, (.store 2 (.t 2) (.t 21))⟩, ⟨(some 3), none, (.mv (.c (.bool true)))⟩]) .ret))))
theorem k_spec_l3Whole : codeOf Try.prog 45 = some ⟨22, c_spec_l3Whole, [(.cell 2 true 2), (.tmp 3)]⟩ := by kernel_rfl
theorem m_spec_l3Whole : modes 45 = ⟨[], .frz, none, false⟩ := by unfold modes; rfl

def c_spec_ParseTerm : SC := (.seq (.reg [⟨(some 2), none, (.alloc 24 [(.str ⟨#[]⟩), .nil])⟩, ⟨(some 3), none, (.mv (.c (.bool false)))⟩]) (.seq (.seq (.reg [⟨(some 4), none, (.mv (.t 0))⟩, ⟨(some 5), none, (.len true (.t 4))⟩, ⟨(some 6), none, (.bin .gtr false (.t 5) (.c (.int .i64 4000)))⟩]) (.cond (.t 6) (.seq (.reg [⟨(some 7), none, (.build [(.str ⟨#[]⟩), .nil] [])⟩, ⟨none, none, (.store 2 (.t 2) (.t 7))⟩, ⟨(some 3), none, (.mv (.c (.bool false)))⟩]) .ret) .skip)) (.seq (.reg [⟨(some 8), none, (.mv (.t 0))⟩, ⟨(some 9), none, (.call 45 [(.t 8)])⟩, ⟨(some 10), none, (.ext (.t 9) 0)⟩, ⟨(some 11), none, (.ext (.t 9) 1)⟩, ⟨none, none, (.store 2 (.t 2) (.t 10))⟩, ⟨(some 3), none, (.mv (.t 11))⟩]) .ret)))
theorem k_spec_ParseTerm : codeOf Try.prog 9 = some ⟨12, c_spec_ParseTerm, [(.cell 2 true 2), (.tmp 3)]⟩ := by kernel_rfl
theorem m_spec_ParseTerm : modes 9 = ⟨[], .frz, none, false⟩ := by unfold modes; rfl

def c_impl_ParseTerm : SC := (.seq (.reg [⟨(some 2), none, (.alloc 24 [(.str ⟨#[]⟩), .nil])⟩, ⟨(some 3), none, (.mv (.c (.bool false)))⟩]) (.seq (.reg [⟨(some 6), none, (.mv (.t 0))⟩, ⟨(some 7), none, (.build [(.str ⟨#[]⟩), (.int .i64 0), (.bool false)] [(0, (1, (.t 6)))])⟩, ⟨(some 8), none, (.boxv 81 3 (.t 7))⟩, ⟨(some 4), none, (.mv (.t 8))⟩]) (.seq (.reg [⟨(some 9), none, (.mv (.t 4))⟩, ⟨(some 10), none, (.call 46 [(.t 9)])⟩, ⟨(some 5), none, (.alloc 24 [(.str ⟨#[]⟩), .nil])⟩, ⟨none, none, (.store 2 (.t 5) (.t 10))⟩]) (.seq (.seq (.reg [⟨(some 11), none, (.mv (.t 4))⟩, ⟨(some 12), none, (.call 47 [(.t 11)])⟩, ⟨(some 13), none, (.un .not (.t 12))⟩, ⟨(some 14), none, (.mv (.t 13))⟩, ⟨(some 15), (some (14, false)), (.load true 2 (.t 5))⟩, ⟨(some 16), (some (14, false)), (.call 48 [(.t 15)])⟩, ⟨(some 17), (some (14, false)), (.un .not (.t 16))⟩, ⟨(some 18), none, (.pick (.t 14) (.c (.bool true)) (.t 17))⟩, ⟨(some 19), none, (.mv (.t 18))⟩, ⟨(some 20), (some (19, false)), (.load true 2 (.t 5))⟩, ⟨(some 21), (some (19, false)), (.call 49 [(.t 20)])⟩, ⟨(some 22), (some (19, false)), (.mv (.t 0))⟩, ⟨(some 23), (some (19, false)), (.bin .neq false (.t 21) (.t 22))⟩, ⟨(some 24), none, (.pick (.t 19) (.c (.bool true)) (.t 23))⟩]) (.cond (.t 24) (.seq (.reg [⟨(some 25), none, (.build [(.str ⟨#[]⟩), .nil] [])⟩, ⟨none, none, (.store 2 (.t 2) (.t 25))⟩, ⟨(some 3), none, (.mv (.c (.bool false)))⟩]) .ret) .skip)) (.seq (.reg [⟨(some 26), none, (.load true 2 (.t 5))⟩, ⟨none, none, (.store 2 (.t 2) (.t 26))⟩, ⟨(some 3), none, (.mv (.c (.bool true)))⟩]) .ret)))))
theorem k_impl_ParseTerm : codeOf Try.prog 10 = some ⟨27, c_impl_ParseTerm, [(.cell 2 true 2), (.tmp 3)]⟩ := by kernel_rfl
theorem m_impl_ParseTerm : modes 10 = ⟨[], .own [none, some (24, 2), none], none, false⟩ := by unfold modes; rfl

theorem tm0_sv : (Tm.mk ⟨#[]⟩ []).sv = .agg [.str ⟨#[]⟩, .arr []] := rfl
theorem tm0_osv : (Tm.mk ⟨#[]⟩ []).osv = .agg [.str ⟨#[]⟩, .ref 0] := rfl
theorem tm0_obs : (Tm.mk ⟨#[]⟩ []).obs = [.row 24 2 []] := rfl
theorem l3Whole_E (s : ByteArray) (hs : s.size ≤ 1048576) : E 45 [.str s] [] = some (.tup [(prTo s).sv, .bool (prOk s)], []) := by
  obtain ⟨out, h1, t, k, rfl, h2⟩ := l3Read_E s hs (s.size + 1) 0 (Nat.zero_le _) (by omega)
  have h1 : E 91 [.str s, .int .i64 0] [] = some (.tup [t.sv, .int .i64 k], []) := h1
  unfold prTo prOk
  cases hr : rd s (s.size + 1) 0 with
  | none =>
    rw [hr] at h2
    have h2 : k = -1 := h2
    subst h2
    have hq : ((-1 : Int) = (s.size : Int)) = False := eq_false (by omega)
    simp only [tm0_sv]
    refine E_walk k_spec_l3Whole m_spec_l3Whole (of_decide_eq_true rfl) ?_
    simp (disch := omega) only [c_spec_l3Whole, go_sem, Nat.reduceAdd, Nat.reduceSub, Nat.reduceLT, Nat.reduceLeDiff, Nat.reduceEqDiff, Nat.reduceBEq, Nat.reduceBneDiff, Nat.reduceMul, ↓reduceIte, Int.reduceToNat, reduceCtorEq, Int.reduceNeg, Int.reduceAdd, h1, hq, m_spec_l3Read]
  | some p =>
    obtain ⟨t0, e⟩ := p
    rw [hr] at h2
    obtain ⟨rfl, rfl⟩ := h2
    have hn := rd_nodes _ _ _ _ hr
    obtain ⟨_, he, _⟩ := rd_ok _ 0 t e (Nat.zero_le _) hr
    have h3 := l2Good_E t (by omega)
    by_cases h0 : e = s.size
    · have hq : ((e : Int) = (s.size : Int)) = True := eq_true (by omega)
      simp only [dec_t h0, Bool.true_and]
      cases hv : t.valid with
      | true =>
        rw [hv] at h3
        simp only [cond_true]
        refine E_walk k_spec_l3Whole m_spec_l3Whole (of_decide_eq_true rfl) ?_
        simp (disch := omega) only [c_spec_l3Whole, go_sem, Nat.reduceAdd, Nat.reduceSub, Nat.reduceLT, Nat.reduceLeDiff, Nat.reduceEqDiff, Nat.reduceBEq, Nat.reduceBneDiff, Nat.reduceMul, ↓reduceIte, Int.reduceToNat, reduceCtorEq, Int.reduceNeg, Int.reduceAdd, h1, hq, h3, m_spec_l3Read, m_spec_l2Good]
      | false =>
        rw [hv] at h3
        simp only [cond_false, tm0_sv]
        refine E_walk k_spec_l3Whole m_spec_l3Whole (of_decide_eq_true rfl) ?_
        simp (disch := omega) only [c_spec_l3Whole, go_sem, Nat.reduceAdd, Nat.reduceSub, Nat.reduceLT, Nat.reduceLeDiff, Nat.reduceEqDiff, Nat.reduceBEq, Nat.reduceBneDiff, Nat.reduceMul, ↓reduceIte, Int.reduceToNat, reduceCtorEq, Int.reduceNeg, Int.reduceAdd, h1, hq, h3, m_spec_l3Read, m_spec_l2Good]
    · have hq : ((e : Int) = (s.size : Int)) = False := eq_false (by omega)
      simp only [dec_f h0, Bool.false_and, cond_false, tm0_sv]
      refine E_walk k_spec_l3Whole m_spec_l3Whole (of_decide_eq_true rfl) ?_
      simp (disch := omega) only [c_spec_l3Whole, go_sem, Nat.reduceAdd, Nat.reduceSub, Nat.reduceLT, Nat.reduceLeDiff, Nat.reduceEqDiff, Nat.reduceBEq, Nat.reduceBneDiff, Nat.reduceMul, ↓reduceIte, Int.reduceToNat, reduceCtorEq, Int.reduceNeg, Int.reduceAdd, h1, hq, m_spec_l3Read]
theorem specParseTerm_E (s : ByteArray) (hs : s.size ≤ 1048576) : E 9 [.str s] [] = some (.tup [(prTo s).sv, .bool (prOk s)], []) := by
  have h := l3Whole_E s hs
  by_cases h4 : s.size ≤ 4000
  · have hq : ((4000 : Int) < (s.size : Int)) = False := eq_false (by omega)
    refine E_walk k_spec_ParseTerm m_spec_ParseTerm (of_decide_eq_true rfl) ?_
    simp (disch := omega) only [c_spec_ParseTerm, go_sem, Nat.reduceAdd, Nat.reduceSub, Nat.reduceLT, Nat.reduceLeDiff, Nat.reduceEqDiff, Nat.reduceBEq, Nat.reduceBneDiff, Nat.reduceMul, ↓reduceIte, Int.reduceToNat, reduceCtorEq, Int.reduceNeg, Int.reduceAdd, h, hq, m_spec_l3Whole]
  · have hq : ((4000 : Int) < (s.size : Int)) = True := eq_true (by omega)
    have ho : prOk s = false := by
      cases ho : prOk s with
      | false => rfl
      | true => exact absurd (pr_size ho) h4
    rw [ho, pr_no ho, tm0_sv]
    refine E_walk k_spec_ParseTerm m_spec_ParseTerm (of_decide_eq_true rfl) ?_
    simp (disch := omega) only [c_spec_ParseTerm, go_sem, Nat.reduceAdd, Nat.reduceSub, Nat.reduceLT, Nat.reduceLeDiff, Nat.reduceEqDiff, Nat.reduceBEq, Nat.reduceBneDiff, Nat.reduceMul, ↓reduceIte, Int.reduceToNat, reduceCtorEq, Int.reduceNeg, Int.reduceAdd, hq]
set_option maxHeartbeats 4000000 in
theorem implParseTerm_E (s : ByteArray) (hs : s.size ≤ 1048576) : E 10 [.str s] [] = some (.tup [(prTo s).osv, .bool (prOk s)], (prTo s).obs) := by
  obtain ⟨out, h1, t, j, f, rfl, h2, h3, h4⟩ := term_E s hs (s.size + 1) 0 (Nat.zero_le _) (by omega)
  have h1 : E 46 [.ptr 0 0] [.box 81 [.str s, .int .i64 0, .bool false]] = some (.agg [.str t.name, .ref 1], [psr s j f, .row 24 2 (t.args.map Tm.o)]) := h1
  unfold prTo prOk
  cases hr : rd s (s.size + 1) 0 with
  | none =>
    rw [hr] at h4
    have h4 : f = true := h4
    subst h4
    have he := ended_T s j
    simp only [tm0_osv, tm0_obs]
    refine E_walk k_impl_ParseTerm m_impl_ParseTerm (of_decide_eq_true rfl) ?_
    simp (disch := omega) only [c_impl_ParseTerm, go_sem, Nat.reduceAdd, Nat.reduceSub, Nat.reduceLT, Nat.reduceLeDiff, Nat.reduceEqDiff, Nat.reduceBEq, Nat.reduceBneDiff, Nat.reduceMul, ↓reduceIte, Int.reduceToNat, reduceCtorEq, Int.reduceNeg, Int.reduceAdd, h1, he, m_impl_parser_term, m_impl_parser_ended]
  | some p =>
    obtain ⟨t0, e⟩ := p
    rw [hr] at h4
    obtain ⟨rfl, rfl, rfl⟩ := h4
    have hn := rd_nodes _ _ _ _ hr
    obtain ⟨_, _, hsg⟩ := rd_ok _ 0 t j (Nat.zero_le _) hr
    have he := ended_F s j
    have hv1 := isValidTerm_E t (by omega)
    by_cases h0 : j = s.size
    · rw [dec_t h0] at he
      simp only [dec_t h0, Bool.true_and]
      cases hv : t.valid with
      | true =>
        rw [hv] at hv1
        have hf := formatTerm_E t (valid_names' hv) (by have := valid_nodes' hv; omega)
        have ht : t.txt = s := by
          refine bytes_ext ?_
          rw [Tm.txt_toList, ← hsg, h0, seg_all]
        rw [ht] at hf
        simp only [cond_true]
        refine E_walk k_impl_ParseTerm m_impl_ParseTerm (of_decide_eq_true rfl) ?_
        simp (disch := omega) only [c_impl_ParseTerm, go_sem, Nat.reduceAdd, Nat.reduceSub, Nat.reduceLT, Nat.reduceLeDiff, Nat.reduceEqDiff, Nat.reduceBEq, Nat.reduceBneDiff, Nat.reduceMul, ↓reduceIte, Int.reduceToNat, reduceCtorEq, Int.reduceNeg, Int.reduceAdd, h1, he, hv1, hf, Tm.osv, Tm.obs, Tm.erss, Tm.fus, m_impl_IsValidTerm, m_impl_formatTerm, m_impl_parser_term, m_impl_parser_ended, dec_refl]
      | false =>
        rw [hv] at hv1
        simp only [cond_false, tm0_osv, tm0_obs]
        refine E_walk k_impl_ParseTerm m_impl_ParseTerm (of_decide_eq_true rfl) ?_
        simp (disch := omega) only [c_impl_ParseTerm, go_sem, Nat.reduceAdd, Nat.reduceSub, Nat.reduceLT, Nat.reduceLeDiff, Nat.reduceEqDiff, Nat.reduceBEq, Nat.reduceBneDiff, Nat.reduceMul, ↓reduceIte, Int.reduceToNat, reduceCtorEq, Int.reduceNeg, Int.reduceAdd, h1, he, hv1, Tm.erss, Tm.fus, m_impl_IsValidTerm, m_impl_parser_term, m_impl_parser_ended]
    · rw [dec_f h0] at he
      simp only [dec_f h0, Bool.false_and, cond_false, tm0_osv, tm0_obs]
      refine E_walk k_impl_ParseTerm m_impl_ParseTerm (of_decide_eq_true rfl) ?_
      simp (disch := omega) only [c_impl_ParseTerm, go_sem, Nat.reduceAdd, Nat.reduceSub, Nat.reduceLT, Nat.reduceLeDiff, Nat.reduceEqDiff, Nat.reduceBEq, Nat.reduceBneDiff, Nat.reduceMul, ↓reduceIte, Int.reduceToNat, reduceCtorEq, Int.reduceNeg, Int.reduceAdd, h1, he, m_impl_parser_term, m_impl_parser_ended]
end Go.Proofs.Ytjafnijgkjjadab

set_option maxRecDepth 100000
set_option linter.unusedSimpArgs false
set_option linter.unusedVariables false
namespace Go.Proofs.Ytjafnijgkjjadab
open Go.RowKit

/-- The sign between the sides of an equation, of an inequation. -/
def eqSign : List UInt8 := [32, 61, 32]
def neSign : List UInt8 := [32, 33, 61, 32]
/-- The text of an equation's two sides. -/
def Tm.sides (g : List UInt8) : List Tm → List UInt8
  | [a, b] => a.fmt ++ g ++ b.fmt
  | _ => []
/-- The text of an atom. -/
noncomputable def Tm.fmtA (x : Tm) : List UInt8 := bif x.eqn then Tm.sides eqSign x.args else x.fmt
noncomputable def Tm.txtA (x : Tm) : ByteArray := ⟨x.fmtA.toArray⟩
theorem Tm.txtA_toList (x : Tm) : x.txtA.toList = x.fmtA := mk_toList _
theorem Tm.atom_cases {x : Tm} (h : x.atom = true) : (x.eqn = false ∧ x.valid = true) ∨ (∃ a b, x = .mk ⟨#[61]⟩ [a, b] ∧ x.eqn = true ∧ a.names = true ∧ b.names = true ∧ x.small = true) := by
  have h0 := h
  unfold Tm.atom at h
  split at h
  · rename_i he
    rw [Bool.and_eq_true, Bool.and_eq_true] at h
    right
    have hl : x.args.length = 2 := by simpa using h.1.1
    obtain ⟨nm, us⟩ := x
    have hnm : nm = ⟨#[61]⟩ := by unfold Tm.eqn at he; exact dec_iff.1 he
    match us, hl with
    | [a, b], _ =>
      refine ⟨a, b, by rw [hnm], he, ?_, ?_, h.1.2⟩
      · have := h.2
        rw [Tm.nameS_all, List.all_eq_true] at this
        exact this a (by simp [Tm.args])
      · have := h.2
        rw [Tm.nameS_all, List.all_eq_true] at this
        exact this b (by simp [Tm.args])
  · rename_i he
    rw [Bool.and_eq_true] at h
    exact .inl ⟨by simpa using he, h.2⟩
/-! No blank in the text of a term. -/
def noB (l : List UInt8) : Prop := ∀ c ∈ l, c ≠ 32
theorem noB_app {a b : List UInt8} (h : noB a) (k : noB b) : noB (a ++ b) := fun c hc => (List.mem_append.1 hc).elim (h c) (k c)
theorem noB_join : ∀ {xs : List (List UInt8)}, (∀ x ∈ xs, noB x) → noB (joinL [44] xs)
  | [], _ => fun c hc => by cases hc
  | [x], h => h x (by simp)
  | x :: y :: r, h => by
    rw [joinL]
    exact noB_app (noB_app (h x (by simp)) (fun c hc => by simp at hc; rw [hc]; decide)) (noB_join fun z hz => h z (by simp [hz]))
theorem Tm.fmt_noB (x : Tm) (hx : x.names = true) : noB x.fmt := by
  have hw := Tm.wd hx
  have hn : noB x.name.toList := fun c hc e => by
    have := hw.2 c hc
    rw [e] at this
    have h2 : wordB ((32 : UInt8).toNat : Int) = false := not_word (.inr (.inr (.inr rfl)))
    rw [h2] at this; cases this
  rw [Tm.fmt_eq]
  split
  · rw [List.append_nil]; exact hn
  · refine noB_app hn (noB_app (noB_app (fun c hc => by simp at hc; rw [hc]; decide) (noB_join fun z hz => ?_)) (fun c hc => by simp at hc; rw [hc]; decide))
    rw [Tm.fmtL_map] at hz
    obtain ⟨y, hy, rfl⟩ := List.mem_map.1 hz
    exact Tm.fmt_noB y (Tm.names_arg hx hy)
termination_by SizeOf.sizeOf x
decreasing_by exact Tm.lt_of_mem hy
theorem fmt_inj {a b : Tm} (ha : a.names = true) (hb : b.names = true) (h : a.fmt = b.fmt) : a = b := by
  have hs : a.txt = b.txt := bytes_ext (by rw [Tm.txt_toList, Tm.txt_toList, h])
  have h1 := rd_full (s := a.txt) a ha (a.txt.size + 1) 0 a.txt.size (Nat.le_refl _) (Nat.zero_le _) (by rw [seg_all, Tm.txt_toList]) (.inl rfl) (by omega)
  have h2 := rd_full (s := a.txt) b hb (a.txt.size + 1) 0 a.txt.size (Nat.le_refl _) (Nat.zero_le _) (by rw [seg_all, Tm.txt_toList, h]) (.inl rfl) (by omega)
  rw [h1] at h2
  simp only [Option.some.injEq, Prod.mk.injEq] at h2
  exact h2.1
/-- The whole text of a valid term is read as it. -/
theorem pr_full {s : ByteArray} {t : Tm} (hv : t.valid = true) (h : s.toList = t.fmt) : prOk s = true ∧ prTo s = t := by
  have h1 := rd_full (s := s) t (valid_names' hv) (s.size + 1) 0 s.size (Nat.le_refl _) (Nat.zero_le _) (by rw [seg_all, h]) (.inl rfl) (by omega)
  unfold prOk prTo
  rw [h1]
  simp only [dec_T, dec_refl, hv, Bool.and_self, cond_true, and_self]
/-- What reading a whole text as a term tells. -/
theorem pr_iff {s : ByteArray} {t : Tm} : (prOk s = true ∧ prTo s = t) ↔ (t.valid = true ∧ s.toList = t.fmt) := by
  constructor
  · rintro ⟨h1, rfl⟩
    obtain ⟨h2, h3⟩ := pr_yes h1
    exact ⟨h2, by rw [← Tm.txt_toList, h3]⟩
  · rintro ⟨h1, h2⟩; exact pr_full h1 h2
end Go.Proofs.Ytjafnijgkjjadab

set_option maxRecDepth 100000
set_option linter.unusedSimpArgs false
set_option linter.unusedVariables false
namespace Go.Proofs.Ytjafnijgkjjadab
open Go.RowKit

theorem noB_split : ∀ {A A' B B' : List UInt8}, noB A → noB A' → A ++ 32 :: B = A' ++ 32 :: B' → A = A' ∧ B = B'
  | [], [], B, B', _, _, h => by simpa using h
  | [], c :: A', B, B', _, h', h => by
    simp only [List.nil_append, List.cons_append, List.cons.injEq] at h
    exact absurd h.1.symm (h' c (by simp))
  | c :: A, [], B, B', h', _, h => by
    simp only [List.nil_append, List.cons_append, List.cons.injEq] at h
    exact absurd h.1 (h' c (by simp))
  | c :: A, c' :: A', B, B', h1, h2, h => by
    simp only [List.cons_append, List.cons.injEq] at h
    obtain ⟨h3, h4⟩ := noB_split (fun x hx => h1 x (by simp [hx])) (fun x hx => h2 x (by simp [hx])) h.2
    exact ⟨by rw [h.1, h3], h4⟩
theorem small_args {a b : Tm} {n : ByteArray} (h : (Tm.mk n [a, b]).small = true) : a.small = true ∧ b.small = true := by
  unfold Tm.small at h ⊢
  rw [Bool.and_eq_true, decide_eq_true_eq, decide_eq_true_eq, Tm.nodes_eq, Tm.deep_eq] at h
  have e1 : (Tm.mk n [a, b]).args = [a, b] := rfl
  rw [e1, Tm.nodeS, Tm.nodeS, Tm.nodeS, Tm.deepS, Tm.deepS, Tm.deepS] at h
  rw [Bool.and_eq_true, decide_eq_true_eq, decide_eq_true_eq, Bool.and_eq_true, decide_eq_true_eq, decide_eq_true_eq]
  omega
/-- An equation's two sides with a sign between them make up a text. -/
def eqIs (g : List UInt8) (s : ByteArray) (t : Tm) : Prop := ∃ a b : Tm, t = .mk ⟨#[61]⟩ [a, b] ∧ a.valid = true ∧ b.valid = true ∧ t.atom = true ∧ s.toList = a.fmt ++ g ++ b.fmt
theorem eqIs_uniq {g : List UInt8} {s : ByteArray} {t t' : Tm} (h : eqIs (32 :: g) s t) (h' : eqIs (32 :: g) s t') : t = t' := by
  obtain ⟨a, b, rfl, ha, hb, _, hs⟩ := h
  obtain ⟨a', b', rfl, ha', hb', _, hs'⟩ := h'
  rw [hs, List.append_assoc, List.append_assoc, List.cons_append, List.cons_append] at hs'
  obtain ⟨e1, e2⟩ := noB_split (Tm.fmt_noB a (valid_names' ha)) (Tm.fmt_noB a' (valid_names' ha')) hs'
  rw [fmt_inj (valid_names' ha) (valid_names' ha') e1, fmt_inj (valid_names' hb) (valid_names' hb') (List.append_cancel_left e2)]
/-- A valid atom with this text. -/
def atIs (s : ByteArray) (t : Tm) : Prop := t.atom = true ∧ t.txtA = s
theorem atIs_iff {s : ByteArray} {t : Tm} : atIs s t ↔ eqIs eqSign s t ∨ (t.eqn = false ∧ t.atom = true ∧ t.valid = true ∧ s.toList = t.fmt) := by
  constructor
  · rintro ⟨h1, rfl⟩
    rw [Tm.txtA_toList]
    unfold Tm.fmtA
    rcases Tm.atom_cases h1 with ⟨h2, h3⟩ | ⟨a, b, rfl, h2, h3, h4, h5⟩
    · right
      refine ⟨h2, h1, h3, by rw [h2]; rfl⟩
    · left
      obtain ⟨g1, g2⟩ := small_args h5
      refine ⟨a, b, rfl, by unfold Tm.valid; rw [g1, h3]; rfl, by unfold Tm.valid; rw [g2, h4]; rfl, h1, ?_⟩
      rw [Tm.txtA_toList]
      unfold Tm.fmtA
      rw [h2]; rfl
  · rintro (⟨a, b, rfl, h1, h2, h3, h4⟩ | ⟨h1, h2, h3, h4⟩)
    · refine ⟨h3, bytes_ext ?_⟩
      rw [Tm.txtA_toList, h4]
      have he : (Tm.mk ⟨#[61]⟩ [a, b]).eqn = true := by unfold Tm.eqn; exact dec_t rfl
      unfold Tm.fmtA
      rw [he]; rfl
    · refine ⟨h2, bytes_ext ?_⟩
      rw [Tm.txtA_toList, h4]
      unfold Tm.fmtA
      rw [h1]; rfl
theorem eqIs_blank {g : List UInt8} {s : ByteArray} {t u : Tm} (h : eqIs (32 :: g) s t) (hu : u.valid = true) (hs : s.toList = u.fmt) : False := by
  obtain ⟨a, b, _, _, _, _, h4⟩ := h
  have := Tm.fmt_noB u (valid_names' hu)
  rw [← hs, h4] at this
  exact this 32 (by simp) rfl
theorem atIs_uniq {s : ByteArray} {t t' : Tm} (h : atIs s t) (h' : atIs s t') : t = t' := by
  rcases atIs_iff.1 h with h1 | ⟨_, _, h2, h3⟩ <;> rcases atIs_iff.1 h' with h1' | ⟨_, _, h2', h3'⟩
  · exact eqIs_uniq h1 h1'
  · exact (eqIs_blank h1 h2' h3').elim
  · exact (eqIs_blank h1' h2 h3).elim
  · exact fmt_inj (valid_names' h2) (valid_names' h2') (h3.symm.trans h3')
/-- The whole text as an atom. -/
noncomputable def atOk (s : ByteArray) : Bool := dec (∃ t, atIs s t)
open Classical in
noncomputable def atTo (s : ByteArray) : Tm := if h : ∃ t, atIs s t then h.choose else .mk ⟨#[]⟩ []
theorem at_yes {s : ByteArray} {t : Tm} (h : atIs s t) : atOk s = true ∧ atTo s = t := by
  have he : ∃ t, atIs s t := ⟨t, h⟩
  refine ⟨dec_t he, ?_⟩
  unfold atTo
  rw [dif_pos he]
  exact atIs_uniq he.choose_spec h
theorem at_no {s : ByteArray} (h : ∀ t, ¬ atIs s t) : atOk s = false ∧ atTo s = .mk ⟨#[]⟩ [] := by
  have he : ¬ ∃ t, atIs s t := fun ⟨t, ht⟩ => h t ht
  refine ⟨dec_f he, ?_⟩
  unfold atTo
  rw [dif_neg he]
theorem atom_len {t : Tm} (h : t.atom = true) : t.txtA.size ≤ 4000 := by
  obtain hq := atIs_iff.1 ⟨h, rfl⟩
  rcases hq with ⟨a, b, rfl, h1, h2, h3, h4⟩ | ⟨_, _, h1, h2⟩
  · have l1 := Tm.fmt_len a (valid_names' h1)
    have l2 := Tm.fmt_len b (valid_names' h2)
    have n1 := valid_nodes' h1
    have n2 := valid_nodes' h2
    rw [← size_toList, h4]
    simp only [List.length_append, eqSign, List.length_cons, List.length_nil]
    omega
  · have l1 := Tm.fmt_len t (valid_names' h1)
    have n1 := valid_nodes' h1
    rw [← size_toList, h2]; omega
theorem at_size {s : ByteArray} (h : atOk s = true) : s.size ≤ 4000 := by
  obtain ⟨t, h1, rfl⟩ := dec_iff.1 h
  exact atom_len h1
theorem at_atom {s : ByteArray} (h : atOk s = true) : (atTo s).atom = true := by
  obtain ⟨t, ht⟩ := dec_iff.1 h
  rw [(at_yes ht).2]; exact ht.1
/-- An atom read from the start: a term, and behind the sign another one. -/
noncomputable def rdAt (g s : ByteArray) (n : Nat) : Option (Tm × Nat) := match rd s n 0 with
  | none => none
  | some (a, e) => bif hasB s e g then (match rd s n (e + g.size) with
    | none => none
    | some (b, e2) => some (.mk ⟨#[61]⟩ [a, b], e2)) else some (a, e)
theorem rdAt_eq {g : List UInt8} {gb s : ByteArray} {a b : Tm} (hg : gb.toList = 32 :: g) (ha : a.valid = true) (hb : b.valid = true) (hs : s.toList = a.fmt ++ gb.toList ++ b.fmt) : rdAt gb s (s.size + 1) = some (.mk ⟨#[61]⟩ [a, b], s.size) := by
  have h0 := seg_all s
  rw [hs, List.append_assoc] at h0
  obtain ⟨h1, h2, h3⟩ := seg_split h0 (Nat.le_refl _) (Nat.zero_le _)
  rw [Nat.zero_add] at h1 h2 h3
  obtain ⟨k1, k2, k3⟩ := seg_split h3 (Nat.le_refl _) h1
  rw [size_toList] at k1 k2 k3
  have k2' := k2
  rw [hg] at k2'
  obtain ⟨b1, b2, _⟩ := seg_cons k2' (by omega)
  have r1 := rd_full (s := s) a (valid_names' ha) (s.size + 1) 0 a.fmt.length (by omega) (Nat.zero_le _) h2 (.inr ⟨by omega, not_word (.inr (.inr (.inr b2))), by rw [b2]; decide⟩) (by omega)
  have r2 := rd_full (s := s) b (valid_names' hb) (s.size + 1) (a.fmt.length + gb.size) s.size (Nat.le_refl _) (by omega) k3 (.inl rfl) (by omega)
  have hh : hasB s a.fmt.length gb = true := (hasB_seg (by omega)).2 ⟨k1, k2⟩
  unfold rdAt
  rw [r1]
  simp only [hh, cond_true, r2]
theorem rdAt_one {gb s : ByteArray} {t : Tm} (hg : 0 < gb.size) (ht : t.valid = true) (hs : s.toList = t.fmt) : rdAt gb s (s.size + 1) = some (t, s.size) := by
  have r1 := rd_full (s := s) t (valid_names' ht) (s.size + 1) 0 s.size (Nat.le_refl _) (Nat.zero_le _) (by rw [seg_all, hs]) (.inl rfl) (by omega)
  have hh : hasB s s.size gb = false := by
    cases h : hasB s s.size gb with
    | false => rfl
    | true => have := ((hasB_seg (Nat.le_refl _)).1 h).1; omega
  unfold rdAt
  rw [r1]
  simp only [hh, cond_false]
/-- The text of an atom is read as that atom. -/
theorem at_read {s : ByteArray} {t : Tm} (h : atIs s t) : rdAt ⟨#[32, 61, 32]⟩ s (s.size + 1) = some (t, s.size) := by
  have hg : (⟨#[32, 61, 32]⟩ : ByteArray).toList = [32, 61, 32] := mk_toList [32, 61, 32]
  rcases atIs_iff.1 h with ⟨a, b, rfl, h1, h2, _, h4⟩ | ⟨_, _, h1, h2⟩
  · exact rdAt_eq (g := [61, 32]) hg h1 h2 (by rw [hg]; exact h4)
  · exact rdAt_one (by show 0 < 3; omega) h1 h2
theorem rdAt_nodes {gb s : ByteArray} {n : Nat} {t : Tm} {e : Nat} (h : rdAt gb s n = some (t, e)) (hs : ∀ i t e, rd s n i = some (t, e) → e ≤ s.size) : t.nodes ≤ 2 * s.size + 1 := by
  unfold rdAt at h
  cases h1 : rd s n 0 with
  | none => rw [h1] at h; cases h
  | some p =>
    obtain ⟨a, e0⟩ := p
    rw [h1] at h
    simp only at h
    have n1 := rd_nodes _ _ _ _ h1
    have z1 := hs _ _ _ h1
    cases hh : hasB s e0 gb with
    | false => rw [hh] at h; simp only [cond_false, Option.some.injEq, Prod.mk.injEq] at h; obtain ⟨rfl, rfl⟩ := h; omega
    | true =>
      rw [hh] at h
      simp only [cond_true] at h
      cases h2 : rd s n (e0 + gb.size) with
      | none => rw [h2] at h; cases h
      | some p =>
        obtain ⟨b, e2⟩ := p
        rw [h2] at h
        simp only [Option.some.injEq, Prod.mk.injEq] at h
        obtain ⟨rfl, rfl⟩ := h
        have n2 := rd_nodes _ _ _ _ h2
        have z2 := hs _ _ _ h2
        rw [Tm.nodes_eq]
        show 1 + Tm.nodeS [a, b] ≤ _
        rw [Tm.nodeS, Tm.nodeS, Tm.nodeS]
        omega
end Go.Proofs.Ytjafnijgkjjadab

set_option maxRecDepth 100000
set_option linter.unusedSimpArgs false
set_option linter.unusedVariables false
namespace Go.Proofs.Ytjafnijgkjjadab
open Go.RowKit

/-! The text of an atom, in the program. -/
theorem eq_sign_toList : (⟨#[32, 61, 32]⟩ : ByteArray).toList = eqSign := mk_toList [32, 61, 32]
theorem formatA_E (x : Tm) (hx : x.atom = true) : E 49 [x.sv] [] = some (.str x.txtA, []) := by
  rcases Tm.atom_cases hx with ⟨h1, h2⟩ | ⟨a, b, rfl, h1, h2, h3, h4⟩
  · have e : x.txtA = x.txt := bytes_ext (by rw [Tm.txtA_toList, Tm.txt_toList]; unfold Tm.fmtA; rw [h1]; rfl)
    rw [e]
    exact formatTerm_E x (valid_names' h2) (by have := valid_nodes' h2; omega)
  · have he := isEquality_E (.mk ⟨#[61]⟩ [a, b])
    rw [h1] at he
    obtain ⟨s1, s2⟩ := small_args h4
    have va : a.valid = true := by unfold Tm.valid; rw [s1, h2]; rfl
    have vb : b.valid = true := by unfold Tm.valid; rw [s2, h3]; rfl
    have f1 := formatTerm_E a h2 (by have := valid_nodes' va; omega)
    have f2 := formatTerm_E b h3 (by have := valid_nodes' vb; omega)
    have z1 := txt_size_ok va
    have z2 := txt_size_ok vb
    have hs1 : (a.txt ++ (⟨#[32, 61, 32]⟩ : ByteArray)).size = a.txt.size + 3 := by rw [ByteArray.size_append]; rfl
    have hs2 : (⟨#[32, 61, 32]⟩ : ByteArray).size = 3 := rfl
    have ht : a.txt ++ ⟨#[32, 61, 32]⟩ ++ b.txt = (Tm.mk ⟨#[61]⟩ [a, b]).txtA := by
      refine bytes_ext ?_
      rw [app_toList, app_toList, Tm.txt_toList, Tm.txt_toList, Tm.txtA_toList, eq_sign_toList]
      unfold Tm.fmtA
      rw [h1]; rfl
    have g0 : ([a, b].map Tm.d)[(0 : Nat)]? = some [D.str a.name, D.arr (a.args.map Tm.d)] := by rw [List.map_cons, Tm.d_eq]; rfl
    have g1 : ([a, b].map Tm.d)[(1 : Nat)]? = some [D.str b.name, D.arr (b.args.map Tm.d)] := by rw [List.map_cons, List.map_cons, Tm.d_eq b]; rfl
    have hsv : (Tm.mk ⟨#[61]⟩ [a, b]).sv = .agg [.str ⟨#[61]⟩, .arr ([a, b].map Tm.d)] := rfl
    rw [hsv] at he ⊢
    obtain ⟨ds, hds⟩ : ∃ ds, ds = [a, b].map Tm.d := ⟨_, rfl⟩
    rw [← hds] at he g0 g1 ⊢
    refine E_walk k_impl_formatTerm m_impl_formatTerm (of_decide_eq_true rfl) ?_
    simp (disch := omega) only [c_impl_formatTerm, go_sem, Nat.reduceAdd, Nat.reduceSub, Nat.reduceLT, Nat.reduceLeDiff, Nat.reduceEqDiff, Nat.reduceBEq, Nat.reduceBneDiff, Nat.reduceMul, ↓reduceIte, Int.reduceToNat, reduceCtorEq, Int.reduceNeg, Int.reduceAdd, he, g0, g1, f1, f2, hs1, hs2, ht, Int.toNat_zero, Int.toNat_one, m_impl_isEquality, m_impl_formatTerm]
/-! The place of a sign. -/
def c_spec_l3Find : SC := (.seq (.reg [⟨(some 4), none, (.mv (.c (.int .i64 0)))⟩]) (.seq (.seq (.reg [⟨(some 5), none, (.mv (.c (.int .i64 0)))⟩]) (.block 0 (.loop [1, 1, 0, 0, 0, 1, 0, 0, 0, 0, 0, 0, 0, 0, 0, 0, 0, 0, 0, 0, 0, 0, 0, 0, 0] (.seq (.seq (.reg [⟨(some 6), none, (.mv (.t 5))⟩, ⟨(some 7), none, (.mv (.t 1))⟩, ⟨(some 8), none, (.len true (.t 7))⟩, ⟨(some 9), none, (.bin .add false (.t 6) (.t 8))⟩, ⟨(some 10), none, (.mv (.t 0))⟩, ⟨(some 11), none, (.len true (.t 10))⟩, ⟨(some 12), none, (.bin .leq false (.t 9) (.t 11))⟩]) (.cond (.t 12) .skip (.exit 0))) (.seq (.block 1 (.seq (.reg [⟨(some 15), none, (.mv (.t 0))⟩, ⟨(some 16), none, (.mv (.t 5))⟩, ⟨(some 17), none, (.mv (.t 5))⟩, ⟨(some 18), none, (.mv (.t 1))⟩, ⟨(some 19), none, (.len true (.t 18))⟩, ⟨(some 20), none, (.bin .add false (.t 17) (.t 19))⟩, ⟨(some 21), none, (.slice true 0 (.t 15) (some (.t 16)) (some (.t 20)))⟩, ⟨(some 22), none, (.mv (.t 1))⟩, ⟨(some 23), none, (.bin .eql false (.t 21) (.t 22))⟩]) (.cond (.t 23) (.seq (.reg [⟨(some 24), none, (.mv (.t 5))⟩, ⟨(some 4), none, (.mv (.t 24))⟩]) .ret) .skip))) (.reg [⟨(some 13), none, (.mv (.t 5))⟩, ⟨(some 14), none, (.bin .add false (.t 13) (.c (.int .i64 1)))⟩, ⟨(some 5), none, (.mv (.t 14))⟩])))))) (.seq (.reg [⟨(some 4), none, (.mv (.c (.int .i64 (-(0 + 1)))))⟩]) .ret)))
theorem k_spec_l3Find : codeOf Try.prog 150 = some ⟨25, c_spec_l3Find, [(.tmp 4)]⟩ := by kernel_rfl
theorem m_spec_l3Find : modes 150 = ⟨[], .asis, none, false⟩ := by unfold modes; rfl

def c_spec_l3Equation : SC := (.seq (.reg [⟨(some 4), none, (.alloc 24 [(.str ⟨#[]⟩), .nil])⟩, ⟨(some 5), none, (.mv (.c (.bool false)))⟩]) (.seq (.reg [⟨(some 12), none, (.mv (.t 0))⟩, ⟨(some 13), none, (.mv (.t 1))⟩, ⟨(some 14), none, (.call 150 [(.t 12), (.t 13)])⟩, ⟨(some 6), none, (.mv (.t 14))⟩]) (.seq (.seq (.reg [⟨(some 15), none, (.mv (.t 6))⟩, ⟨(some 16), none, (.bin .lss false (.t 15) (.c (.int .i64 0)))⟩]) (.cond (.t 16) (.seq (.reg [⟨(some 17), none, (.build [(.str ⟨#[]⟩), .nil] [])⟩, ⟨none, none, (.store 2 (.t 4) (.t 17))⟩, ⟨(some 5), none, (.mv (.c (.bool false)))⟩]) .ret) .skip)) (.seq (.reg [⟨(some 19), none, (.mv (.t 0))⟩, ⟨(some 20), none, (.mv (.t 6))⟩, ⟨(some 21), none, (.slice true 0 (.t 19) none (some (.t 20)))⟩, ⟨(some 22), none, (.call 45 [(.t 21)])⟩, ⟨(some 18), none, (.mv (.t 22))⟩, ⟨(some 23), none, (.ext (.t 18) 0)⟩, ⟨(some 24), none, (.ext (.t 18) 1)⟩, ⟨(some 7), none, (.alloc 24 [(.str ⟨#[]⟩), .nil])⟩, ⟨none, none, (.store 2 (.t 7) (.t 23))⟩, ⟨(some 8), none, (.mv (.t 24))⟩]) (.seq (.reg [⟨(some 26), none, (.mv (.t 0))⟩, ⟨(some 27), none, (.mv (.t 6))⟩, ⟨(some 28), none, (.mv (.t 1))⟩, ⟨(some 29), none, (.len true (.t 28))⟩, ⟨(some 30), none, (.bin .add false (.t 27) (.t 29))⟩, ⟨(some 31), none, (.slice true 0 (.t 26) (some (.t 30)) none)⟩, ⟨(some 32), none, (.call 45 [(.t 31)])⟩, ⟨(some 25), none, (.mv (.t 32))⟩, ⟨(some 33), none, (.ext (.t 25) 0)⟩, ⟨(some 34), none, (.ext (.t 25) 1)⟩, ⟨(some 9), none, (.alloc 24 [(.str ⟨#[]⟩), .nil])⟩, ⟨none, none, (.store 2 (.t 9) (.t 33))⟩, ⟨(some 10), none, (.mv (.t 34))⟩]) (.seq (.reg [⟨(some 35), none, (.load true 2 (.t 7))⟩, ⟨(some 36), none, (.load true 2 (.t 9))⟩, ⟨(some 37), none, (.mkrow 24 2 [(.str ⟨#[]⟩), .nil] 2 [(0, (.t 35)), (1, (.t 36))])⟩, ⟨(some 38), none, (.build [(.str ⟨#[]⟩), .nil] [(0, (1, (.c (.str ⟨#[61]⟩)))), (1, (1, (.t 37)))])⟩, ⟨(some 11), none, (.alloc 24 [(.str ⟨#[]⟩), .nil])⟩, ⟨none, none, (.store 2 (.t 11) (.t 38))⟩]) (.seq (.seq (.reg [⟨(some 39), none, (.mv (.t 8))⟩, ⟨(some 40), none, (.un .not (.t 39))⟩, ⟨(some 41), none, (.mv (.t 40))⟩, ⟨(some 42), (some (41, false)), (.mv (.t 10))⟩, ⟨(some 43), (some (41, false)), (.un .not (.t 42))⟩, ⟨(some 44), none, (.pick (.t 41) (.c (.bool true)) (.t 43))⟩, ⟨(some 45), none, (.mv (.t 44))⟩, ⟨(some 46), (some (45, false)), (.load true 2 (.t 11))⟩, ⟨(some 47), (some (45, false)), (.call 101 [(.t 46)])⟩, ⟨(some 48), (some (45, false)), (.un .not (.t 47))⟩, ⟨(some 49), none, (.pick (.t 45) (.c (.bool true)) (.t 48))⟩]) (.cond (.t 49) (.seq (.reg [⟨(some 50), none, (.build [(.str ⟨#[]⟩), .nil] [])⟩, ⟨none, none, (.store 2 (.t 4) (.t 50))⟩, ⟨(some 5), none, (.mv (.c (.bool false)))⟩]) .ret) .skip)) (.seq (.reg [⟨(some 51), none, (.load true 2 (.t 11))⟩, ⟨none, none, (.store 2 (.t 4) (.t 51))⟩, ⟨(some 5), none, (.mv (.c (.bool true)))⟩]) .ret))))))))
theorem k_spec_l3Equation : codeOf Try.prog 100 = some ⟨52, c_spec_l3Equation, [(.cell 4 true 2), (.tmp 5)]⟩ := by kernel_rfl
theorem m_spec_l3Equation : modes 100 = ⟨[], .frz, none, false⟩ := by unfold modes; rfl

def c_spec_l3Atom : SC := (.seq (.reg [⟨(some 2), none, (.alloc 24 [(.str ⟨#[]⟩), .nil])⟩, ⟨(some 3), none, (.mv (.c (.bool false)))⟩]) (.seq (.seq (.reg [⟨(some 9), none, (.mv (.t 0))⟩, ⟨(some 10), none, (.call 100 [(.t 9), (.c (.str ⟨#[32, 61, 32]⟩))])⟩, ⟨(some 8), none, (.mv (.t 10))⟩, ⟨(some 11), none, (.ext (.t 8) 0)⟩, ⟨(some 12), none, (.ext (.t 8) 1)⟩, ⟨(some 4), none, (.alloc 24 [(.str ⟨#[]⟩), .nil])⟩, ⟨none, none, (.store 2 (.t 4) (.t 11))⟩, ⟨(some 5), none, (.mv (.t 12))⟩]) (.seq (.reg [⟨(some 13), none, (.mv (.t 5))⟩]) (.cond (.t 13) (.seq (.reg [⟨(some 14), none, (.load true 2 (.t 4))⟩, ⟨none, none, (.store 2 (.t 2) (.t 14))⟩, ⟨(some 3), none, (.mv (.c (.bool true)))⟩]) .ret) .skip))) (.seq (.reg [⟨(some 16), none, (.mv (.t 0))⟩, ⟨(some 17), none, (.call 45 [(.t 16)])⟩, ⟨(some 15), none, (.mv (.t 17))⟩, ⟨(some 18), none, (.ext (.t 15) 0)⟩, ⟨(some 19), none, (.ext (.t 15) 1)⟩, ⟨(some 6), none, (.alloc 24 [(.str ⟨#[]⟩), .nil])⟩, ⟨none, none, (.store 2 (.t 6) (.t 18))⟩, ⟨(some 7), none, (.mv (.t 19))⟩]) (.seq (.seq (.reg [⟨(some 20), none, (.mv (.t 7))⟩, ⟨(some 21), none, (.un .not (.t 20))⟩, ⟨(some 22), none, (.mv (.t 21))⟩, ⟨(some 23), (some (22, false)), (.load true 2 (.t 6))⟩, ⟨(some 24), (some (22, false)), (.call 101 [(.t 23)])⟩, ⟨(some 25), (some (22, false)), (.un .not (.t 24))⟩, ⟨(some 26), none, (.pick (.t 22) (.c (.bool true)) (.t 25))⟩]) (.cond (.t 26) (.seq (.reg [⟨(some 27), none, (.build [(.str ⟨#[]⟩), .nil] [])⟩, ⟨none, none, (.store 2 (.t 2) (.t 27))⟩, ⟨(some 3), none, (.mv (.c (.bool false)))⟩]) .ret) .skip)) (.seq (.reg [⟨(some 28), none, (.load true 2 (.t 6))⟩, ⟨none, none, (.store 2 (.t 2) (.t 28))⟩, ⟨(some 3), none, (.mv (.c (.bool true)))⟩]) .ret)))))
theorem k_spec_l3Atom : codeOf Try.prog 53 = some ⟨29, c_spec_l3Atom, [(.cell 2 true 2), (.tmp 3)]⟩ := by kernel_rfl
theorem m_spec_l3Atom : modes 53 = ⟨[], .frz, none, false⟩ := by unfold modes; rfl

def c_spec_ParseAtom : SC := (.seq (.reg [⟨(some 2), none, (.alloc 24 [(.str ⟨#[]⟩), .nil])⟩, ⟨(some 3), none, (.mv (.c (.bool false)))⟩]) (.seq (.seq (.reg [⟨(some 4), none, (.mv (.t 0))⟩, ⟨(some 5), none, (.len true (.t 4))⟩, ⟨(some 6), none, (.bin .gtr false (.t 5) (.c (.int .i64 4000)))⟩]) (.cond (.t 6) (.seq (.reg [⟨(some 7), none, (.build [(.str ⟨#[]⟩), .nil] [])⟩, ⟨none, none, (.store 2 (.t 2) (.t 7))⟩, ⟨(some 3), none, (.mv (.c (.bool false)))⟩]) .ret) .skip)) (.seq (.reg [⟨(some 8), none, (.mv (.t 0))⟩, ⟨(some 9), none, (.call 53 [(.t 8)])⟩, ⟨(some 10), none, (.ext (.t 9) 0)⟩, ⟨(some 11), none, (.ext (.t 9) 1)⟩, ⟨none, none, (.store 2 (.t 2) (.t 10))⟩, ⟨(some 3), none, (.mv (.t 11))⟩]) .ret)))
theorem k_spec_ParseAtom : codeOf Try.prog 14 = some ⟨12, c_spec_ParseAtom, [(.cell 2 true 2), (.tmp 3)]⟩ := by kernel_rfl
theorem m_spec_ParseAtom : modes 14 = ⟨[], .frz, none, false⟩ := by unfold modes; rfl

def c_impl_parser_atom : SC := (.seq (.reg [⟨(some 2), none, (.alloc 24 [(.str ⟨#[]⟩), .nil])⟩]) (.seq (.reg [⟨(some 4), none, (.mv (.t 0))⟩, ⟨(some 5), none, (.call 46 [(.t 4)])⟩, ⟨(some 3), none, (.alloc 24 [(.str ⟨#[]⟩), .nil])⟩, ⟨none, none, (.store 2 (.t 3) (.t 5))⟩]) (.seq (.seq (.reg [⟨(some 6), none, (.mv (.t 0))⟩, ⟨(some 7), none, (.call 93 [(.t 6), (.c (.str ⟨#[32, 61, 32]⟩))])⟩]) (.cond (.t 7) (.seq (.dreg [[], [], [1], [0, 2, 1], [3, 0, 2, 1], [4, 3, 0, 2, 1]] [⟨(some 8), none, (.load true 2 (.t 3))⟩, ⟨(some 9), none, (.mv (.t 0))⟩, ⟨(some 10), none, (.call 46 [(.t 9)])⟩, ⟨(some 11), none, (.mkrow 24 2 [(.str ⟨#[]⟩), .nil] 2 [(0, (.t 8)), (1, (.t 10))])⟩, ⟨(some 12), none, (.build [(.str ⟨#[]⟩), .nil] [(0, (1, (.c (.str ⟨#[61]⟩)))), (1, (1, (.t 11)))])⟩, ⟨none, none, (.store 2 (.t 2) (.t 12))⟩]) .ret) .skip)) (.seq (.reg [⟨(some 13), none, (.load true 2 (.t 3))⟩, ⟨none, none, (.store 2 (.t 2) (.t 13))⟩]) .ret))))
theorem k_impl_parser_atom : codeOf Try.prog 54 = some ⟨14, c_impl_parser_atom, [(.cell 2 true 2)]⟩ := by kernel_rfl
theorem m_impl_parser_atom : modes 54 = ⟨[], .own [none, some (24, 2)], none, false⟩ := by unfold modes; rfl

def c_impl_ParseAtom : SC := (.seq (.reg [⟨(some 2), none, (.alloc 24 [(.str ⟨#[]⟩), .nil])⟩, ⟨(some 3), none, (.mv (.c (.bool false)))⟩]) (.seq (.reg [⟨(some 6), none, (.mv (.t 0))⟩, ⟨(some 7), none, (.build [(.str ⟨#[]⟩), (.int .i64 0), (.bool false)] [(0, (1, (.t 6)))])⟩, ⟨(some 8), none, (.boxv 81 3 (.t 7))⟩, ⟨(some 4), none, (.mv (.t 8))⟩]) (.seq (.reg [⟨(some 9), none, (.mv (.t 4))⟩, ⟨(some 10), none, (.call 54 [(.t 9)])⟩, ⟨(some 5), none, (.alloc 24 [(.str ⟨#[]⟩), .nil])⟩, ⟨none, none, (.store 2 (.t 5) (.t 10))⟩]) (.seq (.seq (.reg [⟨(some 11), none, (.mv (.t 4))⟩, ⟨(some 12), none, (.call 47 [(.t 11)])⟩, ⟨(some 13), none, (.un .not (.t 12))⟩, ⟨(some 14), none, (.mv (.t 13))⟩, ⟨(some 15), (some (14, false)), (.load true 2 (.t 5))⟩, ⟨(some 16), (some (14, false)), (.call 55 [(.t 15)])⟩, ⟨(some 17), (some (14, false)), (.un .not (.t 16))⟩, ⟨(some 18), none, (.pick (.t 14) (.c (.bool true)) (.t 17))⟩, ⟨(some 19), none, (.mv (.t 18))⟩, ⟨(some 20), (some (19, false)), (.load true 2 (.t 5))⟩, ⟨(some 21), (some (19, false)), (.call 49 [(.t 20)])⟩, ⟨(some 22), (some (19, false)), (.mv (.t 0))⟩, ⟨(some 23), (some (19, false)), (.bin .neq false (.t 21) (.t 22))⟩, ⟨(some 24), none, (.pick (.t 19) (.c (.bool true)) (.t 23))⟩]) (.cond (.t 24) (.seq (.reg [⟨(some 25), none, (.build [(.str ⟨#[]⟩), .nil] [])⟩, ⟨none, none, (.store 2 (.t 2) (.t 25))⟩, ⟨(some 3), none, (.mv (.c (.bool false)))⟩]) .ret) .skip)) (.seq (.reg [⟨(some 26), none, (.load true 2 (.t 5))⟩, ⟨none, none, (.store 2 (.t 2) (.t 26))⟩, ⟨(some 3), none, (.mv (.c (.bool true)))⟩]) .ret)))))
theorem k_impl_ParseAtom : codeOf Try.prog 15 = some ⟨27, c_impl_ParseAtom, [(.cell 2 true 2), (.tmp 3)]⟩ := by kernel_rfl
theorem m_impl_ParseAtom : modes 15 = ⟨[], .own [none, some (24, 2), none], none, false⟩ := by unfold modes; rfl

def FindQ (s g : ByteArray) (k : Int) : Prop := (k = -1 ∧ ∀ j, j + g.size ≤ s.size → ¬ s.extract j (j + g.size) = g) ∨ ∃ i : Nat, k = i ∧ i + g.size ≤ s.size ∧ s.extract i (i + g.size) = g ∧ ∀ j, j < i → ¬ s.extract j (j + g.size) = g
theorem l3Find_E (s g : ByteArray) (hs : s.size ≤ 1048576) (hg : g.size ≤ 1048576) (hg0 : 0 < g.size) : ∃ k : Int, E 150 [.str s, .str g] [] = some (.int .i64 k, []) ∧ FindQ s g k := by
  suffices h : ∃ out, E 150 [.str s, .str g] [] = some out ∧ ∃ k : Int, out = (.int .i64 k, []) ∧ FindQ s g k by
    obtain ⟨out, h1, k, rfl, h2⟩ := h
    exact ⟨k, h1, h2⟩
  refine E_walkQ k_spec_l3Find m_spec_l3Find (of_decide_eq_true rfl) ?_
  simp (disch := omega) only [c_spec_l3Find, go_sem, Nat.reduceAdd, Nat.reduceSub, Nat.reduceLT, Nat.reduceLeDiff, Nat.reduceEqDiff, Nat.reduceBEq, Nat.reduceBneDiff, Nat.reduceMul, ↓reduceIte, Int.reduceToNat, reduceCtorEq, Int.reduceNeg, Int.reduceAdd]
  refine go_loop (α := Nat) (fun j => ⟨slots 25 0 [(0, .str s), (1, .str g), (5, .int .i64 (j : Int))], []⟩) (fun j => j ≤ s.size ∧ ∀ i, i < j → ¬ s.extract i (i + g.size) = g) (fun j => s.size - j) 0 ⟨Nat.zero_le _, fun i hi => absurd hi (by omega)⟩ (by simp (disch := omega) only [go_sem, Nat.reduceAdd, Nat.reduceSub, Nat.reduceLT, Nat.reduceLeDiff, Nat.reduceEqDiff, Nat.reduceBEq, Nat.reduceBneDiff, Nat.reduceMul, ↓reduceIte, Int.reduceToNat, reduceCtorEq, Int.reduceNeg, Int.reduceAdd]; rfl) ?_
  rintro j ⟨h1, h2⟩
  have hj : ((j : Nat) : Int).toNat = j := Int.toNat_natCast j
  have hjg : ((j : Int) + (g.size : Int)).toNat = j + g.size := by omega
  by_cases hle : j + g.size ≤ s.size
  · have q1 : ((j : Int) + (g.size : Int) ≤ (s.size : Int)) = True := eq_true (by omega)
    by_cases hx : s.extract j (j + g.size) = g
    · have q2 : (s.extract j (j + g.size) = g) = True := eq_true hx
      simp (disch := omega) only [go_sem, Nat.reduceAdd, Nat.reduceSub, Nat.reduceLT, Nat.reduceLeDiff, Nat.reduceEqDiff, Nat.reduceBEq, Nat.reduceBneDiff, Nat.reduceMul, ↓reduceIte, Int.reduceToNat, reduceCtorEq, Int.reduceNeg, Int.reduceAdd, hj, hjg, q1, q2]
      exact ⟨_, rfl, (j : Int), rfl, .inr ⟨j, rfl, hle, hx, h2⟩⟩
    · have q2 : (s.extract j (j + g.size) = g) = False := eq_false hx
      simp (disch := omega) only [go_sem, Nat.reduceAdd, Nat.reduceSub, Nat.reduceLT, Nat.reduceLeDiff, Nat.reduceEqDiff, Nat.reduceBEq, Nat.reduceBneDiff, Nat.reduceMul, ↓reduceIte, Int.reduceToNat, reduceCtorEq, Int.reduceNeg, Int.reduceAdd, hj, hjg, q1, q2]
      refine ⟨j + 1, ⟨by omega, fun i hi => ?_⟩, by omega, by first | trivial | (simp only [Int.natCast_add, Int.natCast_one]) | rfl⟩
      rcases Nat.lt_or_ge i j with h | h
      · exact h2 i h
      · obtain rfl : i = j := by omega
        exact hx
  · have q1 : ((j : Int) + (g.size : Int) ≤ (s.size : Int)) = False := eq_false (by omega)
    simp (disch := omega) only [go_sem, Nat.reduceAdd, Nat.reduceSub, Nat.reduceLT, Nat.reduceLeDiff, Nat.reduceEqDiff, Nat.reduceBEq, Nat.reduceBneDiff, Nat.reduceMul, ↓reduceIte, Int.reduceToNat, reduceCtorEq, Int.reduceNeg, Int.reduceAdd, hj, hjg, q1]
    refine ⟨_, rfl, -1, rfl, .inl ⟨rfl, fun i hi => h2 i (by omega)⟩⟩
theorem prTo_nodes (s : ByteArray) : (prTo s).nodes ≤ 30 := by
  cases h : prOk s with
  | false => rw [pr_no h, Tm.nodes_eq]; show 1 + Tm.nodeS [] ≤ 30; rw [Tm.nodeS]; omega
  | true => exact valid_nodes' (pr_yes h).1
/-- Where the sign stands in the text of an equation. -/
theorem eqIs_place {g : List UInt8} {gb s : ByteArray} {t : Tm} (hg : gb.toList = 32 :: g) (h : eqIs (32 :: g) s t) : ∃ a b : Tm, t = .mk ⟨#[61]⟩ [a, b] ∧ a.valid = true ∧ b.valid = true ∧ t.atom = true ∧ a.fmt.length + gb.size ≤ s.size ∧ seg s 0 a.fmt.length = a.fmt ∧ s.extract a.fmt.length (a.fmt.length + gb.size) = gb ∧ seg s (a.fmt.length + gb.size) s.size = b.fmt ∧ ∀ i, i < a.fmt.length → ¬ s.extract i (i + gb.size) = gb := by
  obtain ⟨a, b, rfl, ha, hb, hat, hs⟩ := h
  have h0 := seg_all s
  rw [hs, List.append_assoc] at h0
  obtain ⟨h1, h2, h3⟩ := seg_split h0 (Nat.le_refl _) (Nat.zero_le _)
  rw [Nat.zero_add] at h1 h2 h3
  obtain ⟨k1, k2, k3⟩ := seg_split h3 (Nat.le_refl _) h1
  rw [← hg, size_toList] at k1 k2 k3
  refine ⟨a, b, rfl, ha, hb, hat, k1, h2, bytes_ext (by rw [toList_extract, k2]), k3, fun i hi e => ?_⟩
  have e1 : seg s i (i + gb.size) = 32 :: g := by rw [← toList_extract, e, hg]
  obtain ⟨_, e2, _⟩ := seg_cons e1 (by omega)
  have hin : i < s.toList.length := by rw [size_toList]; omega
  rw [byteAt_toList (by omega)] at e2
  have e3 : s.toList[i] = 32 := UInt8.toNat_inj.1 (by exact_mod_cast e2)
  have e4 : s.toList[i] ∈ seg s 0 a.fmt.length := by
    unfold seg
    rw [List.drop_zero, Nat.sub_zero]
    exact List.mem_take_iff_getElem.2 ⟨i, by omega, rfl⟩
  rw [h2, e3] at e4
  exact Tm.fmt_noB a (valid_names' ha) 32 e4 rfl
set_option maxHeartbeats 4000000 in
theorem l3Equation_E (s gb : ByteArray) (g : List UInt8) (hs : s.size ≤ 1048576) (hg : gb.toList = 32 :: g) (hgs : gb.size ≤ 1000) : ∃ (t : Tm) (b : Bool), E 100 [.str s, .str gb] [] = some (.tup [t.sv, .bool b], []) ∧ ((b = true ∧ eqIs (32 :: g) s t) ∨ (b = false ∧ t = .mk ⟨#[]⟩ [] ∧ ∀ u, ¬ eqIs (32 :: g) s u)) := by
  have hg0 : 0 < gb.size := by rw [← size_toList, hg]; simp
  obtain ⟨k, h1, hk⟩ := l3Find_E s gb hs (by omega) hg0
  rcases hk with ⟨rfl, hk⟩ | ⟨i, rfl, hi, hx, hmin⟩
  · refine ⟨.mk ⟨#[]⟩ [], false, ?_, .inr ⟨rfl, rfl, fun u hu => ?_⟩⟩
    · rw [tm0_sv]
      refine E_walk k_spec_l3Equation m_spec_l3Equation (of_decide_eq_true rfl) ?_
      simp (disch := omega) only [c_spec_l3Equation, go_sem, Nat.reduceAdd, Nat.reduceSub, Nat.reduceLT, Nat.reduceLeDiff, Nat.reduceEqDiff, Nat.reduceBEq, Nat.reduceBneDiff, Nat.reduceMul, ↓reduceIte, Int.reduceToNat, reduceCtorEq, Int.reduceNeg, Int.reduceAdd, h1, m_spec_l3Find]
    · obtain ⟨a, b, _, _, _, _, k1, _, k3, _⟩ := eqIs_place hg hu
      exact hk _ k1 k3
  · have hA := l3Whole_E (s.extract 0 i) (by rw [size_extract' (Nat.zero_le _) (by omega)]; omega)
    have hB := l3Whole_E (s.extract (i + gb.size) s.size) (by rw [size_extract' (by omega) (Nat.le_refl _)]; omega)
    have n1 := prTo_nodes (s.extract 0 i)
    have n2 := prTo_nodes (s.extract (i + gb.size) s.size)
    have hat := l2Atom_E (.mk ⟨#[61]⟩ [prTo (s.extract 0 i), prTo (s.extract (i + gb.size) s.size)]) (by
      rw [Tm.nodes_eq]
      show 1 + Tm.nodeS [_, _] ≤ _
      rw [Tm.nodeS, Tm.nodeS, Tm.nodeS]; omega)
    have hsv : (Tm.mk ⟨#[61]⟩ [prTo (s.extract 0 i), prTo (s.extract (i + gb.size) s.size)]).sv = .agg [.str ⟨#[61]⟩, .arr [[D.str (prTo (s.extract 0 i)).name, D.arr ((prTo (s.extract 0 i)).args.map Tm.d)], [D.str (prTo (s.extract (i + gb.size) s.size)).name, D.arr ((prTo (s.extract (i + gb.size) s.size)).args.map Tm.d)]]] := by
      show SV.agg [.str ⟨#[61]⟩, .arr ([_, _].map Tm.d)] = _
      rw [List.map_cons, List.map_cons, List.map_nil, Tm.d_eq, Tm.d_eq]
    rw [hsv] at hat
    have hin : ((i : Nat) : Int).toNat = i := Int.toNat_natCast i
    have hig : ((i : Int) + (gb.size : Int)).toNat = i + gb.size := by omega
    have hneg : ((i : Int) < 0) = False := eq_false (by omega)
    -- an equation has the sign at this very place
    have key : ∀ u, eqIs (32 :: g) s u → prOk (s.extract 0 i) = true ∧ prOk (s.extract (i + gb.size) s.size) = true ∧ u = .mk ⟨#[61]⟩ [prTo (s.extract 0 i), prTo (s.extract (i + gb.size) s.size)] ∧ u.atom = true := fun u hu => by
      obtain ⟨a, b, rfl, va, vb, hua, k1, k2, k3, k4, k5⟩ := eqIs_place hg hu
      have e : i = a.fmt.length := by
        rcases Nat.lt_trichotomy i a.fmt.length with h | h | h
        · exact absurd hx (k5 i h)
        · exact h
        · exact absurd k3 (hmin _ h)
      have p1 := pr_full (s := s.extract 0 i) va (by rw [toList_extract, e, k2])
      have p2 := pr_full (s := s.extract (i + gb.size) s.size) vb (by rw [toList_extract, e, k4])
      rw [p1.2, p2.2]
      exact ⟨p1.1, p2.1, rfl, hua⟩
    by_cases hall : prOk (s.extract 0 i) = true ∧ prOk (s.extract (i + gb.size) s.size) = true ∧ (Tm.mk ⟨#[61]⟩ [prTo (s.extract 0 i), prTo (s.extract (i + gb.size) s.size)]).atom = true
    · obtain ⟨o1, o2, o3⟩ := hall
      rw [o1] at hA
      rw [o2] at hB
      rw [o3] at hat
      obtain ⟨v1, x1⟩ := pr_yes o1
      obtain ⟨v2, x2⟩ := pr_yes o2
      refine ⟨.mk ⟨#[61]⟩ [prTo (s.extract 0 i), prTo (s.extract (i + gb.size) s.size)], true, ?_, .inl ⟨rfl, _, _, rfl, v1, v2, o3, ?_⟩⟩
      · rw [hsv]
        refine E_walk k_spec_l3Equation m_spec_l3Equation (of_decide_eq_true rfl) ?_
        simp (disch := omega) only [c_spec_l3Equation, go_sem, Nat.reduceAdd, Nat.reduceSub, Nat.reduceLT, Nat.reduceLeDiff, Nat.reduceEqDiff, Nat.reduceBEq, Nat.reduceBneDiff, Nat.reduceMul, ↓reduceIte, Int.reduceToNat, reduceCtorEq, Int.reduceNeg, Int.reduceAdd, h1, hA, hB, hat, hin, hig, hneg, Int.toNat_zero, m_spec_l3Find, m_spec_l3Whole, m_spec_l2Atom]
      · rw [← Tm.txt_toList, ← Tm.txt_toList, x1, x2, toList_extract, toList_extract, ← hg, ← hx, toList_extract, ← seg_app (Nat.zero_le _) (by omega), hx, ← seg_app (Nat.zero_le _) hi, seg_all]
    · refine ⟨.mk ⟨#[]⟩ [], false, ?_, .inr ⟨rfl, rfl, fun u hu => ?_⟩⟩
      · rw [tm0_sv]
        cases o1 : prOk (s.extract 0 i) with
        | false =>
          rw [o1] at hA
          refine E_walk k_spec_l3Equation m_spec_l3Equation (of_decide_eq_true rfl) ?_
          simp (disch := omega) only [c_spec_l3Equation, go_sem, Nat.reduceAdd, Nat.reduceSub, Nat.reduceLT, Nat.reduceLeDiff, Nat.reduceEqDiff, Nat.reduceBEq, Nat.reduceBneDiff, Nat.reduceMul, ↓reduceIte, Int.reduceToNat, reduceCtorEq, Int.reduceNeg, Int.reduceAdd, h1, hA, hB, hin, hig, hneg, Int.toNat_zero, m_spec_l3Find, m_spec_l3Whole, m_spec_l2Atom]
        | true =>
          rw [o1] at hA
          cases o2 : prOk (s.extract (i + gb.size) s.size) with
          | false =>
            rw [o2] at hB
            refine E_walk k_spec_l3Equation m_spec_l3Equation (of_decide_eq_true rfl) ?_
            simp (disch := omega) only [c_spec_l3Equation, go_sem, Nat.reduceAdd, Nat.reduceSub, Nat.reduceLT, Nat.reduceLeDiff, Nat.reduceEqDiff, Nat.reduceBEq, Nat.reduceBneDiff, Nat.reduceMul, ↓reduceIte, Int.reduceToNat, reduceCtorEq, Int.reduceNeg, Int.reduceAdd, h1, hA, hB, hin, hig, hneg, Int.toNat_zero, m_spec_l3Find, m_spec_l3Whole, m_spec_l2Atom]
          | true =>
            rw [o2] at hB
            have o3 : (Tm.mk ⟨#[61]⟩ [prTo (s.extract 0 i), prTo (s.extract (i + gb.size) s.size)]).atom = false := by
              cases h : (Tm.mk ⟨#[61]⟩ [prTo (s.extract 0 i), prTo (s.extract (i + gb.size) s.size)]).atom with
              | false => rfl
              | true => exact absurd ⟨o1, o2, h⟩ hall
            rw [o3] at hat
            refine E_walk k_spec_l3Equation m_spec_l3Equation (of_decide_eq_true rfl) ?_
            simp (disch := omega) only [c_spec_l3Equation, go_sem, Nat.reduceAdd, Nat.reduceSub, Nat.reduceLT, Nat.reduceLeDiff, Nat.reduceEqDiff, Nat.reduceBEq, Nat.reduceBneDiff, Nat.reduceMul, ↓reduceIte, Int.reduceToNat, reduceCtorEq, Int.reduceNeg, Int.reduceAdd, h1, hA, hB, hat, hin, hig, hneg, Int.toNat_zero, m_spec_l3Find, m_spec_l3Whole, m_spec_l2Atom]
      · obtain ⟨k1, k2, rfl, k4⟩ := key u hu
        exact hall ⟨k1, k2, k4⟩
theorem at_size' {s : ByteArray} (h : ¬ s.size ≤ 4000) : atOk s = false ∧ atTo s = .mk ⟨#[]⟩ [] := by
  refine at_no fun t ht => h ?_
  have := atom_len ht.1
  rwa [ht.2] at this
theorem l3Atom_E (s : ByteArray) (hs : s.size ≤ 1048576) : E 53 [.str s] [] = some (.tup [(atTo s).sv, .bool (atOk s)], []) := by
  obtain ⟨t, b, h1, h2⟩ := l3Equation_E s ⟨#[32, 61, 32]⟩ [61, 32] hs (mk_toList _) (by show 3 ≤ 1000; omega)
  have hw := l3Whole_E s hs
  have n1 := prTo_nodes s
  have ha := l2Atom_E (prTo s) (by omega)
  rcases h2 with ⟨rfl, h2⟩ | ⟨rfl, rfl, h2⟩
  · obtain ⟨o1, o2⟩ := at_yes (atIs_iff.2 (.inl h2))
    rw [o1, o2]
    refine E_walk k_spec_l3Atom m_spec_l3Atom (of_decide_eq_true rfl) ?_
    simp (disch := omega) only [c_spec_l3Atom, go_sem, Nat.reduceAdd, Nat.reduceSub, Nat.reduceLT, Nat.reduceLeDiff, Nat.reduceEqDiff, Nat.reduceBEq, Nat.reduceBneDiff, Nat.reduceMul, ↓reduceIte, Int.reduceToNat, reduceCtorEq, Int.reduceNeg, Int.reduceAdd, h1, m_spec_l3Equation]
  · cases o1 : prOk s with
    | false =>
      obtain ⟨q1, q2⟩ := at_no (s := s) fun u hu => by
        rcases atIs_iff.1 hu with hu | ⟨_, _, hv, hx⟩
        · exact h2 u hu
        · rw [(pr_full hv hx).1] at o1; cases o1
      rw [o1] at hw
      rw [q1, q2, tm0_sv]
      refine E_walk k_spec_l3Atom m_spec_l3Atom (of_decide_eq_true rfl) ?_
      simp (disch := omega) only [c_spec_l3Atom, go_sem, Nat.reduceAdd, Nat.reduceSub, Nat.reduceLT, Nat.reduceLeDiff, Nat.reduceEqDiff, Nat.reduceBEq, Nat.reduceBneDiff, Nat.reduceMul, ↓reduceIte, Int.reduceToNat, reduceCtorEq, Int.reduceNeg, Int.reduceAdd, h1, hw, m_spec_l3Equation, m_spec_l3Whole]
    | true =>
      obtain ⟨v1, x1⟩ := pr_yes o1
      have x2 : s.toList = (prTo s).fmt := by rw [← Tm.txt_toList, x1]
      rw [o1] at hw
      cases o2 : (prTo s).atom with
      | false =>
        obtain ⟨q1, q2⟩ := at_no (s := s) fun u hu => by
          rcases atIs_iff.1 hu with hu | ⟨_, ha, hv, hx⟩
          · exact h2 u hu
          · rw [(pr_full hv hx).2, ha] at o2; cases o2
        rw [o2] at ha
        rw [q1, q2, tm0_sv]
        refine E_walk k_spec_l3Atom m_spec_l3Atom (of_decide_eq_true rfl) ?_
        simp (disch := omega) only [c_spec_l3Atom, go_sem, Nat.reduceAdd, Nat.reduceSub, Nat.reduceLT, Nat.reduceLeDiff, Nat.reduceEqDiff, Nat.reduceBEq, Nat.reduceBneDiff, Nat.reduceMul, ↓reduceIte, Int.reduceToNat, reduceCtorEq, Int.reduceNeg, Int.reduceAdd, h1, hw, ha, m_spec_l3Equation, m_spec_l3Whole, m_spec_l2Atom]
      | true =>
        obtain ⟨q1, q2⟩ := at_yes (s := s) (t := prTo s) (atIs_iff.2 (.inr ⟨Tm.eqn_names (valid_names' v1), o2, v1, x2⟩))
        rw [o2] at ha
        rw [q1, q2]
        refine E_walk k_spec_l3Atom m_spec_l3Atom (of_decide_eq_true rfl) ?_
        simp (disch := omega) only [c_spec_l3Atom, go_sem, Nat.reduceAdd, Nat.reduceSub, Nat.reduceLT, Nat.reduceLeDiff, Nat.reduceEqDiff, Nat.reduceBEq, Nat.reduceBneDiff, Nat.reduceMul, ↓reduceIte, Int.reduceToNat, reduceCtorEq, Int.reduceNeg, Int.reduceAdd, h1, hw, ha, m_spec_l3Equation, m_spec_l3Whole, m_spec_l2Atom]
theorem specParseAtom_E (s : ByteArray) (hs : s.size ≤ 1048576) : E 14 [.str s] [] = some (.tup [(atTo s).sv, .bool (atOk s)], []) := by
  have h := l3Atom_E s hs
  by_cases h4 : s.size ≤ 4000
  · have hq : ((4000 : Int) < (s.size : Int)) = False := eq_false (by omega)
    refine E_walk k_spec_ParseAtom m_spec_ParseAtom (of_decide_eq_true rfl) ?_
    simp (disch := omega) only [c_spec_ParseAtom, go_sem, Nat.reduceAdd, Nat.reduceSub, Nat.reduceLT, Nat.reduceLeDiff, Nat.reduceEqDiff, Nat.reduceBEq, Nat.reduceBneDiff, Nat.reduceMul, ↓reduceIte, Int.reduceToNat, reduceCtorEq, Int.reduceNeg, Int.reduceAdd, h, hq, m_spec_l3Atom]
  · have hq : ((4000 : Int) < (s.size : Int)) = True := eq_true (by omega)
    obtain ⟨q1, q2⟩ := at_size' h4
    rw [q1, q2, tm0_sv]
    refine E_walk k_spec_ParseAtom m_spec_ParseAtom (of_decide_eq_true rfl) ?_
    simp (disch := omega) only [c_spec_ParseAtom, go_sem, Nat.reduceAdd, Nat.reduceSub, Nat.reduceLT, Nat.reduceLeDiff, Nat.reduceEqDiff, Nat.reduceBEq, Nat.reduceBneDiff, Nat.reduceMul, ↓reduceIte, Int.reduceToNat, reduceCtorEq, Int.reduceNeg, Int.reduceAdd, hq]
/-! The program's reader at an atom. -/
set_option maxHeartbeats 4000000 in
theorem atom_E (s : ByteArray) (hs : s.size ≤ 1048576) : ∃ out, E 54 [.ptr 0 0] [psr s 0 false] = some out ∧ TermQ s 0 (rdAt ⟨#[32, 61, 32]⟩ s (s.size + 1)) out := by
  obtain ⟨out1, h1, t, j, f, rfl, g1, g2, g3⟩ := term_E s hs (s.size + 1) 0 (Nat.zero_le _) (by omega)
  refine E_walkQ k_impl_parser_atom m_impl_parser_atom (of_decide_eq_true rfl) ?_
  unfold rdAt
  cases hr : rd s (s.size + 1) 0 with
  | none =>
    rw [hr] at g3
    have g3 : f = true := g3
    subst g3
    have ht := take_T s j ⟨#[32, 61, 32]⟩
    simp (disch := omega) only [c_impl_parser_atom, go_sem, Nat.reduceAdd, Nat.reduceSub, Nat.reduceLT, Nat.reduceLeDiff, Nat.reduceEqDiff, Nat.reduceBEq, Nat.reduceBneDiff, Nat.reduceMul, ↓reduceIte, Int.reduceToNat, reduceCtorEq, Int.reduceNeg, Int.reduceAdd, h1, ht, m_impl_parser_term, m_impl_parser_take]
    exact ⟨_, rfl, t, j, true, rfl, Nat.zero_le _, g2, rfl⟩
  | some p =>
    obtain ⟨a, e⟩ := p
    rw [hr] at g3
    obtain ⟨rfl, rfl, rfl⟩ := g3
    cases hh : hasB s j ⟨#[32, 61, 32]⟩ with
    | false =>
      have ht := take_no s j ⟨#[32, 61, 32]⟩ g2 hh
      simp only [hh, cond_false]
      simp (disch := omega) only [c_impl_parser_atom, go_sem, Nat.reduceAdd, Nat.reduceSub, Nat.reduceLT, Nat.reduceLeDiff, Nat.reduceEqDiff, Nat.reduceBEq, Nat.reduceBneDiff, Nat.reduceMul, ↓reduceIte, Int.reduceToNat, reduceCtorEq, Int.reduceNeg, Int.reduceAdd, h1, ht, m_impl_parser_term, m_impl_parser_take]
      exact ⟨_, rfl, t, j, false, rfl, Nat.zero_le _, g2, rfl, rfl, rfl⟩
    | true =>
      have ht : E 93 [.ptr 0 0, .str ⟨#[32, 61, 32]⟩] [psr s j false] = some (.bool true, [psr s (j + 3) false]) := take_yes s j ⟨#[32, 61, 32]⟩ (by show j + 3 ≤ _; omega) g2 hh
      have hj3 : j + 3 ≤ s.size := ((hasB_seg g2).1 hh).1
      obtain ⟨out2, h2, t2, j2, f2, rfl, k1, k2, k3⟩ := term_E s hs (s.size + 1) (j + 3) hj3 (by omega)
      simp only [hh, cond_true]
      have e3 : rd s (s.size + 1) (j + (⟨#[32, 61, 32]⟩ : ByteArray).size) = rd s (s.size + 1) (j + 3) := rfl
      rw [e3]
      have ho : (Tm.mk ⟨#[61]⟩ [t, t2]).args.map Tm.o = [[OT.str t.name, .ow (t.args.map Tm.o)], [OT.str t2.name, .ow (t2.args.map Tm.o)]] := by
        show [t, t2].map Tm.o = _
        rw [List.map_cons, List.map_cons, List.map_nil, Tm.o_eq, Tm.o_eq]
      simp (disch := omega) only [c_impl_parser_atom, go_sem, Nat.reduceAdd, Nat.reduceSub, Nat.reduceLT, Nat.reduceLeDiff, Nat.reduceEqDiff, Nat.reduceBEq, Nat.reduceBneDiff, Nat.reduceMul, ↓reduceIte, Int.reduceToNat, reduceCtorEq, Int.reduceNeg, Int.reduceAdd, h1, ht, h2, m_impl_parser_term, m_impl_parser_take]
      cases hr2 : rd s (s.size + 1) (j + 3) with
      | none =>
        rw [hr2] at k3
        have k3 : f2 = true := k3
        subst k3
        exact ⟨_, rfl, .mk ⟨#[61]⟩ [t, t2], j2, true, by rw [ho]; rfl, Nat.zero_le _, k2, rfl⟩
      | some p =>
        obtain ⟨b, e⟩ := p
        rw [hr2] at k3
        obtain ⟨rfl, rfl, rfl⟩ := k3
        exact ⟨_, rfl, .mk ⟨#[61]⟩ [t, t2], j2, false, by rw [ho]; rfl, Nat.zero_le _, k2, rfl, rfl, rfl⟩
set_option maxHeartbeats 4000000 in
theorem implParseAtom_E (s : ByteArray) (hs : s.size ≤ 1048576) : E 15 [.str s] [] = some (.tup [(atTo s).osv, .bool (atOk s)], (atTo s).obs) := by
  obtain ⟨out, h1, t, j, f, rfl, h2, h3, h4⟩ := atom_E s hs
  have h1 : E 54 [.ptr 0 0] [.box 81 [.str s, .int .i64 0, .bool false]] = some (.agg [.str t.name, .ref 1], [psr s j f, .row 24 2 (t.args.map Tm.o)]) := h1
  cases hr : rdAt ⟨#[32, 61, 32]⟩ s (s.size + 1) with
  | none =>
    rw [hr] at h4
    have h4 : f = true := h4
    subst h4
    have he := ended_T s j
    obtain ⟨q1, q2⟩ := at_no (s := s) fun u hu => by rw [at_read hu] at hr; cases hr
    rw [q1, q2]
    simp only [tm0_osv, tm0_obs]
    refine E_walk k_impl_ParseAtom m_impl_ParseAtom (of_decide_eq_true rfl) ?_
    simp (disch := omega) only [c_impl_ParseAtom, go_sem, Nat.reduceAdd, Nat.reduceSub, Nat.reduceLT, Nat.reduceLeDiff, Nat.reduceEqDiff, Nat.reduceBEq, Nat.reduceBneDiff, Nat.reduceMul, ↓reduceIte, Int.reduceToNat, reduceCtorEq, Int.reduceNeg, Int.reduceAdd, h1, he, m_impl_IsValidAtom, m_impl_formatTerm, m_impl_parser_atom, m_impl_parser_ended]
  | some p =>
    obtain ⟨t0, e⟩ := p
    rw [hr] at h4
    obtain ⟨rfl, rfl, rfl⟩ := h4
    have hn := rdAt_nodes hr fun i t e h => by
      rcases Nat.lt_or_ge s.size i with hi | hi
      · exfalso
        rw [rd] at h
        have hw : wEnd s i = i := wEnd_stop (by omega)
        rw [hw, dec_refl] at h; cases h
      · exact (rd_ok _ i t e hi h).2.1
    have he := ended_F s j
    have hv1 := isValidAtom_E t (by omega)
    have no : ¬ (j = s.size ∧ t.atom = true ∧ t.txtA = s) → atOk s = false ∧ atTo s = .mk ⟨#[]⟩ [] := fun h => at_no fun u hu => by
      have := at_read hu
      rw [hr] at this
      simp only [Option.some.injEq, Prod.mk.injEq] at this
      obtain ⟨rfl, rfl⟩ := this
      exact h ⟨rfl, hu.1, hu.2⟩
    by_cases h0 : j = s.size
    · rw [dec_t h0] at he
      cases hv : t.atom with
      | true =>
        rw [hv] at hv1
        have hf := formatA_E t hv
        by_cases hx : t.txtA = s
        · obtain ⟨q1, q2⟩ := at_yes (s := s) (t := t) ⟨hv, hx⟩
          rw [q1, q2]
          have hx' : (t.txtA = s) = True := eq_true hx
          refine E_walk k_impl_ParseAtom m_impl_ParseAtom (of_decide_eq_true rfl) ?_
          simp (disch := omega) only [c_impl_ParseAtom, go_sem, Nat.reduceAdd, Nat.reduceSub, Nat.reduceLT, Nat.reduceLeDiff, Nat.reduceEqDiff, Nat.reduceBEq, Nat.reduceBneDiff, Nat.reduceMul, ↓reduceIte, Int.reduceToNat, reduceCtorEq, Int.reduceNeg, Int.reduceAdd, h1, he, hv1, hf, hx', Tm.osv, Tm.obs, Tm.erss, Tm.fus, m_impl_IsValidAtom, m_impl_formatTerm, m_impl_parser_atom, m_impl_parser_ended]
        · obtain ⟨q1, q2⟩ := no fun h => hx h.2.2
          rw [q1, q2]
          have hx' : (t.txtA = s) = False := eq_false hx
          simp only [tm0_osv, tm0_obs]
          refine E_walk k_impl_ParseAtom m_impl_ParseAtom (of_decide_eq_true rfl) ?_
          simp (disch := omega) only [c_impl_ParseAtom, go_sem, Nat.reduceAdd, Nat.reduceSub, Nat.reduceLT, Nat.reduceLeDiff, Nat.reduceEqDiff, Nat.reduceBEq, Nat.reduceBneDiff, Nat.reduceMul, ↓reduceIte, Int.reduceToNat, reduceCtorEq, Int.reduceNeg, Int.reduceAdd, h1, he, hv1, hf, hx', Tm.erss, Tm.fus, m_impl_IsValidAtom, m_impl_formatTerm, m_impl_parser_atom, m_impl_parser_ended]
      | false =>
        rw [hv] at hv1
        obtain ⟨q1, q2⟩ := no fun h => by rw [hv] at h; cases h.2.1
        rw [q1, q2]
        simp only [tm0_osv, tm0_obs]
        refine E_walk k_impl_ParseAtom m_impl_ParseAtom (of_decide_eq_true rfl) ?_
        simp (disch := omega) only [c_impl_ParseAtom, go_sem, Nat.reduceAdd, Nat.reduceSub, Nat.reduceLT, Nat.reduceLeDiff, Nat.reduceEqDiff, Nat.reduceBEq, Nat.reduceBneDiff, Nat.reduceMul, ↓reduceIte, Int.reduceToNat, reduceCtorEq, Int.reduceNeg, Int.reduceAdd, h1, he, hv1, Tm.erss, Tm.fus, m_impl_IsValidAtom, m_impl_formatTerm, m_impl_parser_atom, m_impl_parser_ended]
    · rw [dec_f h0] at he
      obtain ⟨q1, q2⟩ := no fun h => h0 h.1
      rw [q1, q2]
      simp only [tm0_osv, tm0_obs]
      refine E_walk k_impl_ParseAtom m_impl_ParseAtom (of_decide_eq_true rfl) ?_
      simp (disch := omega) only [c_impl_ParseAtom, go_sem, Nat.reduceAdd, Nat.reduceSub, Nat.reduceLT, Nat.reduceLeDiff, Nat.reduceEqDiff, Nat.reduceBEq, Nat.reduceBneDiff, Nat.reduceMul, ↓reduceIte, Int.reduceToNat, reduceCtorEq, Int.reduceNeg, Int.reduceAdd, h1, he, m_impl_IsValidAtom, m_impl_formatTerm, m_impl_parser_atom, m_impl_parser_ended]
end Go.Proofs.Ytjafnijgkjjadab

set_option maxRecDepth 100000
set_option linter.unusedSimpArgs false
set_option linter.unusedVariables false
namespace Go.Proofs.Ytjafnijgkjjadab
open Go.RowKit

/-- An atom read from a place. -/
noncomputable def rdAtI (g s : ByteArray) (n i : Nat) : Option (Tm × Nat) := match rd s n i with
  | none => none
  | some (a, e) => bif hasB s e g then (match rd s n (e + g.size) with
    | none => none
    | some (b, e2) => some (.mk ⟨#[61]⟩ [a, b], e2)) else some (a, e)
/-- A literal read from the start. -/
noncomputable def rdLi (s : ByteArray) (n : Nat) : Option (Lt × Nat) :=
  bif hasB s 0 ⟨#[126]⟩ then (match rdAtI ⟨#[32, 61, 32]⟩ s n 1 with
    | none => none
    | some (t, e) => some (⟨false, t⟩, e))
  else (match rd s n 0 with
    | none => none
    | some (a, e) => bif hasB s e ⟨#[32, 33, 61, 32]⟩ then (match rd s n (e + 4) with
        | none => none
        | some (b, e2) => some (⟨false, .mk ⟨#[61]⟩ [a, b]⟩, e2))
      else bif hasB s e ⟨#[32, 61, 32]⟩ then (match rd s n (e + 3) with
        | none => none
        | some (b, e2) => some (⟨true, .mk ⟨#[61]⟩ [a, b]⟩, e2))
      else some (⟨true, a⟩, e))
/-- The text of a literal. -/
noncomputable def Lt.fmt (l : Lt) : List UInt8 := bif l.pos then l.atom.fmtA else bif l.atom.eqn then Tm.sides neSign l.atom.args else 126 :: l.atom.fmt
noncomputable def Lt.txt (l : Lt) : ByteArray := ⟨l.fmt.toArray⟩
theorem Lt.txt_toList (l : Lt) : l.txt.toList = l.fmt := mk_toList _
def liIs (s : ByteArray) (l : Lt) : Prop := l.atom.atom = true ∧ l.txt = s
theorem liIs_iff {s : ByteArray} {l : Lt} : liIs s l ↔ (l.pos = true ∧ atIs s l.atom) ∨ (l.pos = false ∧ eqIs neSign s l.atom) ∨ (l.pos = false ∧ l.atom.eqn = false ∧ l.atom.atom = true ∧ l.atom.valid = true ∧ s.toList = 126 :: l.atom.fmt) := by
  obtain ⟨p, t⟩ := l
  constructor
  · rintro ⟨h1, rfl⟩
    have h1 : t.atom = true := h1
    cases p with
    | true => exact .inl ⟨rfl, h1, bytes_ext (by rw [Tm.txtA_toList, Lt.txt_toList]; rfl)⟩
    | false =>
      right
      rw [Lt.txt_toList]
      unfold Lt.fmt
      rcases Tm.atom_cases h1 with ⟨h2, h3⟩ | ⟨a, b, rfl, h2, h3, h4, h5⟩
      · exact .inr ⟨rfl, h2, h1, h3, by simp only [h2, cond_false]⟩
      · obtain ⟨g1, g2⟩ := small_args h5
        refine .inl ⟨rfl, a, b, rfl, by unfold Tm.valid; rw [g1, h3]; rfl, by unfold Tm.valid; rw [g2, h4]; rfl, h1, ?_⟩
        rw [Lt.txt_toList]
        unfold Lt.fmt
        simp only [h2, cond_false, cond_true]; rfl
  · rintro (⟨hp, h1, h2⟩ | ⟨hp, a, b, ht, h1, h2, h3, h4⟩ | ⟨hp, h1, h2, h3, h4⟩)
    · refine ⟨h1, bytes_ext ?_⟩
      rw [Lt.txt_toList, ← h2, Tm.txtA_toList]
      unfold Lt.fmt
      have hp : p = true := hp
      rw [hp]; rfl
    · have hp : p = false := hp
      have ht : t = .mk ⟨#[61]⟩ [a, b] := ht
      subst hp; subst ht
      refine ⟨h3, bytes_ext ?_⟩
      have he : (Tm.mk ⟨#[61]⟩ [a, b]).eqn = true := by unfold Tm.eqn; exact dec_t rfl
      rw [Lt.txt_toList, h4]
      unfold Lt.fmt
      simp only [he, cond_false, cond_true]; rfl
    · have hp : p = false := hp
      subst hp
      refine ⟨h2, bytes_ext ?_⟩
      have h1 : t.eqn = false := h1
      rw [Lt.txt_toList, h4]
      unfold Lt.fmt
      simp only [h1, cond_false]
/-- The first byte of a term's text is no sign of negation. -/
theorem fmt_head {x : Tm} (hx : x.names = true) : ∃ c r, x.fmt = c :: r ∧ c ≠ 126 := by
  have hw := Tm.wd hx
  rw [Tm.fmt_eq]
  obtain ⟨c, r, hc⟩ : ∃ c r, x.name.toList = c :: r := by
    cases h : x.name.toList with
    | nil => exact absurd h hw.1
    | cons c r => exact ⟨c, r, rfl⟩
  refine ⟨c, r ++ _, by rw [hc, List.cons_append], fun e => ?_⟩
  have h1 := hw.2 c (by rw [hc]; simp)
  rw [e] at h1
  have h2 : wordB ((126 : UInt8).toNat : Int) = false := by
    unfold wordB
    have e : ((126 : UInt8).toNat : Int) = 126 := rfl
    rw [e, dec_f (p := (126 : Int) ≤ 122) (by omega), dec_f (p := (126 : Int) ≤ 90) (by omega), dec_f (p := (126 : Int) ≤ 57) (by omega), dec_f (p := (126 : Int) = 95) (by omega)]
    simp
  rw [h2] at h1; cases h1
theorem hasB_head {s : ByteArray} {c : UInt8} {r : List UInt8} (h : s.toList = c :: r) : hasB s 0 ⟨#[126]⟩ = dec (c = 126) := by
  have h2 : (⟨#[126]⟩ : ByteArray).toList = [126] := mk_toList [126]
  have hz : s.size = r.length + 1 := by rw [← size_toList, h]; rfl
  have h3 : seg s 0 (0 + (⟨#[126]⟩ : ByteArray).size) = [c] := by
    show seg s 0 1 = _
    unfold seg
    rw [h]; rfl
  cases hh : hasB s 0 ⟨#[126]⟩ with
  | true =>
    have := ((hasB_seg (Nat.zero_le _)).1 hh).2
    rw [h3, h2] at this
    rw [dec_t (by simpa using this)]
  | false =>
    by_cases hc : c = 126
    · have := (hasB_seg (s := s) (x := ⟨#[126]⟩) (Nat.zero_le _)).2 ⟨by show 0 + 1 ≤ _; omega, by rw [h3, h2, hc]⟩
      rw [this] at hh; cases hh
    · rw [dec_f hc]
theorem at_head {s : ByteArray} {t : Tm} (h : atIs s t) : hasB s 0 ⟨#[126]⟩ = false := by
  rcases atIs_iff.1 h with ⟨a, b, rfl, h1, h2, _, h4⟩ | ⟨_, _, h1, h2⟩
  · obtain ⟨c, r, e, hc⟩ := fmt_head (valid_names' h1)
    rw [hasB_head (c := c) (r := r ++ eqSign ++ b.fmt) (by rw [h4, e]; simp), dec_f hc]
  · obtain ⟨c, r, e, hc⟩ := fmt_head (valid_names' h1)
    rw [hasB_head (c := c) (r := r) (by rw [h2, e]), dec_f hc]
theorem eqIs_head {g : List UInt8} {s : ByteArray} {t : Tm} (h : eqIs g s t) : hasB s 0 ⟨#[126]⟩ = false := by
  obtain ⟨a, b, rfl, h1, h2, _, h4⟩ := h
  obtain ⟨c, r, e, hc⟩ := fmt_head (valid_names' h1)
  rw [hasB_head (c := c) (r := r ++ g ++ b.fmt) (by rw [h4, e]; simp), dec_f hc]
/-- The pieces of an equation's text, read. -/
theorem rd_sides {g : List UInt8} {gb s : ByteArray} {a b : Tm} (hg : gb.toList = 32 :: g) (ha : a.valid = true) (hb : b.valid = true) (hs : s.toList = a.fmt ++ gb.toList ++ b.fmt) :
    rd s (s.size + 1) 0 = some (a, a.fmt.length) ∧ hasB s a.fmt.length gb = true ∧ rd s (s.size + 1) (a.fmt.length + gb.size) = some (b, s.size) := by
  have h0 := seg_all s
  rw [hs, List.append_assoc] at h0
  obtain ⟨h1, h2, h3⟩ := seg_split h0 (Nat.le_refl _) (Nat.zero_le _)
  rw [Nat.zero_add] at h1 h2 h3
  obtain ⟨k1, k2, k3⟩ := seg_split h3 (Nat.le_refl _) h1
  rw [size_toList] at k1 k2 k3
  have k2' := k2
  rw [hg] at k2'
  obtain ⟨b1, b2, _⟩ := seg_cons k2' (by omega)
  exact ⟨rd_full (s := s) a (valid_names' ha) (s.size + 1) 0 a.fmt.length (by omega) (Nat.zero_le _) h2 (.inr ⟨by omega, not_word (.inr (.inr (.inr b2))), by rw [b2]; decide⟩) (by omega),
    (hasB_seg (by omega)).2 ⟨k1, k2⟩, rd_full (s := s) b (valid_names' hb) (s.size + 1) (a.fmt.length + gb.size) s.size (Nat.le_refl _) (by omega) k3 (.inl rfl) (by omega)⟩
theorem hasB_end {s g : ByteArray} (hg : 0 < g.size) : hasB s s.size g = false := by
  cases h : hasB s s.size g with
  | false => rfl
  | true => have := ((hasB_seg (Nat.le_refl _)).1 h).1; omega
/-- Where the sign of an equation stands, that of an inequation does not. -/
theorem sign_other {s : ByteArray} {i : Nat} (hi : i ≤ s.size) (h : hasB s i ⟨#[32, 61, 32]⟩ = true) : hasB s i ⟨#[32, 33, 61, 32]⟩ = false := by
  cases k : hasB s i ⟨#[32, 33, 61, 32]⟩ with
  | false => rfl
  | true =>
    obtain ⟨h1, h2⟩ := (hasB_seg hi).1 h
    obtain ⟨k1, k2⟩ := (hasB_seg hi).1 k
    have e1 : (⟨#[32, 61, 32]⟩ : ByteArray).toList = [32, 61, 32] := mk_toList [32, 61, 32]
    have e2 : (⟨#[32, 33, 61, 32]⟩ : ByteArray).toList = [32, 33, 61, 32] := mk_toList [32, 33, 61, 32]
    rw [e1] at h2
    rw [e2] at k2
    have h1 : i + 3 ≤ s.size := h1
    have k1 : i + 4 ≤ s.size := k1
    obtain ⟨_, _, h3⟩ := seg_cons h2 h1
    obtain ⟨_, h4, _⟩ := seg_cons h3 h1
    obtain ⟨_, _, k3⟩ := seg_cons k2 k1
    obtain ⟨_, k4, _⟩ := seg_cons k3 k1
    rw [h4] at k4
    exact absurd k4 (by decide)
theorem li_read {s : ByteArray} {l : Lt} (h : liIs s l) : rdLi s (s.size + 1) = some (l, s.size) := by
  have e1 : (⟨#[32, 61, 32]⟩ : ByteArray).toList = [32, 61, 32] := mk_toList [32, 61, 32]
  have e2 : (⟨#[32, 33, 61, 32]⟩ : ByteArray).toList = [32, 33, 61, 32] := mk_toList [32, 33, 61, 32]
  obtain ⟨p, t⟩ := l
  rcases liIs_iff.1 h with ⟨hp, ha⟩ | ⟨hp, ha⟩ | ⟨hp, h1, h2, h3, h4⟩
  · have hp : p = true := hp
    subst hp
    have hh := at_head ha
    unfold rdLi
    rw [hh, cond_false]
    rcases atIs_iff.1 ha with ⟨a, b, ht, h1, h2, _, h4⟩ | ⟨_, _, h1, h2⟩
    · have ht : t = .mk ⟨#[61]⟩ [a, b] := ht
      subst ht
      obtain ⟨r1, r2, r3⟩ := rd_sides (s := s) (gb := ⟨#[32, 61, 32]⟩) e1 h1 h2 (by rw [e1]; exact h4)
      have r4 := sign_other (rd_ok _ _ _ _ (Nat.zero_le _) r1).2.1 r2
      have r3 : rd s (s.size + 1) (a.fmt.length + 3) = some (b, s.size) := r3
      rw [r1]
      simp only [r2, r3, r4, cond_true, cond_false]
    · have h1 : t.valid = true := h1
      have h2 : s.toList = t.fmt := h2
      have r1 := rd_full (s := s) t (valid_names' h1) (s.size + 1) 0 s.size (Nat.le_refl _) (Nat.zero_le _) (by rw [seg_all, h2]) (.inl rfl) (by omega)
      rw [r1]
      simp only [hasB_end (s := s) (g := ⟨#[32, 61, 32]⟩) (by show 0 < 3; omega), hasB_end (s := s) (g := ⟨#[32, 33, 61, 32]⟩) (by show 0 < 4; omega), cond_false]
  · have hp : p = false := hp
    subst hp
    have hh := eqIs_head ha
    obtain ⟨a, b, ht, h1, h2, _, h4⟩ := ha
    have ht : t = .mk ⟨#[61]⟩ [a, b] := ht
    subst ht
    unfold rdLi
    rw [hh, cond_false]
    obtain ⟨r1, r2, r3⟩ := rd_sides (s := s) (gb := ⟨#[32, 33, 61, 32]⟩) e2 h1 h2 (by rw [e2]; exact h4)
    have r3 : rd s (s.size + 1) (a.fmt.length + 4) = some (b, s.size) := r3
    rw [r1]
    simp only [r2, r3, cond_true]
  · have hp : p = false := hp
    subst hp
    have h3 : t.valid = true := h3
    have h4 : s.toList = 126 :: t.fmt := h4
    have hh := hasB_head h4
    rw [dec_t rfl] at hh
    have h0 := seg_all s
    rw [h4, show (126 : UInt8) :: t.fmt = [126] ++ t.fmt from rfl] at h0
    obtain ⟨k1, k2, k3⟩ := seg_split h0 (Nat.le_refl _) (Nat.zero_le _)
    have k3 : seg s 1 s.size = t.fmt := k3
    have k1 : 1 ≤ s.size := k1
    have r1 := rd_full (s := s) t (valid_names' h3) (s.size + 1) 1 s.size (Nat.le_refl _) k1 k3 (.inl rfl) (by omega)
    unfold rdLi
    rw [hh, cond_true]
    unfold rdAtI
    rw [r1]
    simp only [hasB_end (s := s) (g := ⟨#[32, 61, 32]⟩) (by show 0 < 3; omega), cond_false]
/-- The whole text as a literal. -/
noncomputable def liOk (s : ByteArray) : Bool := dec (∃ l, liIs s l)
open Classical in
noncomputable def liTo (s : ByteArray) : Lt := if h : ∃ l, liIs s l then h.choose else ⟨false, .mk ⟨#[]⟩ []⟩
theorem liIs_uniq {s : ByteArray} {l l' : Lt} (h : liIs s l) (h' : liIs s l') : l = l' := by
  have := (li_read h).symm.trans (li_read h')
  simp only [Option.some.injEq, Prod.mk.injEq] at this
  exact this.1
theorem li_yes {s : ByteArray} {l : Lt} (h : liIs s l) : liOk s = true ∧ liTo s = l := by
  have he : ∃ l, liIs s l := ⟨l, h⟩
  refine ⟨dec_t he, ?_⟩
  unfold liTo
  rw [dif_pos he]
  exact liIs_uniq he.choose_spec h
theorem li_no {s : ByteArray} (h : ∀ l, ¬ liIs s l) : liOk s = false ∧ liTo s = ⟨false, .mk ⟨#[]⟩ []⟩ := by
  have he : ¬ ∃ l, liIs s l := fun ⟨l, hl⟩ => h l hl
  refine ⟨dec_f he, ?_⟩
  unfold liTo
  rw [dif_neg he]
theorem lit_len {l : Lt} (h : l.atom.atom = true) : l.txt.size ≤ 4000 := by
  rcases liIs_iff.1 (show liIs l.txt l from ⟨h, rfl⟩) with ⟨_, h1⟩ | ⟨_, a, b, _, h1, h2, h3, h4⟩ | ⟨_, _, _, h1, h2⟩
  · have := atom_len h1.1
    rwa [h1.2] at this
  · have l1 := Tm.fmt_len a (valid_names' h1)
    have l2 := Tm.fmt_len b (valid_names' h2)
    have n1 := valid_nodes' h1
    have n2 := valid_nodes' h2
    rw [← size_toList, h4]
    simp only [List.length_append, neSign, List.length_cons, List.length_nil]
    omega
  · have l1 := Tm.fmt_len _ (valid_names' h1)
    have n1 := valid_nodes' h1
    rw [← size_toList, h2, List.length_cons]; omega
theorem li_size' {s : ByteArray} (h : ¬ s.size ≤ 4000) : liOk s = false ∧ liTo s = ⟨false, .mk ⟨#[]⟩ []⟩ := by
  refine li_no fun l hl => h ?_
  have := lit_len hl.1
  rwa [hl.2] at this
theorem li_atom {s : ByteArray} (h : liOk s = true) : (liTo s).atom.atom = true := by
  obtain ⟨l, hl⟩ := dec_iff.1 h
  rw [(li_yes hl).2]; exact hl.1
theorem rdAtI_nodes {gb s : ByteArray} {n i : Nat} {t : Tm} {e : Nat} (h : rdAtI gb s n i = some (t, e)) (hs : ∀ i t e, rd s n i = some (t, e) → e ≤ s.size) : t.nodes ≤ 2 * s.size + 1 := by
  unfold rdAtI at h
  cases h1 : rd s n i with
  | none => rw [h1] at h; cases h
  | some p =>
    obtain ⟨a, e0⟩ := p
    rw [h1] at h
    simp only at h
    have n1 := rd_nodes _ _ _ _ h1
    have z1 := hs _ _ _ h1
    cases hh : hasB s e0 gb with
    | false => rw [hh] at h; simp only [cond_false, Option.some.injEq, Prod.mk.injEq] at h; obtain ⟨rfl, rfl⟩ := h; omega
    | true =>
      rw [hh] at h
      simp only [cond_true] at h
      cases h2 : rd s n (e0 + gb.size) with
      | none => rw [h2] at h; cases h
      | some p =>
        obtain ⟨b, e2⟩ := p
        rw [h2] at h
        simp only [Option.some.injEq, Prod.mk.injEq] at h
        obtain ⟨rfl, rfl⟩ := h
        have n2 := rd_nodes _ _ _ _ h2
        have z2 := hs _ _ _ h2
        rw [Tm.nodes_eq]
        show 1 + Tm.nodeS [a, b] ≤ _
        rw [Tm.nodeS, Tm.nodeS, Tm.nodeS]
        omega
theorem rd_end {s : ByteArray} (i : Nat) (t : Tm) (e : Nat) (h : rd s (s.size + 1) i = some (t, e)) : e ≤ s.size := by
  rcases Nat.lt_or_ge s.size i with hi | hi
  · exfalso
    rw [rd] at h
    have hw : wEnd s i = i := wEnd_stop (by omega)
    rw [hw, dec_refl] at h; cases h
  · exact (rd_ok _ i t e hi h).2.1
theorem two_nodes {s : ByteArray} {i j e f : Nat} {a b : Tm} (h1 : rd s (s.size + 1) i = some (a, e)) (h2 : rd s (s.size + 1) j = some (b, f)) : (Tm.mk ⟨#[61]⟩ [a, b]).nodes ≤ 2 * s.size + 1 := by
  have n1 := rd_nodes _ _ _ _ h1
  have z1 := rd_end _ _ _ h1
  have n2 := rd_nodes _ _ _ _ h2
  have z2 := rd_end _ _ _ h2
  rw [Tm.nodes_eq]
  show 1 + Tm.nodeS [a, b] ≤ _
  rw [Tm.nodeS, Tm.nodeS, Tm.nodeS]
  omega
theorem rdLi_nodes {s : ByteArray} {l : Lt} {e : Nat} (h : rdLi s (s.size + 1) = some (l, e)) : l.atom.nodes ≤ 2 * s.size + 1 := by
  unfold rdLi at h
  cases h0 : hasB s 0 ⟨#[126]⟩ with
  | true =>
    rw [h0, cond_true] at h
    cases h1 : rdAtI ⟨#[32, 61, 32]⟩ s (s.size + 1) 1 with
    | none => rw [h1] at h; cases h
    | some p =>
      obtain ⟨t, e0⟩ := p
      rw [h1] at h
      simp only [Option.some.injEq, Prod.mk.injEq] at h
      obtain ⟨rfl, rfl⟩ := h
      exact rdAtI_nodes h1 rd_end
  | false =>
    rw [h0, cond_false] at h
    cases h1 : rd s (s.size + 1) 0 with
    | none => rw [h1] at h; cases h
    | some p =>
      obtain ⟨a, e0⟩ := p
      rw [h1] at h
      simp only at h
      have n1 := rd_nodes _ _ _ _ h1
      have z1 := rd_end _ _ _ h1
      cases hn : hasB s e0 ⟨#[32, 33, 61, 32]⟩ with
      | true =>
        rw [hn, cond_true] at h
        cases h2 : rd s (s.size + 1) (e0 + 4) with
        | none => rw [h2] at h; cases h
        | some p =>
          obtain ⟨b, e2⟩ := p
          rw [h2] at h
          simp only [Option.some.injEq, Prod.mk.injEq] at h
          obtain ⟨rfl, rfl⟩ := h
          exact two_nodes h1 h2
      | false =>
        rw [hn, cond_false] at h
        cases hq : hasB s e0 ⟨#[32, 61, 32]⟩ with
        | true =>
          rw [hq, cond_true] at h
          cases h2 : rd s (s.size + 1) (e0 + 3) with
          | none => rw [h2] at h; cases h
          | some p =>
            obtain ⟨b, e2⟩ := p
            rw [h2] at h
            simp only [Option.some.injEq, Prod.mk.injEq] at h
            obtain ⟨rfl, rfl⟩ := h
            exact two_nodes h1 h2
        | false =>
          rw [hq, cond_false] at h
          simp only [Option.some.injEq, Prod.mk.injEq] at h
          obtain ⟨rfl, rfl⟩ := h
          show a.nodes ≤ _
          omega
end Go.Proofs.Ytjafnijgkjjadab

set_option maxRecDepth 100000
set_option linter.unusedSimpArgs false
set_option linter.unusedVariables false
namespace Go.Proofs.Ytjafnijgkjjadab
open Go.RowKit

def c_impl_IsValidLiteral : SC := (.seq (.reg [⟨(some 1), none, (.boxv 31 3 (.t 0))⟩, ⟨(some 2), none, (.mv (.c (.bool false)))⟩]) (.seq (.reg [⟨(some 3), none, (.faddr 1 (.t 1))⟩, ⟨(some 4), none, (.load true 2 (.t 3))⟩, ⟨(some 5), none, (.call 55 [(.t 4)])⟩, ⟨(some 2), none, (.mv (.t 5))⟩]) .ret))
theorem k_impl_IsValidLiteral : codeOf Try.prog 58 = some ⟨6, c_impl_IsValidLiteral, [(.tmp 2)]⟩ := by kernel_rfl
theorem m_impl_IsValidLiteral : modes 58 = ⟨[], .asis, none, false⟩ := by unfold modes; rfl

def c_impl_formatLiteral : SC := (.seq (.reg [⟨(some 1), none, (.boxv 31 3 (.t 0))⟩, ⟨(some 2), none, (.mv (.c (.str ⟨#[]⟩)))⟩]) (.seq (.block 0 (.seq (.reg [⟨(some 4), none, (.faddr 0 (.t 1))⟩, ⟨(some 5), none, (.load false 1 (.t 4))⟩, ⟨(some 3), none, (.mv (.t 5))⟩]) (.cond (.t 3) (.seq (.reg [⟨(some 6), none, (.faddr 1 (.t 1))⟩, ⟨(some 7), none, (.load true 2 (.t 6))⟩, ⟨(some 8), none, (.call 49 [(.t 7)])⟩, ⟨(some 2), none, (.mv (.t 8))⟩]) .ret) (.seq (.reg [⟨(some 10), none, (.faddr 1 (.t 1))⟩, ⟨(some 11), none, (.load true 2 (.t 10))⟩, ⟨(some 12), none, (.call 97 [(.t 11)])⟩, ⟨(some 9), none, (.mv (.t 12))⟩]) (.cond (.t 9) (.seq (.dreg [[], [0], [1, 0], [2, 1, 0], [3, 2, 1, 0], [4, 3, 2, 1, 0], [5, 4, 3, 2, 1, 0], [], [7], [8, 7], [9, 8, 7], [10, 9, 8, 7], [11, 10, 9, 8, 7, 5, 4, 3, 2, 1, 0], [6, 5, 4, 3, 2, 1, 0, 12, 11, 10, 9, 8, 7], [13, 6, 5, 4, 3, 2, 1, 0, 12, 11, 10, 9, 8, 7]] [⟨(some 13), none, (.faddr 1 (.t 1))⟩, ⟨(some 14), none, (.faddr 1 (.t 13))⟩, ⟨(some 15), none, (.load false 1 (.t 14))⟩, ⟨(some 16), none, (.iaddr 2 (.t 15) (.c (.int .i64 0)))⟩, ⟨(some 17), none, (.load true 2 (.t 16))⟩, ⟨(some 18), none, (.call 49 [(.t 17)])⟩, ⟨(some 19), none, (.bin .add false (.t 18) (.c (.str ⟨#[32, 33, 61, 32]⟩)))⟩, ⟨(some 20), none, (.faddr 1 (.t 1))⟩, ⟨(some 21), none, (.faddr 1 (.t 20))⟩, ⟨(some 22), none, (.load false 1 (.t 21))⟩, ⟨(some 23), none, (.iaddr 2 (.t 22) (.c (.int .i64 1)))⟩, ⟨(some 24), none, (.load true 2 (.t 23))⟩, ⟨(some 25), none, (.call 49 [(.t 24)])⟩, ⟨(some 26), none, (.bin .add false (.t 19) (.t 25))⟩, ⟨(some 2), none, (.mv (.t 26))⟩]) .ret) .skip))))) (.seq (.reg [⟨(some 27), none, (.faddr 1 (.t 1))⟩, ⟨(some 28), none, (.load true 2 (.t 27))⟩, ⟨(some 29), none, (.call 49 [(.t 28)])⟩, ⟨(some 30), none, (.bin .add false (.c (.str ⟨#[126]⟩)) (.t 29))⟩, ⟨(some 2), none, (.mv (.t 30))⟩]) .ret)))
theorem k_impl_formatLiteral : codeOf Try.prog 59 = some ⟨31, c_impl_formatLiteral, [(.tmp 2)]⟩ := by kernel_rfl
theorem m_impl_formatLiteral : modes 59 = ⟨[], .asis, none, false⟩ := by unfold modes; rfl

def c_impl_parser_literal : SC := (.seq (.reg [⟨(some 2), none, (.alloc 31 [(.bool false), (.str ⟨#[]⟩), .nil])⟩]) (.seq (.seq (.reg [⟨(some 4), none, (.mv (.t 0))⟩, ⟨(some 5), none, (.call 93 [(.t 4), (.c (.str ⟨#[126]⟩))])⟩]) (.cond (.t 5) (.seq (.reg [⟨(some 6), none, (.mv (.t 0))⟩, ⟨(some 7), none, (.call 54 [(.t 6)])⟩, ⟨(some 8), none, (.build [(.bool false), (.str ⟨#[]⟩), .nil] [(1, (2, (.t 7)))])⟩, ⟨none, none, (.store 3 (.t 2) (.t 8))⟩]) .ret) .skip)) (.seq (.reg [⟨(some 9), none, (.mv (.t 0))⟩, ⟨(some 10), none, (.call 46 [(.t 9)])⟩, ⟨(some 3), none, (.alloc 24 [(.str ⟨#[]⟩), .nil])⟩, ⟨none, none, (.store 2 (.t 3) (.t 10))⟩]) (.seq (.block 0 (.seq (.reg [⟨(some 12), none, (.mv (.t 0))⟩, ⟨(some 13), none, (.call 93 [(.t 12), (.c (.str ⟨#[32, 33, 61, 32]⟩))])⟩, ⟨(some 11), none, (.mv (.t 13))⟩]) (.cond (.t 11) (.seq (.dreg [[], [], [1], [0, 2, 1], [3, 0, 2, 1], [4, 3, 0, 2, 1], [5, 4, 3, 0, 2, 1]] [⟨(some 14), none, (.load true 2 (.t 3))⟩, ⟨(some 15), none, (.mv (.t 0))⟩, ⟨(some 16), none, (.call 46 [(.t 15)])⟩, ⟨(some 17), none, (.mkrow 24 2 [(.str ⟨#[]⟩), .nil] 2 [(0, (.t 14)), (1, (.t 16))])⟩, ⟨(some 18), none, (.build [(.str ⟨#[]⟩), .nil] [(0, (1, (.c (.str ⟨#[61]⟩)))), (1, (1, (.t 17)))])⟩, ⟨(some 19), none, (.build [(.bool false), (.str ⟨#[]⟩), .nil] [(1, (2, (.t 18)))])⟩, ⟨none, none, (.store 3 (.t 2) (.t 19))⟩]) .ret) (.seq (.reg [⟨(some 21), none, (.mv (.t 0))⟩, ⟨(some 22), none, (.call 93 [(.t 21), (.c (.str ⟨#[32, 61, 32]⟩))])⟩, ⟨(some 20), none, (.mv (.t 22))⟩]) (.cond (.t 20) (.dreg [[], [], [1], [0, 2, 1], [3, 0, 2, 1], [4, 3, 0, 2, 1]] [⟨(some 23), none, (.load true 2 (.t 3))⟩, ⟨(some 24), none, (.mv (.t 0))⟩, ⟨(some 25), none, (.call 46 [(.t 24)])⟩, ⟨(some 26), none, (.mkrow 24 2 [(.str ⟨#[]⟩), .nil] 2 [(0, (.t 23)), (1, (.t 25))])⟩, ⟨(some 27), none, (.build [(.str ⟨#[]⟩), .nil] [(0, (1, (.c (.str ⟨#[61]⟩)))), (1, (1, (.t 26)))])⟩, ⟨none, none, (.store 2 (.t 3) (.t 27))⟩]) .skip))))) (.seq (.reg [⟨(some 28), none, (.load true 2 (.t 3))⟩, ⟨(some 29), none, (.build [(.bool false), (.str ⟨#[]⟩), .nil] [(0, (1, (.c (.bool true)))), (1, (2, (.t 28)))])⟩, ⟨none, none, (.store 3 (.t 2) (.t 29))⟩]) .ret)))))
theorem k_impl_parser_literal : codeOf Try.prog 57 = some ⟨30, c_impl_parser_literal, [(.cell 2 true 3)]⟩ := by kernel_rfl
theorem m_impl_parser_literal : modes 57 = ⟨[], .own [none, none, some (24, 2)], none, false⟩ := by unfold modes; rfl

def c_impl_ParseLiteral : SC := (.seq (.reg [⟨(some 2), none, (.alloc 31 [(.bool false), (.str ⟨#[]⟩), .nil])⟩, ⟨(some 3), none, (.mv (.c (.bool false)))⟩]) (.seq (.reg [⟨(some 6), none, (.mv (.t 0))⟩, ⟨(some 7), none, (.build [(.str ⟨#[]⟩), (.int .i64 0), (.bool false)] [(0, (1, (.t 6)))])⟩, ⟨(some 8), none, (.boxv 81 3 (.t 7))⟩, ⟨(some 4), none, (.mv (.t 8))⟩]) (.seq (.reg [⟨(some 9), none, (.mv (.t 4))⟩, ⟨(some 10), none, (.call 57 [(.t 9)])⟩, ⟨(some 5), none, (.alloc 31 [(.bool false), (.str ⟨#[]⟩), .nil])⟩, ⟨none, none, (.store 3 (.t 5) (.t 10))⟩]) (.seq (.seq (.reg [⟨(some 11), none, (.mv (.t 4))⟩, ⟨(some 12), none, (.call 47 [(.t 11)])⟩, ⟨(some 13), none, (.un .not (.t 12))⟩, ⟨(some 14), none, (.mv (.t 13))⟩, ⟨(some 15), (some (14, false)), (.load true 3 (.t 5))⟩, ⟨(some 16), (some (14, false)), (.call 58 [(.t 15)])⟩, ⟨(some 17), (some (14, false)), (.un .not (.t 16))⟩, ⟨(some 18), none, (.pick (.t 14) (.c (.bool true)) (.t 17))⟩, ⟨(some 19), none, (.mv (.t 18))⟩, ⟨(some 20), (some (19, false)), (.load true 3 (.t 5))⟩, ⟨(some 21), (some (19, false)), (.call 59 [(.t 20)])⟩, ⟨(some 22), (some (19, false)), (.mv (.t 0))⟩, ⟨(some 23), (some (19, false)), (.bin .neq false (.t 21) (.t 22))⟩, ⟨(some 24), none, (.pick (.t 19) (.c (.bool true)) (.t 23))⟩]) (.cond (.t 24) (.seq (.reg [⟨(some 25), none, (.build [(.bool false), (.str ⟨#[]⟩), .nil] [])⟩, ⟨none, none, (.store 3 (.t 2) (.t 25))⟩, ⟨(some 3), none, (.mv (.c (.bool false)))⟩]) .ret) .skip)) (.seq (.reg [⟨(some 26), none, (.load true 3 (.t 5))⟩, ⟨none, none, (.store 3 (.t 2) (.t 26))⟩, ⟨(some 3), none, (.mv (.c (.bool true)))⟩]) .ret)))))
theorem k_impl_ParseLiteral : codeOf Try.prog 17 = some ⟨27, c_impl_ParseLiteral, [(.cell 2 true 3), (.tmp 3)]⟩ := by kernel_rfl
theorem m_impl_ParseLiteral : modes 17 = ⟨[], .own [none, none, some (24, 2), none], none, false⟩ := by unfold modes; rfl

def c_spec_l3ReadLiteral : SC := (.seq (.reg [⟨(some 2), none, (.alloc 31 [(.bool false), (.str ⟨#[]⟩), .nil])⟩, ⟨(some 3), none, (.mv (.c (.bool false)))⟩]) (.seq (.seq (.reg [⟨(some 11), none, (.mv (.t 0))⟩, ⟨(some 12), none, (.call 100 [(.t 11), (.c (.str ⟨#[32, 33, 61, 32]⟩))])⟩, ⟨(some 10), none, (.mv (.t 12))⟩, ⟨(some 13), none, (.ext (.t 10) 0)⟩, ⟨(some 14), none, (.ext (.t 10) 1)⟩, ⟨(some 4), none, (.alloc 24 [(.str ⟨#[]⟩), .nil])⟩, ⟨none, none, (.store 2 (.t 4) (.t 13))⟩, ⟨(some 5), none, (.mv (.t 14))⟩]) (.seq (.reg [⟨(some 15), none, (.mv (.t 5))⟩]) (.cond (.t 15) (.seq (.reg [⟨(some 16), none, (.load true 2 (.t 4))⟩, ⟨(some 17), none, (.build [(.bool false), (.str ⟨#[]⟩), .nil] [(1, (2, (.t 16)))])⟩, ⟨none, none, (.store 3 (.t 2) (.t 17))⟩, ⟨(some 3), none, (.mv (.c (.bool true)))⟩]) .ret) .skip))) (.seq (.seq (.reg [⟨(some 18), none, (.mv (.t 0))⟩, ⟨(some 19), none, (.bin .neq false (.t 18) (.c (.str ⟨#[]⟩)))⟩, ⟨(some 20), none, (.mv (.t 19))⟩, ⟨(some 21), (some (20, true)), (.mv (.t 0))⟩, ⟨(some 22), (some (20, true)), (.idx (.t 21) (.c (.int .i64 0)))⟩, ⟨(some 23), (some (20, true)), (.bin .eql false (.t 22) (.c (.int .u8 126)))⟩, ⟨(some 24), none, (.pick (.t 20) (.t 23) (.c (.bool false)))⟩]) (.cond (.t 24) (.seq (.reg [⟨(some 26), none, (.mv (.t 0))⟩, ⟨(some 27), none, (.slice true 0 (.t 26) (some (.c (.int .i64 1))) none)⟩, ⟨(some 28), none, (.call 45 [(.t 27)])⟩, ⟨(some 25), none, (.mv (.t 28))⟩, ⟨(some 29), none, (.ext (.t 25) 0)⟩, ⟨(some 30), none, (.ext (.t 25) 1)⟩, ⟨(some 6), none, (.alloc 24 [(.str ⟨#[]⟩), .nil])⟩, ⟨none, none, (.store 2 (.t 6) (.t 29))⟩, ⟨(some 7), none, (.mv (.t 30))⟩]) (.seq (.seq (.reg [⟨(some 31), none, (.mv (.t 7))⟩, ⟨(some 32), none, (.un .not (.t 31))⟩, ⟨(some 33), none, (.mv (.t 32))⟩, ⟨(some 34), (some (33, false)), (.load true 2 (.t 6))⟩, ⟨(some 35), (some (33, false)), (.call 101 [(.t 34)])⟩, ⟨(some 36), (some (33, false)), (.un .not (.t 35))⟩, ⟨(some 37), none, (.pick (.t 33) (.c (.bool true)) (.t 36))⟩]) (.cond (.t 37) (.seq (.reg [⟨(some 38), none, (.build [(.bool false), (.str ⟨#[]⟩), .nil] [])⟩, ⟨none, none, (.store 3 (.t 2) (.t 38))⟩, ⟨(some 3), none, (.mv (.c (.bool false)))⟩]) .ret) .skip)) (.seq (.reg [⟨(some 39), none, (.load true 2 (.t 6))⟩, ⟨(some 40), none, (.build [(.bool false), (.str ⟨#[]⟩), .nil] [(1, (2, (.t 39)))])⟩, ⟨none, none, (.store 3 (.t 2) (.t 40))⟩, ⟨(some 3), none, (.mv (.c (.bool true)))⟩]) .ret))) .skip)) (.seq (.reg [⟨(some 42), none, (.mv (.t 0))⟩, ⟨(some 43), none, (.call 53 [(.t 42)])⟩, ⟨(some 41), none, (.mv (.t 43))⟩, ⟨(some 44), none, (.ext (.t 41) 0)⟩, ⟨(some 45), none, (.ext (.t 41) 1)⟩, ⟨(some 8), none, (.alloc 24 [(.str ⟨#[]⟩), .nil])⟩, ⟨none, none, (.store 2 (.t 8) (.t 44))⟩, ⟨(some 9), none, (.mv (.t 45))⟩]) (.seq (.seq (.reg [⟨(some 46), none, (.mv (.t 9))⟩, ⟨(some 47), none, (.un .not (.t 46))⟩]) (.cond (.t 47) (.seq (.reg [⟨(some 48), none, (.build [(.bool false), (.str ⟨#[]⟩), .nil] [])⟩, ⟨none, none, (.store 3 (.t 2) (.t 48))⟩, ⟨(some 3), none, (.mv (.c (.bool false)))⟩]) .ret) .skip)) (.seq (.reg [⟨(some 49), none, (.load true 2 (.t 8))⟩, ⟨(some 50), none, (.build [(.bool false), (.str ⟨#[]⟩), .nil] [(0, (1, (.c (.bool true)))), (1, (2, (.t 49)))])⟩, ⟨none, none, (.store 3 (.t 2) (.t 50))⟩, ⟨(some 3), none, (.mv (.c (.bool true)))⟩]) .ret))))))
theorem k_spec_l3ReadLiteral : codeOf Try.prog 56 = some ⟨51, c_spec_l3ReadLiteral, [(.cell 2 true 3), (.tmp 3)]⟩ := by kernel_rfl
theorem m_spec_l3ReadLiteral : modes 56 = ⟨[], .frz, none, false⟩ := by unfold modes; rfl

def c_spec_ParseLiteral : SC := (.seq (.reg [⟨(some 2), none, (.alloc 31 [(.bool false), (.str ⟨#[]⟩), .nil])⟩, ⟨(some 3), none, (.mv (.c (.bool false)))⟩]) (.seq (.seq (.reg [⟨(some 4), none, (.mv (.t 0))⟩, ⟨(some 5), none, (.len true (.t 4))⟩, ⟨(some 6), none, (.bin .gtr false (.t 5) (.c (.int .i64 4000)))⟩]) (.cond (.t 6) (.seq (.reg [⟨(some 7), none, (.build [(.bool false), (.str ⟨#[]⟩), .nil] [])⟩, ⟨none, none, (.store 3 (.t 2) (.t 7))⟩, ⟨(some 3), none, (.mv (.c (.bool false)))⟩]) .ret) .skip)) (.seq (.reg [⟨(some 8), none, (.mv (.t 0))⟩, ⟨(some 9), none, (.call 56 [(.t 8)])⟩, ⟨(some 10), none, (.ext (.t 9) 0)⟩, ⟨(some 11), none, (.ext (.t 9) 1)⟩, ⟨none, none, (.store 3 (.t 2) (.t 10))⟩, ⟨(some 3), none, (.mv (.t 11))⟩]) .ret)))
theorem k_spec_ParseLiteral : codeOf Try.prog 16 = some ⟨12, c_spec_ParseLiteral, [(.cell 2 true 3), (.tmp 3)]⟩ := by kernel_rfl
theorem m_spec_ParseLiteral : modes 16 = ⟨[], .frz, none, false⟩ := by unfold modes; rfl

theorem isValidLiteral_E (x : Lt) (hn : x.atom.nodes ≤ 1099511627776) : E 58 [x.sv] [] = some (.bool x.atom.atom, []) := by
  have h := isValidAtom_E x.atom hn
  refine E_walk k_impl_IsValidLiteral m_impl_IsValidLiteral (of_decide_eq_true rfl) ?_
  simp (disch := omega) only [c_impl_IsValidLiteral, go_sem, Nat.reduceAdd, Nat.reduceSub, Nat.reduceLT, Nat.reduceLeDiff, Nat.reduceEqDiff, Nat.reduceBEq, Nat.reduceBneDiff, Nat.reduceMul, ↓reduceIte, Int.reduceToNat, reduceCtorEq, Int.reduceNeg, Int.reduceAdd, h, m_impl_IsValidAtom]
theorem ne_sign_toList : (⟨#[32, 33, 61, 32]⟩ : ByteArray).toList = neSign := mk_toList [32, 33, 61, 32]
theorem formatLiteral_E (x : Lt) (hx : x.atom.atom = true) : E 59 [x.sv] [] = some (.str x.txt, []) := by
  obtain ⟨p, t⟩ := x
  have hx : t.atom = true := hx
  cases p with
  | true =>
    have h := formatA_E t hx
    have e : (⟨true, t⟩ : Lt).txt = t.txtA := rfl
    rw [e]
    refine E_walk k_impl_formatLiteral m_impl_formatLiteral (of_decide_eq_true rfl) ?_
    simp (disch := omega) only [c_impl_formatLiteral, go_sem, Nat.reduceAdd, Nat.reduceSub, Nat.reduceLT, Nat.reduceLeDiff, Nat.reduceEqDiff, Nat.reduceBEq, Nat.reduceBneDiff, Nat.reduceMul, ↓reduceIte, Int.reduceToNat, reduceCtorEq, Int.reduceNeg, Int.reduceAdd, h, m_impl_formatTerm]
  | false =>
    have he := isEquality_E t
    rcases Tm.atom_cases (x := t) hx with ⟨h1, h2⟩ | ⟨a, b, rfl, h1, h2, h3, h4⟩
    · rw [h1] at he
      have f1 := formatTerm_E t (valid_names' h2) (by have := valid_nodes' h2; omega)
      have z1 := txt_size_ok h2
      have z3 : ((1 : Int) + (t.txt.size : Int) ≤ 9223372036854775807) = True := eq_true (by omega)
      have z2 : (⟨#[126]⟩ : ByteArray).size = 1 := rfl
      have e : (⟨#[126]⟩ : ByteArray) ++ t.txt = (⟨false, t⟩ : Lt).txt := bytes_ext (by
        have e1 : (⟨#[126]⟩ : ByteArray).toList = [126] := mk_toList [126]
        rw [app_toList, e1, Tm.txt_toList, Lt.txt_toList]
        unfold Lt.fmt
        simp only [h1, cond_false]; rfl)
      refine E_walk k_impl_formatLiteral m_impl_formatLiteral (of_decide_eq_true rfl) ?_
      simp (disch := omega) only [c_impl_formatLiteral, go_sem, Nat.reduceAdd, Nat.reduceSub, Nat.reduceLT, Nat.reduceLeDiff, Nat.reduceEqDiff, Nat.reduceBEq, Nat.reduceBneDiff, Nat.reduceMul, ↓reduceIte, Int.reduceToNat, reduceCtorEq, Int.reduceNeg, Int.reduceAdd, he, f1, z2, e, m_impl_isEquality, m_impl_formatTerm]
    · rw [h1] at he
      obtain ⟨s1, s2⟩ := small_args h4
      have va : a.valid = true := by unfold Tm.valid; rw [s1, h2]; rfl
      have vb : b.valid = true := by unfold Tm.valid; rw [s2, h3]; rfl
      have f1 := formatTerm_E a h2 (by have := valid_nodes' va; omega)
      have f2 := formatTerm_E b h3 (by have := valid_nodes' vb; omega)
      have z1 := txt_size_ok va
      have z2 := txt_size_ok vb
      have hs1 : (a.txt ++ (⟨#[32, 33, 61, 32]⟩ : ByteArray)).size = a.txt.size + 4 := by rw [ByteArray.size_append]; rfl
      have hs2 : (⟨#[32, 33, 61, 32]⟩ : ByteArray).size = 4 := rfl
      have ht : a.txt ++ ⟨#[32, 33, 61, 32]⟩ ++ b.txt = (⟨false, .mk ⟨#[61]⟩ [a, b]⟩ : Lt).txt := by
        refine bytes_ext ?_
        rw [app_toList, app_toList, Tm.txt_toList, Tm.txt_toList, Lt.txt_toList, ne_sign_toList]
        unfold Lt.fmt
        simp only [h1, cond_false, cond_true]; rfl
      have g0 : ([a, b].map Tm.d)[(0 : Nat)]? = some [D.str a.name, D.arr (a.args.map Tm.d)] := by rw [List.map_cons, Tm.d_eq]; rfl
      have g1 : ([a, b].map Tm.d)[(1 : Nat)]? = some [D.str b.name, D.arr (b.args.map Tm.d)] := by rw [List.map_cons, List.map_cons, Tm.d_eq b]; rfl
      have hsv : (Tm.mk ⟨#[61]⟩ [a, b]).sv = .agg [.str ⟨#[61]⟩, .arr ([a, b].map Tm.d)] := rfl
      have hlv : (⟨false, .mk ⟨#[61]⟩ [a, b]⟩ : Lt).sv = .agg [.bool false, .str ⟨#[61]⟩, .arr ([a, b].map Tm.d)] := rfl
      rw [hsv] at he
      rw [hlv]
      obtain ⟨ds, hds⟩ : ∃ ds, ds = [a, b].map Tm.d := ⟨_, rfl⟩
      rw [← hds] at he g0 g1 ⊢
      refine E_walk k_impl_formatLiteral m_impl_formatLiteral (of_decide_eq_true rfl) ?_
      simp (disch := omega) only [c_impl_formatLiteral, go_sem, Nat.reduceAdd, Nat.reduceSub, Nat.reduceLT, Nat.reduceLeDiff, Nat.reduceEqDiff, Nat.reduceBEq, Nat.reduceBneDiff, Nat.reduceMul, ↓reduceIte, Int.reduceToNat, reduceCtorEq, Int.reduceNeg, Int.reduceAdd, he, g0, g1, f1, f2, hs1, hs2, ht, Int.toNat_zero, Int.toNat_one, m_impl_isEquality, m_impl_formatTerm]
/-! The reference. -/
theorem lt0_sv : (⟨false, .mk ⟨#[]⟩ []⟩ : Lt).sv = .agg [.bool false, .str ⟨#[]⟩, .arr []] := rfl
theorem lt0_osv : (⟨false, .mk ⟨#[]⟩ []⟩ : Lt).osv = .agg [.bool false, .str ⟨#[]⟩, .ref 0] := rfl
theorem lt0_obs : (⟨false, .mk ⟨#[]⟩ []⟩ : Lt).obs = [.row 24 2 []] := rfl
theorem l3ReadLiteral_E (s : ByteArray) (hs : s.size ≤ 1048576) : E 56 [.str s] [] = some (.tup [(liTo s).sv, .bool (liOk s)], []) := by
  obtain ⟨t, b, h1, h2⟩ := l3Equation_E s ⟨#[32, 33, 61, 32]⟩ [33, 61, 32] hs (mk_toList _) (by show 4 ≤ 1000; omega)
  rcases h2 with ⟨rfl, h2⟩ | ⟨rfl, rfl, h2⟩
  · obtain ⟨o1, o2⟩ := li_yes (s := s) (l := ⟨false, t⟩) (liIs_iff.2 (.inr (.inl ⟨rfl, h2⟩)))
    rw [o1, o2]
    have hsv : (⟨false, t⟩ : Lt).sv = .agg [.bool false, .str t.name, .arr (t.args.map Tm.d)] := rfl
    rw [hsv]
    refine E_walk k_spec_l3ReadLiteral m_spec_l3ReadLiteral (of_decide_eq_true rfl) ?_
    simp (disch := omega) only [c_spec_l3ReadLiteral, go_sem, Nat.reduceAdd, Nat.reduceSub, Nat.reduceLT, Nat.reduceLeDiff, Nat.reduceEqDiff, Nat.reduceBEq, Nat.reduceBneDiff, Nat.reduceMul, ↓reduceIte, Int.reduceToNat, reduceCtorEq, Int.reduceNeg, Int.reduceAdd, h1, m_spec_l3Equation]
  · have ha := l3Atom_E s hs
    -- no sign of negation ahead: an atom
    have plain : hasB s 0 ⟨#[126]⟩ = false → (atOk s = true → liOk s = true ∧ liTo s = ⟨true, atTo s⟩) ∧ (atOk s = false → liOk s = false ∧ liTo s = ⟨false, .mk ⟨#[]⟩ []⟩) := fun hh => by
      constructor
      · intro ho
        obtain ⟨t, ht⟩ := dec_iff.1 ho
        rw [(at_yes ht).2]
        exact li_yes (liIs_iff.2 (.inl ⟨rfl, ht⟩))
      · intro ho
        refine li_no fun l hl => ?_
        rcases liIs_iff.1 hl with ⟨_, ht⟩ | ⟨_, ht⟩ | ⟨_, _, _, _, ht⟩
        · rw [(at_yes ht).1] at ho; cases ho
        · exact h2 _ ht
        · rw [hasB_head ht, dec_t rfl] at hh; cases hh
    cases hsl : s.toList with
    | nil =>
      have hz : s = ⟨#[]⟩ := bytes_ext (by rw [hsl]; exact (mk_toList []).symm)
      have hh : hasB s 0 ⟨#[126]⟩ = false := by
        cases hh : hasB s 0 ⟨#[126]⟩ with
        | false => rfl
        | true =>
          have := ((hasB_seg (Nat.zero_le _)).1 hh).1
          have hl : s.size = 0 := by rw [← size_toList, hsl]; rfl
          have e : (⟨#[126]⟩ : ByteArray).size = 1 := rfl
          omega
      obtain ⟨p1, p2⟩ := plain hh
      have q1 : (s = ⟨#[]⟩) = True := eq_true hz
      cases ho : atOk s with
      | true =>
        obtain ⟨o1, o2⟩ := p1 ho
        rw [o1, o2]
        rw [ho] at ha
        have hsv : (⟨true, atTo s⟩ : Lt).sv = .agg [.bool true, .str (atTo s).name, .arr ((atTo s).args.map Tm.d)] := rfl
        rw [hsv]
        refine E_walk k_spec_l3ReadLiteral m_spec_l3ReadLiteral (of_decide_eq_true rfl) ?_
        simp (disch := omega) only [c_spec_l3ReadLiteral, go_sem, Nat.reduceAdd, Nat.reduceSub, Nat.reduceLT, Nat.reduceLeDiff, Nat.reduceEqDiff, Nat.reduceBEq, Nat.reduceBneDiff, Nat.reduceMul, ↓reduceIte, Int.reduceToNat, reduceCtorEq, Int.reduceNeg, Int.reduceAdd, h1, ha, q1, m_spec_l3Equation, m_spec_l3Atom]
      | false =>
        obtain ⟨o1, o2⟩ := p2 ho
        rw [o1, o2, lt0_sv]
        rw [ho] at ha
        refine E_walk k_spec_l3ReadLiteral m_spec_l3ReadLiteral (of_decide_eq_true rfl) ?_
        simp (disch := omega) only [c_spec_l3ReadLiteral, go_sem, Nat.reduceAdd, Nat.reduceSub, Nat.reduceLT, Nat.reduceLeDiff, Nat.reduceEqDiff, Nat.reduceBEq, Nat.reduceBneDiff, Nat.reduceMul, ↓reduceIte, Int.reduceToNat, reduceCtorEq, Int.reduceNeg, Int.reduceAdd, h1, ha, q1, m_spec_l3Equation, m_spec_l3Atom]
    | cons c r =>
      have hsz : s.size = r.length + 1 := by rw [← size_toList, hsl]; rfl
      have hne : (s = ⟨#[]⟩) = False := eq_false fun e => by
        rw [e] at hsz
        have : (⟨#[]⟩ : ByteArray).size = 0 := rfl
        omega
      have hb : byteAt s 0 = (c.toNat : Int) := by
        rw [byteAt_toList (by omega)]
        simp only [hsl, List.getElem_cons_zero]
      have hh := hasB_head hsl
      by_cases hc : c = 126
      · have q2 : (byteAt s 0 = 126) = True := eq_true (by rw [hb, hc]; rfl)
        have ht1 : (s.extract 1 s.size).toList = r := by
          rw [toList_extract]
          unfold seg
          rw [hsl, List.drop_succ_cons, List.drop_zero, hsz]
          exact List.take_of_length_le (by omega)
        have hw := l3Whole_E (s.extract 1 s.size) (by rw [size_extract' (by omega) (Nat.le_refl _)]; omega)
        have n1 := prTo_nodes (s.extract 1 s.size)
        have h3 := l2Atom_E (prTo (s.extract 1 s.size)) (by omega)
        have no : ¬ (prOk (s.extract 1 s.size) = true ∧ (prTo (s.extract 1 s.size)).atom = true) → liOk s = false ∧ liTo s = ⟨false, .mk ⟨#[]⟩ []⟩ := fun hno => li_no fun l hl => by
          rcases liIs_iff.1 hl with ⟨_, ht⟩ | ⟨_, ht⟩ | ⟨_, _, hat, hv, ht⟩
          · rw [at_head ht, dec_t hc] at hh; cases hh
          · exact h2 _ ht
          · rw [hsl] at ht
            simp only [List.cons.injEq] at ht
            have := pr_full (s := s.extract 1 s.size) hv (by rw [ht1, ht.2])
            exact hno ⟨this.1, by rw [this.2]; exact hat⟩
        have q3 : ((1 : Int) ≤ (s.size : Int)) = True := eq_true (by omega)
        cases o1 : prOk (s.extract 1 s.size) with
        | false =>
          obtain ⟨p1, p2⟩ := no fun h => by rw [o1] at h; cases h.1
          rw [p1, p2, lt0_sv]
          rw [o1] at hw
          refine E_walk k_spec_l3ReadLiteral m_spec_l3ReadLiteral (of_decide_eq_true rfl) ?_
          simp (disch := omega) only [c_spec_l3ReadLiteral, go_sem, Nat.reduceAdd, Nat.reduceSub, Nat.reduceLT, Nat.reduceLeDiff, Nat.reduceEqDiff, Nat.reduceBEq, Nat.reduceBneDiff, Nat.reduceMul, ↓reduceIte, Int.reduceToNat, reduceCtorEq, Int.reduceNeg, Int.reduceAdd, h1, hw, hne, q2, q3, Int.toNat_zero, Int.toNat_one, m_spec_l3Equation, m_spec_l3Whole]
        | true =>
          rw [o1] at hw
          cases o2 : (prTo (s.extract 1 s.size)).atom with
          | false =>
            obtain ⟨p1, p2⟩ := no fun h => by rw [o2] at h; cases h.2
            rw [p1, p2, lt0_sv]
            rw [o2] at h3
            refine E_walk k_spec_l3ReadLiteral m_spec_l3ReadLiteral (of_decide_eq_true rfl) ?_
            simp (disch := omega) only [c_spec_l3ReadLiteral, go_sem, Nat.reduceAdd, Nat.reduceSub, Nat.reduceLT, Nat.reduceLeDiff, Nat.reduceEqDiff, Nat.reduceBEq, Nat.reduceBneDiff, Nat.reduceMul, ↓reduceIte, Int.reduceToNat, reduceCtorEq, Int.reduceNeg, Int.reduceAdd, h1, hw, h3, hne, q2, q3, Int.toNat_zero, Int.toNat_one, m_spec_l3Equation, m_spec_l3Whole, m_spec_l2Atom]
          | true =>
            obtain ⟨v1, x1⟩ := pr_yes o1
            have hn := valid_names' v1
            obtain ⟨p1, p2⟩ := li_yes (s := s) (l := ⟨false, prTo (s.extract 1 s.size)⟩) (liIs_iff.2 (.inr (.inr ⟨rfl, Tm.eqn_names hn, o2, v1, by rw [hsl, hc, ← ht1, ← x1, Tm.txt_toList, x1]⟩)))
            rw [p1, p2]
            rw [o2] at h3
            have hsv : (⟨false, prTo (s.extract 1 s.size)⟩ : Lt).sv = .agg [.bool false, .str (prTo (s.extract 1 s.size)).name, .arr ((prTo (s.extract 1 s.size)).args.map Tm.d)] := rfl
            rw [hsv]
            refine E_walk k_spec_l3ReadLiteral m_spec_l3ReadLiteral (of_decide_eq_true rfl) ?_
            simp (disch := omega) only [c_spec_l3ReadLiteral, go_sem, Nat.reduceAdd, Nat.reduceSub, Nat.reduceLT, Nat.reduceLeDiff, Nat.reduceEqDiff, Nat.reduceBEq, Nat.reduceBneDiff, Nat.reduceMul, ↓reduceIte, Int.reduceToNat, reduceCtorEq, Int.reduceNeg, Int.reduceAdd, h1, hw, h3, hne, q2, q3, Int.toNat_zero, Int.toNat_one, m_spec_l3Equation, m_spec_l3Whole, m_spec_l2Atom]
      · have q2 : (byteAt s 0 = 126) = False := eq_false fun e => hc (by
          rw [hb] at e
          exact UInt8.toNat_inj.1 (by rw [show (126 : UInt8).toNat = 126 from rfl]; omega))
        rw [dec_f hc] at hh
        obtain ⟨p1, p2⟩ := plain hh
        cases ho : atOk s with
        | true =>
          obtain ⟨o1, o2⟩ := p1 ho
          rw [o1, o2]
          rw [ho] at ha
          have hsv : (⟨true, atTo s⟩ : Lt).sv = .agg [.bool true, .str (atTo s).name, .arr ((atTo s).args.map Tm.d)] := rfl
          rw [hsv]
          refine E_walk k_spec_l3ReadLiteral m_spec_l3ReadLiteral (of_decide_eq_true rfl) ?_
          simp (disch := omega) only [c_spec_l3ReadLiteral, go_sem, Nat.reduceAdd, Nat.reduceSub, Nat.reduceLT, Nat.reduceLeDiff, Nat.reduceEqDiff, Nat.reduceBEq, Nat.reduceBneDiff, Nat.reduceMul, ↓reduceIte, Int.reduceToNat, reduceCtorEq, Int.reduceNeg, Int.reduceAdd, h1, ha, hne, q2, Int.toNat_zero, m_spec_l3Equation, m_spec_l3Atom]
        | false =>
          obtain ⟨o1, o2⟩ := p2 ho
          rw [o1, o2, lt0_sv]
          rw [ho] at ha
          refine E_walk k_spec_l3ReadLiteral m_spec_l3ReadLiteral (of_decide_eq_true rfl) ?_
          simp (disch := omega) only [c_spec_l3ReadLiteral, go_sem, Nat.reduceAdd, Nat.reduceSub, Nat.reduceLT, Nat.reduceLeDiff, Nat.reduceEqDiff, Nat.reduceBEq, Nat.reduceBneDiff, Nat.reduceMul, ↓reduceIte, Int.reduceToNat, reduceCtorEq, Int.reduceNeg, Int.reduceAdd, h1, ha, hne, q2, Int.toNat_zero, m_spec_l3Equation, m_spec_l3Atom]
theorem specParseLiteral_E (s : ByteArray) (hs : s.size ≤ 1048576) : E 16 [.str s] [] = some (.tup [(liTo s).sv, .bool (liOk s)], []) := by
  have h := l3ReadLiteral_E s hs
  by_cases h4 : s.size ≤ 4000
  · have hq : ((4000 : Int) < (s.size : Int)) = False := eq_false (by omega)
    refine E_walk k_spec_ParseLiteral m_spec_ParseLiteral (of_decide_eq_true rfl) ?_
    simp (disch := omega) only [c_spec_ParseLiteral, go_sem, Nat.reduceAdd, Nat.reduceSub, Nat.reduceLT, Nat.reduceLeDiff, Nat.reduceEqDiff, Nat.reduceBEq, Nat.reduceBneDiff, Nat.reduceMul, ↓reduceIte, Int.reduceToNat, reduceCtorEq, Int.reduceNeg, Int.reduceAdd, h, hq, m_spec_l3ReadLiteral]
  · have hq : ((4000 : Int) < (s.size : Int)) = True := eq_true (by omega)
    obtain ⟨q1, q2⟩ := li_size' h4
    rw [q1, q2, lt0_sv]
    refine E_walk k_spec_ParseLiteral m_spec_ParseLiteral (of_decide_eq_true rfl) ?_
    simp (disch := omega) only [c_spec_ParseLiteral, go_sem, Nat.reduceAdd, Nat.reduceSub, Nat.reduceLT, Nat.reduceLeDiff, Nat.reduceEqDiff, Nat.reduceBEq, Nat.reduceBneDiff, Nat.reduceMul, ↓reduceIte, Int.reduceToNat, reduceCtorEq, Int.reduceNeg, Int.reduceAdd, hq]
/-! The program's reader at an atom behind some text, at a literal. -/
set_option maxHeartbeats 4000000 in
theorem atomI_E (s : ByteArray) (hs : s.size ≤ 1048576) (i : Nat) (hi : i ≤ s.size) : ∃ out, E 54 [.ptr 0 0] [psr s i false] = some out ∧ TermQ s i (rdAtI ⟨#[32, 61, 32]⟩ s (s.size + 1) i) out := by
  obtain ⟨out1, h1, t, j, f, rfl, g1, g2, g3⟩ := term_E s hs (s.size + 1) i hi (by omega)
  refine E_walkQ k_impl_parser_atom m_impl_parser_atom (of_decide_eq_true rfl) ?_
  unfold rdAtI
  cases hr : rd s (s.size + 1) i with
  | none =>
    rw [hr] at g3
    have g3 : f = true := g3
    subst g3
    have ht := take_T s j ⟨#[32, 61, 32]⟩
    simp (disch := omega) only [c_impl_parser_atom, go_sem, Nat.reduceAdd, Nat.reduceSub, Nat.reduceLT, Nat.reduceLeDiff, Nat.reduceEqDiff, Nat.reduceBEq, Nat.reduceBneDiff, Nat.reduceMul, ↓reduceIte, Int.reduceToNat, reduceCtorEq, Int.reduceNeg, Int.reduceAdd, h1, ht, m_impl_parser_term, m_impl_parser_take]
    exact ⟨_, rfl, t, j, true, rfl, g1, g2, rfl⟩
  | some p =>
    obtain ⟨a, e⟩ := p
    rw [hr] at g3
    obtain ⟨rfl, rfl, rfl⟩ := g3
    cases hh : hasB s j ⟨#[32, 61, 32]⟩ with
    | false =>
      have ht := take_no s j ⟨#[32, 61, 32]⟩ g2 hh
      simp only [hh, cond_false]
      simp (disch := omega) only [c_impl_parser_atom, go_sem, Nat.reduceAdd, Nat.reduceSub, Nat.reduceLT, Nat.reduceLeDiff, Nat.reduceEqDiff, Nat.reduceBEq, Nat.reduceBneDiff, Nat.reduceMul, ↓reduceIte, Int.reduceToNat, reduceCtorEq, Int.reduceNeg, Int.reduceAdd, h1, ht, m_impl_parser_term, m_impl_parser_take]
      exact ⟨_, rfl, t, j, false, rfl, g1, g2, rfl, rfl, rfl⟩
    | true =>
      have ht : E 93 [.ptr 0 0, .str ⟨#[32, 61, 32]⟩] [psr s j false] = some (.bool true, [psr s (j + 3) false]) := take_yes s j ⟨#[32, 61, 32]⟩ (by show j + 3 ≤ _; omega) g2 hh
      have hj3 : j + 3 ≤ s.size := ((hasB_seg g2).1 hh).1
      obtain ⟨out2, h2, t2, j2, f2, rfl, k1, k2, k3⟩ := term_E s hs (s.size + 1) (j + 3) hj3 (by omega)
      simp only [hh, cond_true]
      have e3 : rd s (s.size + 1) (j + (⟨#[32, 61, 32]⟩ : ByteArray).size) = rd s (s.size + 1) (j + 3) := rfl
      rw [e3]
      have ho : (Tm.mk ⟨#[61]⟩ [t, t2]).args.map Tm.o = [[OT.str t.name, .ow (t.args.map Tm.o)], [OT.str t2.name, .ow (t2.args.map Tm.o)]] := by
        show [t, t2].map Tm.o = _
        rw [List.map_cons, List.map_cons, List.map_nil, Tm.o_eq, Tm.o_eq]
      simp (disch := omega) only [c_impl_parser_atom, go_sem, Nat.reduceAdd, Nat.reduceSub, Nat.reduceLT, Nat.reduceLeDiff, Nat.reduceEqDiff, Nat.reduceBEq, Nat.reduceBneDiff, Nat.reduceMul, ↓reduceIte, Int.reduceToNat, reduceCtorEq, Int.reduceNeg, Int.reduceAdd, h1, ht, h2, m_impl_parser_term, m_impl_parser_take]
      cases hr2 : rd s (s.size + 1) (j + 3) with
      | none =>
        rw [hr2] at k3
        have k3 : f2 = true := k3
        subst k3
        exact ⟨_, rfl, .mk ⟨#[61]⟩ [t, t2], j2, true, by rw [ho]; rfl, by omega, k2, rfl⟩
      | some p =>
        obtain ⟨b, e⟩ := p
        rw [hr2] at k3
        obtain ⟨rfl, rfl, rfl⟩ := k3
        exact ⟨_, rfl, .mk ⟨#[61]⟩ [t, t2], j2, false, by rw [ho]; rfl, by omega, k2, rfl, rfl, rfl⟩
/-- What the reader answers for a literal. -/
def LitQ (s : ByteArray) (r : Option (Lt × Nat)) (out : SV × List Ob) : Prop :=
  ∃ (l : Lt) (j : Nat) (f : Bool), out = (.agg [.bool l.pos, .str l.atom.name, .ref 1], [psr s j f, .row 24 2 (l.atom.args.map Tm.o)]) ∧ j ≤ s.size ∧ (match r with
    | some (l0, e) => l = l0 ∧ j = e ∧ f = false
    | none => f = true)
set_option maxHeartbeats 8000000 in
theorem literal_E (s : ByteArray) (hs : s.size ≤ 1048576) : ∃ out, E 57 [.ptr 0 0] [psr s 0 false] = some out ∧ LitQ s (rdLi s (s.size + 1)) out := by
  refine E_walkQ k_impl_parser_literal m_impl_parser_literal (of_decide_eq_true rfl) ?_
  unfold rdLi
  cases h0 : hasB s 0 ⟨#[126]⟩ with
  | true =>
    have ht : E 93 [.ptr 0 0, .str ⟨#[126]⟩] [psr s 0 false] = some (.bool true, [psr s 1 false]) := take_yes s 0 ⟨#[126]⟩ (by show 0 + 1 ≤ _; omega) (Nat.zero_le _) h0
    have h1s : 0 + 1 ≤ s.size := ((hasB_seg (Nat.zero_le _)).1 h0).1
    obtain ⟨out1, h1, t, j, f, rfl, g1, g2, g3⟩ := atomI_E s hs 1 (by omega)
    rw [cond_true]
    simp (disch := omega) only [c_impl_parser_literal, go_sem, Nat.reduceAdd, Nat.reduceSub, Nat.reduceLT, Nat.reduceLeDiff, Nat.reduceEqDiff, Nat.reduceBEq, Nat.reduceBneDiff, Nat.reduceMul, ↓reduceIte, Int.reduceToNat, reduceCtorEq, Int.reduceNeg, Int.reduceAdd, h1, ht, m_impl_parser_term, m_impl_parser_take, m_impl_parser_atom]
    cases hr : rdAtI ⟨#[32, 61, 32]⟩ s (s.size + 1) 1 with
    | none =>
      rw [hr] at g3
      exact ⟨_, rfl, ⟨false, t⟩, j, f, rfl, g2, g3⟩
    | some p =>
      obtain ⟨a, e⟩ := p
      rw [hr] at g3
      obtain ⟨rfl, rfl, rfl⟩ := g3
      exact ⟨_, rfl, ⟨false, t⟩, j, false, rfl, g2, rfl, rfl, rfl⟩
  | false =>
    have ht0 := take_no s 0 ⟨#[126]⟩ (Nat.zero_le _) h0
    rw [cond_false]
    obtain ⟨out1, h1, t, j, f, rfl, g1, g2, g3⟩ := term_E s hs (s.size + 1) 0 (Nat.zero_le _) (by omega)
    have ho : ∀ u, (Tm.mk ⟨#[61]⟩ [t, u]).args.map Tm.o = [[OT.str t.name, .ow (t.args.map Tm.o)], [OT.str u.name, .ow (u.args.map Tm.o)]] := fun u => by
      show [t, u].map Tm.o = _
      rw [List.map_cons, List.map_cons, List.map_nil, Tm.o_eq, Tm.o_eq]
    cases hr : rd s (s.size + 1) 0 with
    | none =>
      rw [hr] at g3
      have g3 : f = true := g3
      subst g3
      have ht1 := take_T s j ⟨#[32, 33, 61, 32]⟩
      have ht2 := take_T s j ⟨#[32, 61, 32]⟩
      simp (disch := omega) only [c_impl_parser_literal, go_sem, Nat.reduceAdd, Nat.reduceSub, Nat.reduceLT, Nat.reduceLeDiff, Nat.reduceEqDiff, Nat.reduceBEq, Nat.reduceBneDiff, Nat.reduceMul, ↓reduceIte, Int.reduceToNat, reduceCtorEq, Int.reduceNeg, Int.reduceAdd, h1, ht0, ht1, ht2, m_impl_parser_term, m_impl_parser_take, m_impl_parser_atom]
      exact ⟨_, rfl, ⟨true, t⟩, j, true, rfl, g2, rfl⟩
    | some p =>
      obtain ⟨a, e⟩ := p
      rw [hr] at g3
      obtain ⟨rfl, rfl, rfl⟩ := g3
      cases hn : hasB s j ⟨#[32, 33, 61, 32]⟩ with
      | true =>
        have ht1 : E 93 [.ptr 0 0, .str ⟨#[32, 33, 61, 32]⟩] [psr s j false] = some (.bool true, [psr s (j + 4) false]) := take_yes s j ⟨#[32, 33, 61, 32]⟩ (by show j + 4 ≤ _; omega) g2 hn
        have hj4 : j + 4 ≤ s.size := ((hasB_seg g2).1 hn).1
        obtain ⟨out2, h2, t2, j2, f2, rfl, k1, k2, k3⟩ := term_E s hs (s.size + 1) (j + 4) hj4 (by omega)
        simp only [hn, cond_true]
        simp (disch := omega) only [c_impl_parser_literal, go_sem, Nat.reduceAdd, Nat.reduceSub, Nat.reduceLT, Nat.reduceLeDiff, Nat.reduceEqDiff, Nat.reduceBEq, Nat.reduceBneDiff, Nat.reduceMul, ↓reduceIte, Int.reduceToNat, reduceCtorEq, Int.reduceNeg, Int.reduceAdd, h1, h2, ht0, ht1, m_impl_parser_term, m_impl_parser_take, m_impl_parser_atom]
        cases hr2 : rd s (s.size + 1) (j + 4) with
        | none =>
          rw [hr2] at k3
          have k3 : f2 = true := k3
          subst k3
          exact ⟨_, rfl, ⟨false, .mk ⟨#[61]⟩ [t, t2]⟩, j2, true, by rw [ho]; rfl, k2, rfl⟩
        | some p =>
          obtain ⟨b, e⟩ := p
          rw [hr2] at k3
          obtain ⟨rfl, rfl, rfl⟩ := k3
          exact ⟨_, rfl, ⟨false, .mk ⟨#[61]⟩ [t, t2]⟩, j2, false, by rw [ho]; rfl, k2, rfl, rfl, rfl⟩
      | false =>
        have ht1 := take_no s j ⟨#[32, 33, 61, 32]⟩ g2 hn
        simp only [hn, cond_false]
        cases hh : hasB s j ⟨#[32, 61, 32]⟩ with
        | false =>
          have ht2 := take_no s j ⟨#[32, 61, 32]⟩ g2 hh
          simp only [hh, cond_false]
          simp (disch := omega) only [c_impl_parser_literal, go_sem, Nat.reduceAdd, Nat.reduceSub, Nat.reduceLT, Nat.reduceLeDiff, Nat.reduceEqDiff, Nat.reduceBEq, Nat.reduceBneDiff, Nat.reduceMul, ↓reduceIte, Int.reduceToNat, reduceCtorEq, Int.reduceNeg, Int.reduceAdd, h1, ht0, ht1, ht2, m_impl_parser_term, m_impl_parser_take, m_impl_parser_atom]
          exact ⟨_, rfl, ⟨true, t⟩, j, false, rfl, g2, rfl, rfl, rfl⟩
        | true =>
          have ht2 : E 93 [.ptr 0 0, .str ⟨#[32, 61, 32]⟩] [psr s j false] = some (.bool true, [psr s (j + 3) false]) := take_yes s j ⟨#[32, 61, 32]⟩ (by show j + 3 ≤ _; omega) g2 hh
          have hj3 : j + 3 ≤ s.size := ((hasB_seg g2).1 hh).1
          obtain ⟨out2, h2, t2, j2, f2, rfl, k1, k2, k3⟩ := term_E s hs (s.size + 1) (j + 3) hj3 (by omega)
          simp only [hh, cond_true]
          simp (disch := omega) only [c_impl_parser_literal, go_sem, Nat.reduceAdd, Nat.reduceSub, Nat.reduceLT, Nat.reduceLeDiff, Nat.reduceEqDiff, Nat.reduceBEq, Nat.reduceBneDiff, Nat.reduceMul, ↓reduceIte, Int.reduceToNat, reduceCtorEq, Int.reduceNeg, Int.reduceAdd, h1, h2, ht0, ht1, ht2, m_impl_parser_term, m_impl_parser_take, m_impl_parser_atom]
          cases hr2 : rd s (s.size + 1) (j + 3) with
          | none =>
            rw [hr2] at k3
            have k3 : f2 = true := k3
            subst k3
            exact ⟨_, rfl, ⟨true, .mk ⟨#[61]⟩ [t, t2]⟩, j2, true, by rw [ho]; rfl, k2, rfl⟩
          | some p =>
            obtain ⟨b, e⟩ := p
            rw [hr2] at k3
            obtain ⟨rfl, rfl, rfl⟩ := k3
            exact ⟨_, rfl, ⟨true, .mk ⟨#[61]⟩ [t, t2]⟩, j2, false, by rw [ho]; rfl, k2, rfl, rfl, rfl⟩
set_option maxHeartbeats 4000000 in
theorem implParseLiteral_E (s : ByteArray) (hs : s.size ≤ 1048576) : E 17 [.str s] [] = some (.tup [(liTo s).osv, .bool (liOk s)], (liTo s).obs) := by
  obtain ⟨out, h1, t, j, f, rfl, h3, h4⟩ := literal_E s hs
  have h1 : E 57 [.ptr 0 0] [.box 81 [.str s, .int .i64 0, .bool false]] = some (.agg [.bool t.pos, .str t.atom.name, .ref 1], [psr s j f, .row 24 2 (t.atom.args.map Tm.o)]) := h1
  cases hr : rdLi s (s.size + 1) with
  | none =>
    rw [hr] at h4
    have h4 : f = true := h4
    subst h4
    have he := ended_T s j
    obtain ⟨q1, q2⟩ := li_no (s := s) fun u hu => by rw [li_read hu] at hr; cases hr
    rw [q1, q2]
    simp only [lt0_osv, lt0_obs]
    refine E_walk k_impl_ParseLiteral m_impl_ParseLiteral (of_decide_eq_true rfl) ?_
    simp (disch := omega) only [c_impl_ParseLiteral, go_sem, Nat.reduceAdd, Nat.reduceSub, Nat.reduceLT, Nat.reduceLeDiff, Nat.reduceEqDiff, Nat.reduceBEq, Nat.reduceBneDiff, Nat.reduceMul, ↓reduceIte, Int.reduceToNat, reduceCtorEq, Int.reduceNeg, Int.reduceAdd, h1, he, m_impl_IsValidLiteral, m_impl_formatLiteral, m_impl_parser_literal, m_impl_parser_ended]
  | some p =>
    obtain ⟨t0, e⟩ := p
    rw [hr] at h4
    obtain ⟨rfl, rfl, rfl⟩ := h4
    have hn := rdLi_nodes hr
    have he := ended_F s j
    have hv1 := isValidLiteral_E t (by omega)
    have no : ¬ (j = s.size ∧ t.atom.atom = true ∧ t.txt = s) → liOk s = false ∧ liTo s = ⟨false, .mk ⟨#[]⟩ []⟩ := fun h => li_no fun u hu => by
      have := li_read hu
      rw [hr] at this
      simp only [Option.some.injEq, Prod.mk.injEq] at this
      obtain ⟨rfl, rfl⟩ := this
      exact h ⟨rfl, hu.1, hu.2⟩
    by_cases h0 : j = s.size
    · rw [dec_t h0] at he
      cases hv : t.atom.atom with
      | true =>
        rw [hv] at hv1
        have hf := formatLiteral_E t hv
        by_cases hx : t.txt = s
        · obtain ⟨q1, q2⟩ := li_yes (s := s) (l := t) ⟨hv, hx⟩
          rw [q1, q2]
          have hx' : (t.txt = s) = True := eq_true hx
          refine E_walk k_impl_ParseLiteral m_impl_ParseLiteral (of_decide_eq_true rfl) ?_
          simp (disch := omega) only [c_impl_ParseLiteral, go_sem, Nat.reduceAdd, Nat.reduceSub, Nat.reduceLT, Nat.reduceLeDiff, Nat.reduceEqDiff, Nat.reduceBEq, Nat.reduceBneDiff, Nat.reduceMul, ↓reduceIte, Int.reduceToNat, reduceCtorEq, Int.reduceNeg, Int.reduceAdd, h1, he, hv1, hf, hx', Lt.osv, Lt.obs, Tm.erss, Tm.fus, m_impl_IsValidLiteral, m_impl_formatLiteral, m_impl_parser_literal, m_impl_parser_ended]
        · obtain ⟨q1, q2⟩ := no fun h => hx h.2.2
          rw [q1, q2]
          have hx' : (t.txt = s) = False := eq_false hx
          simp only [lt0_osv, lt0_obs]
          refine E_walk k_impl_ParseLiteral m_impl_ParseLiteral (of_decide_eq_true rfl) ?_
          simp (disch := omega) only [c_impl_ParseLiteral, go_sem, Nat.reduceAdd, Nat.reduceSub, Nat.reduceLT, Nat.reduceLeDiff, Nat.reduceEqDiff, Nat.reduceBEq, Nat.reduceBneDiff, Nat.reduceMul, ↓reduceIte, Int.reduceToNat, reduceCtorEq, Int.reduceNeg, Int.reduceAdd, h1, he, hv1, hf, hx', Tm.erss, Tm.fus, m_impl_IsValidLiteral, m_impl_formatLiteral, m_impl_parser_literal, m_impl_parser_ended]
      | false =>
        rw [hv] at hv1
        obtain ⟨q1, q2⟩ := no fun h => by rw [hv] at h; cases h.2.1
        rw [q1, q2]
        simp only [lt0_osv, lt0_obs]
        refine E_walk k_impl_ParseLiteral m_impl_ParseLiteral (of_decide_eq_true rfl) ?_
        simp (disch := omega) only [c_impl_ParseLiteral, go_sem, Nat.reduceAdd, Nat.reduceSub, Nat.reduceLT, Nat.reduceLeDiff, Nat.reduceEqDiff, Nat.reduceBEq, Nat.reduceBneDiff, Nat.reduceMul, ↓reduceIte, Int.reduceToNat, reduceCtorEq, Int.reduceNeg, Int.reduceAdd, h1, he, hv1, Tm.erss, Tm.fus, m_impl_IsValidLiteral, m_impl_formatLiteral, m_impl_parser_literal, m_impl_parser_ended]
    · rw [dec_f h0] at he
      obtain ⟨q1, q2⟩ := no fun h => h0 h.1
      rw [q1, q2]
      simp only [lt0_osv, lt0_obs]
      refine E_walk k_impl_ParseLiteral m_impl_ParseLiteral (of_decide_eq_true rfl) ?_
      simp (disch := omega) only [c_impl_ParseLiteral, go_sem, Nat.reduceAdd, Nat.reduceSub, Nat.reduceLT, Nat.reduceLeDiff, Nat.reduceEqDiff, Nat.reduceBEq, Nat.reduceBneDiff, Nat.reduceMul, ↓reduceIte, Int.reduceToNat, reduceCtorEq, Int.reduceNeg, Int.reduceAdd, h1, he, m_impl_IsValidLiteral, m_impl_formatLiteral, m_impl_parser_literal, m_impl_parser_ended]
end Go.Proofs.Ytjafnijgkjjadab

set_option maxRecDepth 100000
set_option linter.unusedSimpArgs false
set_option linter.unusedVariables false
namespace Go.Proofs.Ytjafnijgkjjadab
open Go.RowKit

mutual
def Tm.wt : Tm → Nat
  | .mk name args => 1 + Tm.wtS args
def Tm.wtS : List Tm → Nat
  | [] => 0
  | x :: xs => Tm.wt x + Tm.wtS xs
end
theorem Tm.wt_eq (x : Tm) : x.wt = 1 + Tm.wtS x.args := by
  obtain ⟨name, args⟩ := x
  rw [Tm.wt]; rfl
mutual
noncomputable def Tm.mk1 : Tm → Int → Tm × Int
  | .mk name args, k => ((Tm.mk (markT k) ((Tm.mkS args (k + 1)).1)), (Tm.mkS args (k + 1)).2)
noncomputable def Tm.mkS : List Tm → Int → List Tm × Int
  | [], k => ([], k)
  | x :: xs, k => ((Tm.mk1 x k).1 :: (Tm.mkS xs (Tm.mk1 x k).2).1, (Tm.mkS xs (Tm.mk1 x k).2).2)
end
theorem Tm.mk1_eq (x : Tm) (k : Int) : x.mk1 k = ((Tm.mk (markT k) ((Tm.mkS x.args (k + 1)).1)), (Tm.mkS x.args (k + 1)).2) := by
  obtain ⟨name, args⟩ := x
  rw [Tm.mk1]; rfl
theorem Tm.mk1_d (x : Tm) (k : Int) : Tm.d (x.mk1 k).1 = [.str (markT k), .arr ((Tm.mkS x.args (k + 1)).1.map Tm.d)] := by
  rw [Tm.mk1_eq, Tm.d_eq]
  try rfl
theorem Tm.mk1_o (x : Tm) (k : Int) : Tm.o (x.mk1 k).1 = [.str (markT k), .ow ((Tm.mkS x.args (k + 1)).1.map Tm.o)] := by
  rw [Tm.mk1_eq, Tm.o_eq]
  try rfl
theorem Tm.mkS_end_of : ∀ (xs : List Tm) (k : Int), (∀ x ∈ xs, ∀ k, (x.mk1 k).2 = k + x.wt) → (Tm.mkS xs k).2 = k + Tm.wtS xs
  | [], k, _ => by simp [Tm.mkS, Tm.wtS]
  | x :: xs, k, h => by
    rw [Tm.mkS, Tm.wtS]
    have h1 := h x (by simp) k
    have h2 := Tm.mkS_end_of xs (x.mk1 k).2 fun y hy => h y (by simp [hy])
    dsimp only
    omega
theorem Tm.mk1_end (x : Tm) (k : Int) : (x.mk1 k).2 = k + x.wt := by
  rw [Tm.mk1_eq, Tm.wt_eq]
  have h := fun k => Tm.mkS_end_of x.args k fun y hy k => Tm.mk1_end y k
  simp only [h]
  omega
termination_by SizeOf.sizeOf x
decreasing_by exact Tm.lt_of_mem hy
theorem Tm.mkS_end (xs : List Tm) (k : Int) : (Tm.mkS xs k).2 = k + Tm.wtS xs := Tm.mkS_end_of xs k fun x _ k => Tm.mk1_end x k
theorem Tm.wtS_of : ∀ xs : List Tm, (∀ x ∈ xs, x.wt ≤ 5 * (1 + x.bulk)) → Tm.wtS xs ≤ 5 * (xs.length + Tm.sumB xs)
  | [], _ => by simp [Tm.wtS]
  | x :: xs, h => by
    have h1 := h x (by simp)
    have h2 := Tm.wtS_of xs fun y hy => h y (by simp [hy])
    rw [Tm.wtS, Tm.sumB]; simp only [List.length_cons]; omega
theorem Tm.wt_bulk (x : Tm) : x.wt ≤ 5 * (1 + x.bulk) := by
  rw [Tm.wt_eq, Tm.bulk_eq]
  have h := Tm.wtS_of x.args fun y hy => Tm.wt_bulk y
  omega
termination_by SizeOf.sizeOf x
decreasing_by exact Tm.lt_of_mem hy
theorem Tm.wtS_bulk (xs : List Tm) : Tm.wtS xs ≤ 5 * (xs.length + Tm.sumB xs) := Tm.wtS_of xs fun x _ => Tm.wt_bulk x
theorem Tm.length_wt : ∀ xs : List Tm, xs.length ≤ Tm.wtS xs
  | [] => Nat.le_refl _
  | x :: xs => by
    have := Tm.length_wt xs
    have := Tm.wt_eq x
    rw [Tm.wtS]; simp only [List.length_cons]; omega
def c_laws_markTermS : SC := (.seq (.reg [⟨(some 4), none, (.mv (.c (.int .i64 0)))⟩]) (.seq (.seq (.reg [⟨(some 5), none, (.mv (.c (.int .i64 0)))⟩]) (.block 0 (.loop [1, 1, 0, 0, 0, 1, 0, 0, 0, 0, 0, 0, 0, 0, 0, 0, 0, 0, 0, 0, 0, 0, 0, 0, 0, 0, 0, 0] (.seq (.seq (.reg [⟨(some 6), none, (.mv (.t 5))⟩, ⟨(some 7), none, (.mv (.t 0))⟩, ⟨(some 8), none, (.len false (.t 7))⟩, ⟨(some 9), none, (.bin .lss false (.t 6) (.t 8))⟩]) (.cond (.t 9) .skip (.exit 0))) (.seq (.block 1 (.seq (.reg [⟨(some 12), none, (.mv (.t 0))⟩, ⟨(some 13), none, (.mv (.t 5))⟩, ⟨(some 14), none, (.mv (.t 1))⟩, ⟨(some 15), none, (.call 99 [(.t 14)])⟩, ⟨(some 16), none, (.iaddr 2 (.t 12) (.t 13))⟩, ⟨(some 17), none, (.faddr 0 (.t 16))⟩, ⟨none, none, (.store 1 (.t 17) (.t 15))⟩]) (.seq (.reg [⟨(some 18), none, (.mv (.t 1))⟩, ⟨(some 19), none, (.bin .add false (.t 18) (.c (.int .i64 1)))⟩, ⟨(some 1), none, (.mv (.t 19))⟩]) (.reg [⟨(some 20), none, (.mv (.t 0))⟩, ⟨(some 21), none, (.mv (.t 5))⟩, ⟨(some 22), none, (.iaddr 2 (.t 20) (.t 21))⟩, ⟨(some 23), none, (.faddr 1 (.t 22))⟩, ⟨(some 24), none, (.load false 1 (.t 23))⟩, ⟨(some 25), none, (.mv (.t 1))⟩, ⟨(some 26), none, (.call 51 [(.t 24), (.t 25)])⟩, ⟨(some 1), none, (.mv (.t 26))⟩])))) (.reg [⟨(some 10), none, (.mv (.t 5))⟩, ⟨(some 11), none, (.bin .add false (.t 10) (.c (.int .i64 1)))⟩, ⟨(some 5), none, (.mv (.t 11))⟩])))))) (.seq (.reg [⟨(some 27), none, (.mv (.t 1))⟩, ⟨(some 4), none, (.mv (.t 27))⟩]) .ret)))
theorem k_laws_markTermS : codeOf Try.prog 51 = some ⟨28, c_laws_markTermS, [(.tmp 4)]⟩ := by kernel_rfl
theorem m_laws_markTermS : modes 51 = ⟨[true], .asis, none, true⟩ := by unfold modes; rfl
abbrev MarkTS_Term (xs : List Tm) : Prop := ∀ (k : Int) (ob : List Ob), 1 ≤ k → k + Tm.wtS xs ≤ 1099511627776 → toTree ob = [.tree (xs.map Tm.o) []] → E 51 [.ref 0, .int .i64 k] ob = some (.int .i64 (Tm.mkS xs k).2, [.tree ((Tm.mkS xs k).1.map Tm.o) []])
set_option maxHeartbeats 2000000 in
theorem markTS_Term_of (xs : List Tm) (ih : ∀ x ∈ xs, MarkTS_Term x.args) : MarkTS_Term xs := by
  intro k0 ob h1 h2 hob
  have hlen : ob.length = 1 := by rw [← toTree_len, hob]; rfl
  have hL := Tm.length_wt xs
  refine E_walk k_laws_markTermS m_laws_markTermS (of_decide_eq_true rfl) ?_
  simp (disch := omega) only [c_laws_markTermS, go_sem, Nat.reduceAdd, Nat.reduceSub, Nat.reduceLT, Nat.reduceLeDiff, Nat.reduceEqDiff, Nat.reduceBEq, Nat.reduceBneDiff, Nat.reduceMul, ↓reduceIte, Int.reduceToNat, reduceCtorEq, Int.reduceNeg, Int.reduceAdd, hob, hlen]
  refine go_loop (α := Int × (Int) × (List Tm)) (fun a => ⟨slots 28 0 [(0, .ref 0), (1, .int .i64 (a.2.1)), (5, .int .i64 (a.1))], [.tree (((a.2.2) ++ xs.drop (a.1).toNat).map Tm.o) []]⟩) (fun a => ∃ k : Nat, a.1 = k ∧ k ≤ (xs).length ∧ (a.2.2).length = k ∧ 1 ≤ (a.2.1) ∧ (a.2.1) + Tm.wtS (xs.drop k) = k0 + Tm.wtS xs ∧ Tm.mkS xs k0 = ((a.2.2) ++ (Tm.mkS (xs.drop k) (a.2.1)).1, (Tm.mkS (xs.drop k) (a.2.1)).2)) (fun a => (xs).length - (a.1).toNat) (0, k0, []) ⟨0, rfl, Nat.zero_le _, rfl, h1, by rw [List.drop_zero], by simp⟩ (by simp (disch := omega) only [go_sem, Nat.reduceAdd, Nat.reduceSub, Nat.reduceLT, Nat.reduceLeDiff, Nat.reduceEqDiff, Nat.reduceBEq, Nat.reduceBneDiff, Nat.reduceMul, ↓reduceIte, Int.reduceToNat, reduceCtorEq, Int.reduceNeg, Int.reduceAdd, Int.toNat_zero]) ?_
  rintro ⟨i, kk, dn⟩ ⟨k, hi, hk, hR⟩
  dsimp only at hi hR
  have hni : i.toNat = k := by omega
  have hni1 : (i + 1).toNat = k + 1 := by omega
  rcases Nat.lt_or_ge k (xs).length with hlt | hge
  · obtain ⟨hd, hk1, hkn, hm⟩ := hR
    have hdr : xs.drop k = xs[k] :: xs.drop (k + 1) := List.drop_eq_getElem_cons hlt
    have hel : (dn ++ xs.drop k).length = xs.length := by simp; omega
    have hg : (List.map Tm.o (dn ++ xs.drop k))[k]? = some [.str xs[k].name, .ow (xs[k].args.map Tm.o)] := by
      rw [← Tm.o_eq, hdr, List.getElem?_map, List.getElem?_append_right (by omega), hd, Nat.sub_self]; rfl
    rw [hdr, Tm.wtS] at hkn
    rw [hdr, Tm.mkS] at hm
    have hn1 := Tm.wt_eq xs[k]
    have e1 := Tm.mkS_end xs[k].args ((kk + 1))
    have t0 := markText_E (k := kk) (by omega) (by omega)
    have c58 := ih xs[k] (List.getElem_mem hlt) ((kk + 1)) [.tree (xs[k].args.map Tm.o) []] (by omega) (by omega) rfl
    have hs := map_set_mid Tm.o dn (xs.drop (k + 1)) xs[k] (xs[k].mk1 kk).1 hd
    rw [Tm.mk1_o, ← hdr] at hs
    have hgs : ∀ a, ((List.map Tm.o (dn ++ xs.drop k)).set k a)[k]? = some a := fun a => List.getElem?_set_self (by rw [List.length_map, hel]; exact hlt)
    have he := Tm.mk1_end xs[k] kk
    have three : ∀ z : Int, dec ((3 : Int) = 0) = false := fun _ => dec_f (by omega)
    simp (disch := omega) only [go_sem, Nat.reduceAdd, Nat.reduceSub, Nat.reduceLT, Nat.reduceLeDiff, Nat.reduceEqDiff, Nat.reduceBEq, Nat.reduceBneDiff, Nat.reduceMul, ↓reduceIte, Int.reduceToNat, reduceCtorEq, Int.reduceNeg, Int.reduceAdd, hni, hel, hg, t0, c58, m_laws_markTermS, m_laws_markText, hgs, List.length_set, List.set_set, hs, three 0]
    refine ⟨(i + 1, (xs[k].mk1 kk).2, dn ++ [(xs[k].mk1 kk).1]), ⟨k + 1, by dsimp only; omega, hlt, by dsimp only; simp [hd], by dsimp only; omega, by dsimp only; omega, by rw [hm]; simp⟩, by dsimp only; omega, ?_⟩
    dsimp only
    rw [hni1, Tm.mk1_eq]
    refine ⟨⟨?_, rfl⟩, rfl⟩
    first | rfl | omega
  · obtain ⟨hd, hk1, hkn, hm⟩ := hR
    have hdr : xs.drop k = [] := List.drop_eq_nil_of_le hge
    rw [hdr, Tm.mkS] at hm
    rw [hm]
    simp (disch := omega) only [go_sem, Nat.reduceAdd, Nat.reduceSub, Nat.reduceLT, Nat.reduceLeDiff, Nat.reduceEqDiff, Nat.reduceBEq, Nat.reduceBneDiff, Nat.reduceMul, ↓reduceIte, Int.reduceToNat, reduceCtorEq, Int.reduceNeg, Int.reduceAdd, hni, hdr, List.append_nil]
theorem markTS1_Term (x : Tm) : MarkTS_Term x.args := markTS_Term_of x.args fun y hy => markTS1_Term y
termination_by SizeOf.sizeOf x
decreasing_by exact Tm.lt_of_mem hy
theorem markTS_Term (xs : List Tm) : MarkTS_Term xs := markTS_Term_of xs fun y _ => markTS1_Term y
mutual
def Fm.wt : Fm → Nat
  | .mk op atom var parts => 3 + Tm.wtS atom.args + Fm.wtS parts
def Fm.wtS : List Fm → Nat
  | [] => 0
  | x :: xs => Fm.wt x + Fm.wtS xs
end
theorem Fm.wt_eq (x : Fm) : x.wt = 3 + Tm.wtS x.atom.args + Fm.wtS x.parts := by
  obtain ⟨op, atom, var, parts⟩ := x
  rw [Fm.wt]; rfl
mutual
noncomputable def Fm.mk1 : Fm → Int → Fm × Int
  | .mk op atom var parts, k => ((Fm.mk (k) (Tm.mk (markT (k + 1)) ((Tm.mkS atom.args (k + 1 + 1)).1)) (markT (Tm.mkS atom.args (k + 1 + 1)).2) ((Fm.mkS parts ((Tm.mkS atom.args (k + 1 + 1)).2 + 1)).1)), (Fm.mkS parts ((Tm.mkS atom.args (k + 1 + 1)).2 + 1)).2)
noncomputable def Fm.mkS : List Fm → Int → List Fm × Int
  | [], k => ([], k)
  | x :: xs, k => ((Fm.mk1 x k).1 :: (Fm.mkS xs (Fm.mk1 x k).2).1, (Fm.mkS xs (Fm.mk1 x k).2).2)
end
theorem Fm.mk1_eq (x : Fm) (k : Int) : x.mk1 k = ((Fm.mk (k) (Tm.mk (markT (k + 1)) ((Tm.mkS x.atom.args (k + 1 + 1)).1)) (markT (Tm.mkS x.atom.args (k + 1 + 1)).2) ((Fm.mkS x.parts ((Tm.mkS x.atom.args (k + 1 + 1)).2 + 1)).1)), (Fm.mkS x.parts ((Tm.mkS x.atom.args (k + 1 + 1)).2 + 1)).2) := by
  obtain ⟨op, atom, var, parts⟩ := x
  rw [Fm.mk1]; rfl
theorem Fm.mk1_d (x : Fm) (k : Int) : Fm.d (x.mk1 k).1 = [.int k, .str (markT (k + 1)), .arr ((Tm.mkS x.atom.args (k + 1 + 1)).1.map Tm.d), .str (markT (Tm.mkS x.atom.args (k + 1 + 1)).2), .arr ((Fm.mkS x.parts ((Tm.mkS x.atom.args (k + 1 + 1)).2 + 1)).1.map Fm.d)] := by
  rw [Fm.mk1_eq, Fm.d_eq]
  try rfl
theorem Fm.mk1_o (x : Fm) (k : Int) : Fm.o (x.mk1 k).1 = [.int k, .str (markT (k + 1)), .ow ((Tm.mkS x.atom.args (k + 1 + 1)).1.map Tm.o), .str (markT (Tm.mkS x.atom.args (k + 1 + 1)).2), .ow ((Fm.mkS x.parts ((Tm.mkS x.atom.args (k + 1 + 1)).2 + 1)).1.map Fm.o)] := by
  rw [Fm.mk1_eq, Fm.o_eq]
  try rfl
theorem Fm.mkS_end_of : ∀ (xs : List Fm) (k : Int), (∀ x ∈ xs, ∀ k, (x.mk1 k).2 = k + x.wt) → (Fm.mkS xs k).2 = k + Fm.wtS xs
  | [], k, _ => by simp [Fm.mkS, Fm.wtS]
  | x :: xs, k, h => by
    rw [Fm.mkS, Fm.wtS]
    have h1 := h x (by simp) k
    have h2 := Fm.mkS_end_of xs (x.mk1 k).2 fun y hy => h y (by simp [hy])
    dsimp only
    omega
theorem Fm.mk1_end (x : Fm) (k : Int) : (x.mk1 k).2 = k + x.wt := by
  rw [Fm.mk1_eq, Fm.wt_eq]
  have h := fun k => Fm.mkS_end_of x.parts k fun y hy k => Fm.mk1_end y k
  simp only [h, Tm.mkS_end]
  omega
termination_by SizeOf.sizeOf x
decreasing_by exact Fm.lt_of_mem hy
theorem Fm.mkS_end (xs : List Fm) (k : Int) : (Fm.mkS xs k).2 = k + Fm.wtS xs := Fm.mkS_end_of xs k fun x _ k => Fm.mk1_end x k
theorem Fm.wtS_of : ∀ xs : List Fm, (∀ x ∈ xs, x.wt ≤ 5 * (1 + x.bulk)) → Fm.wtS xs ≤ 5 * (xs.length + Fm.sumB xs)
  | [], _ => by simp [Fm.wtS]
  | x :: xs, h => by
    have h1 := h x (by simp)
    have h2 := Fm.wtS_of xs fun y hy => h y (by simp [hy])
    rw [Fm.wtS, Fm.sumB]; simp only [List.length_cons]; omega
theorem Fm.wt_bulk (x : Fm) : x.wt ≤ 5 * (1 + x.bulk) := by
  rw [Fm.wt_eq, Fm.bulk_eq]
  have h := Fm.wtS_of x.parts fun y hy => Fm.wt_bulk y
  have h0 := Tm.wtS_bulk x.atom.args
  have q1 := Tm.bulk_eq x.atom
  omega
termination_by SizeOf.sizeOf x
decreasing_by exact Fm.lt_of_mem hy
theorem Fm.wtS_bulk (xs : List Fm) : Fm.wtS xs ≤ 5 * (xs.length + Fm.sumB xs) := Fm.wtS_of xs fun x _ => Fm.wt_bulk x
theorem Fm.length_wt : ∀ xs : List Fm, xs.length ≤ Fm.wtS xs
  | [] => Nat.le_refl _
  | x :: xs => by
    have := Fm.length_wt xs
    have := Fm.wt_eq x
    rw [Fm.wtS]; simp only [List.length_cons]; omega
def c_laws_markFormulaS : SC := (.seq (.reg [⟨(some 4), none, (.mv (.c (.int .i64 0)))⟩]) (.seq (.seq (.reg [⟨(some 5), none, (.mv (.c (.int .i64 0)))⟩]) (.block 0 (.loop [1, 1, 0, 0, 0, 1, 0, 0, 0, 0, 0, 0, 0, 0, 0, 0, 0, 0, 0, 0, 0, 0, 0, 0, 0, 0, 0, 0, 0, 0, 0, 0, 0, 0, 0, 0, 0, 0, 0, 0, 0, 0, 0, 0, 0, 0, 0, 0, 0, 0, 0, 0] (.seq (.seq (.reg [⟨(some 6), none, (.mv (.t 5))⟩, ⟨(some 7), none, (.mv (.t 0))⟩, ⟨(some 8), none, (.len false (.t 7))⟩, ⟨(some 9), none, (.bin .lss false (.t 6) (.t 8))⟩]) (.cond (.t 9) .skip (.exit 0))) (.seq (.block 1 (.seq (.reg [⟨(some 12), none, (.mv (.t 0))⟩, ⟨(some 13), none, (.mv (.t 5))⟩, ⟨(some 14), none, (.mv (.t 1))⟩, ⟨(some 15), none, (.iaddr 5 (.t 12) (.t 13))⟩, ⟨(some 16), none, (.faddr 0 (.t 15))⟩, ⟨none, none, (.store 1 (.t 16) (.t 14))⟩]) (.seq (.reg [⟨(some 17), none, (.mv (.t 1))⟩, ⟨(some 18), none, (.bin .add false (.t 17) (.c (.int .i64 1)))⟩, ⟨(some 1), none, (.mv (.t 18))⟩]) (.seq (.reg [⟨(some 19), none, (.mv (.t 0))⟩, ⟨(some 20), none, (.mv (.t 5))⟩, ⟨(some 21), none, (.mv (.t 1))⟩, ⟨(some 22), none, (.call 99 [(.t 21)])⟩, ⟨(some 23), none, (.iaddr 5 (.t 19) (.t 20))⟩, ⟨(some 24), none, (.faddr 1 (.t 23))⟩, ⟨(some 25), none, (.faddr 0 (.t 24))⟩, ⟨none, none, (.store 1 (.t 25) (.t 22))⟩]) (.seq (.reg [⟨(some 26), none, (.mv (.t 1))⟩, ⟨(some 27), none, (.bin .add false (.t 26) (.c (.int .i64 1)))⟩, ⟨(some 1), none, (.mv (.t 27))⟩]) (.seq (.reg [⟨(some 28), none, (.mv (.t 0))⟩, ⟨(some 29), none, (.mv (.t 5))⟩, ⟨(some 30), none, (.iaddr 5 (.t 28) (.t 29))⟩, ⟨(some 31), none, (.faddr 1 (.t 30))⟩, ⟨(some 32), none, (.faddr 1 (.t 31))⟩, ⟨(some 33), none, (.load false 1 (.t 32))⟩, ⟨(some 34), none, (.mv (.t 1))⟩, ⟨(some 35), none, (.call 51 [(.t 33), (.t 34)])⟩, ⟨(some 1), none, (.mv (.t 35))⟩]) (.seq (.reg [⟨(some 36), none, (.mv (.t 0))⟩, ⟨(some 37), none, (.mv (.t 5))⟩, ⟨(some 38), none, (.mv (.t 1))⟩, ⟨(some 39), none, (.call 99 [(.t 38)])⟩, ⟨(some 40), none, (.iaddr 5 (.t 36) (.t 37))⟩, ⟨(some 41), none, (.faddr 3 (.t 40))⟩, ⟨none, none, (.store 1 (.t 41) (.t 39))⟩]) (.seq (.reg [⟨(some 42), none, (.mv (.t 1))⟩, ⟨(some 43), none, (.bin .add false (.t 42) (.c (.int .i64 1)))⟩, ⟨(some 1), none, (.mv (.t 43))⟩]) (.reg [⟨(some 44), none, (.mv (.t 0))⟩, ⟨(some 45), none, (.mv (.t 5))⟩, ⟨(some 46), none, (.iaddr 5 (.t 44) (.t 45))⟩, ⟨(some 47), none, (.faddr 4 (.t 46))⟩, ⟨(some 48), none, (.load false 1 (.t 47))⟩, ⟨(some 49), none, (.mv (.t 1))⟩, ⟨(some 50), none, (.call 68 [(.t 48), (.t 49)])⟩, ⟨(some 1), none, (.mv (.t 50))⟩]))))))))) (.reg [⟨(some 10), none, (.mv (.t 5))⟩, ⟨(some 11), none, (.bin .add false (.t 10) (.c (.int .i64 1)))⟩, ⟨(some 5), none, (.mv (.t 11))⟩])))))) (.seq (.reg [⟨(some 51), none, (.mv (.t 1))⟩, ⟨(some 4), none, (.mv (.t 51))⟩]) .ret)))
theorem k_laws_markFormulaS : codeOf Try.prog 68 = some ⟨52, c_laws_markFormulaS, [(.tmp 4)]⟩ := by kernel_rfl
theorem m_laws_markFormulaS : modes 68 = ⟨[true], .asis, none, true⟩ := by unfold modes; rfl
abbrev MarkTS_Formula (xs : List Fm) : Prop := ∀ (k : Int) (ob : List Ob), 1 ≤ k → k + Fm.wtS xs ≤ 1099511627776 → toTree ob = [.tree (xs.map Fm.o) []] → E 68 [.ref 0, .int .i64 k] ob = some (.int .i64 (Fm.mkS xs k).2, [.tree ((Fm.mkS xs k).1.map Fm.o) []])
set_option maxHeartbeats 2000000 in
theorem markTS_Formula_of (xs : List Fm) (ih : ∀ x ∈ xs, MarkTS_Formula x.parts) : MarkTS_Formula xs := by
  intro k0 ob h1 h2 hob
  have hlen : ob.length = 1 := by rw [← toTree_len, hob]; rfl
  have hL := Fm.length_wt xs
  refine E_walk k_laws_markFormulaS m_laws_markFormulaS (of_decide_eq_true rfl) ?_
  simp (disch := omega) only [c_laws_markFormulaS, go_sem, Nat.reduceAdd, Nat.reduceSub, Nat.reduceLT, Nat.reduceLeDiff, Nat.reduceEqDiff, Nat.reduceBEq, Nat.reduceBneDiff, Nat.reduceMul, ↓reduceIte, Int.reduceToNat, reduceCtorEq, Int.reduceNeg, Int.reduceAdd, hob, hlen]
  refine go_loop (α := Int × (Int) × (List Fm)) (fun a => ⟨slots 52 0 [(0, .ref 0), (1, .int .i64 (a.2.1)), (5, .int .i64 (a.1))], [.tree (((a.2.2) ++ xs.drop (a.1).toNat).map Fm.o) []]⟩) (fun a => ∃ k : Nat, a.1 = k ∧ k ≤ (xs).length ∧ (a.2.2).length = k ∧ 1 ≤ (a.2.1) ∧ (a.2.1) + Fm.wtS (xs.drop k) = k0 + Fm.wtS xs ∧ Fm.mkS xs k0 = ((a.2.2) ++ (Fm.mkS (xs.drop k) (a.2.1)).1, (Fm.mkS (xs.drop k) (a.2.1)).2)) (fun a => (xs).length - (a.1).toNat) (0, k0, []) ⟨0, rfl, Nat.zero_le _, rfl, h1, by rw [List.drop_zero], by simp⟩ (by simp (disch := omega) only [go_sem, Nat.reduceAdd, Nat.reduceSub, Nat.reduceLT, Nat.reduceLeDiff, Nat.reduceEqDiff, Nat.reduceBEq, Nat.reduceBneDiff, Nat.reduceMul, ↓reduceIte, Int.reduceToNat, reduceCtorEq, Int.reduceNeg, Int.reduceAdd, Int.toNat_zero]) ?_
  rintro ⟨i, kk, dn⟩ ⟨k, hi, hk, hR⟩
  dsimp only at hi hR
  have hni : i.toNat = k := by omega
  have hni1 : (i + 1).toNat = k + 1 := by omega
  rcases Nat.lt_or_ge k (xs).length with hlt | hge
  · obtain ⟨hd, hk1, hkn, hm⟩ := hR
    have hdr : xs.drop k = xs[k] :: xs.drop (k + 1) := List.drop_eq_getElem_cons hlt
    have hel : (dn ++ xs.drop k).length = xs.length := by simp; omega
    have hg : (List.map Fm.o (dn ++ xs.drop k))[k]? = some [.int xs[k].op, .str xs[k].atom.name, .ow (xs[k].atom.args.map Tm.o), .str xs[k].var, .ow (xs[k].parts.map Fm.o)] := by
      rw [← Fm.o_eq, hdr, List.getElem?_map, List.getElem?_append_right (by omega), hd, Nat.sub_self]; rfl
    rw [hdr, Fm.wtS] at hkn
    rw [hdr, Fm.mkS] at hm
    have hn1 := Fm.wt_eq xs[k]
    have e2 := Tm.mkS_end xs[k].atom.args ((kk + 1 + 1))
    have e4 := Fm.mkS_end xs[k].parts (((Tm.mkS xs[k].atom.args (kk + 1 + 1)).2 + 1))
    have t0 := markText_E (k := (kk + 1)) (by omega) (by omega)
    have c64 := markTS_Term xs[k].atom.args ((kk + 1 + 1)) [.tree (xs[k].atom.args.map Tm.o) []] (by omega) (by omega) rfl
    have t187 := markText_E (k := (Tm.mkS xs[k].atom.args (kk + 1 + 1)).2) (by omega) (by omega)
    have c284 := ih xs[k] (List.getElem_mem hlt) (((Tm.mkS xs[k].atom.args (kk + 1 + 1)).2 + 1)) [.tree (xs[k].parts.map Fm.o) []] (by omega) (by omega) rfl
    have hs := map_set_mid Fm.o dn (xs.drop (k + 1)) xs[k] (xs[k].mk1 kk).1 hd
    rw [Fm.mk1_o, ← hdr] at hs
    have hgs : ∀ a, ((List.map Fm.o (dn ++ xs.drop k)).set k a)[k]? = some a := fun a => List.getElem?_set_self (by rw [List.length_map, hel]; exact hlt)
    have he := Fm.mk1_end xs[k] kk
    have three : ∀ z : Int, dec ((3 : Int) = 0) = false := fun _ => dec_f (by omega)
    simp (disch := omega) only [go_sem, Nat.reduceAdd, Nat.reduceSub, Nat.reduceLT, Nat.reduceLeDiff, Nat.reduceEqDiff, Nat.reduceBEq, Nat.reduceBneDiff, Nat.reduceMul, ↓reduceIte, Int.reduceToNat, reduceCtorEq, Int.reduceNeg, Int.reduceAdd, hni, hel, hg, t0, c64, m_laws_markTermS, t187, c284, m_laws_markFormulaS, m_laws_markText, hgs, List.length_set, List.set_set, hs, three 0]
    refine ⟨(i + 1, (xs[k].mk1 kk).2, dn ++ [(xs[k].mk1 kk).1]), ⟨k + 1, by dsimp only; omega, hlt, by dsimp only; simp [hd], by dsimp only; omega, by dsimp only; omega, by rw [hm]; simp⟩, by dsimp only; omega, ?_⟩
    dsimp only
    rw [hni1, Fm.mk1_eq]
    refine ⟨⟨?_, rfl⟩, rfl⟩
    first | rfl | omega
  · obtain ⟨hd, hk1, hkn, hm⟩ := hR
    have hdr : xs.drop k = [] := List.drop_eq_nil_of_le hge
    rw [hdr, Fm.mkS] at hm
    rw [hm]
    simp (disch := omega) only [go_sem, Nat.reduceAdd, Nat.reduceSub, Nat.reduceLT, Nat.reduceLeDiff, Nat.reduceEqDiff, Nat.reduceBEq, Nat.reduceBneDiff, Nat.reduceMul, ↓reduceIte, Int.reduceToNat, reduceCtorEq, Int.reduceNeg, Int.reduceAdd, hni, hdr, List.append_nil]
theorem markTS1_Formula (x : Fm) : MarkTS_Formula x.parts := markTS_Formula_of x.parts fun y hy => markTS1_Formula y
termination_by SizeOf.sizeOf x
decreasing_by exact Fm.lt_of_mem hy
theorem markTS_Formula (xs : List Fm) : MarkTS_Formula xs := markTS_Formula_of xs fun y _ => markTS1_Formula y
end Go.Proofs.Ytjafnijgkjjadab

set_option maxRecDepth 100000
set_option linter.unusedSimpArgs false
set_option linter.unusedVariables false
namespace Go.Proofs.Ytjafnijgkjjadab
open Go.RowKit

def c_laws_heldTermS : SC := (.seq (.reg [⟨(some 4), none, (.mv (.c (.int .i64 0)))⟩]) (.seq (.seq (.reg [⟨(some 5), none, (.mv (.c (.int .i64 0)))⟩]) (.block 0 (.loop [1, 1, 0, 0, 0, 1, 0, 0, 0, 0, 0, 0, 0, 0, 0, 0, 0, 0, 0, 0, 0, 0, 0, 0, 0, 0, 0, 0, 0, 0, 0, 0] (.seq (.seq (.reg [⟨(some 6), none, (.mv (.t 5))⟩, ⟨(some 7), none, (.mv (.t 0))⟩, ⟨(some 8), none, (.len false (.t 7))⟩, ⟨(some 9), none, (.bin .lss false (.t 6) (.t 8))⟩]) (.cond (.t 9) .skip (.exit 0))) (.seq (.block 1 (.seq (.seq (.dreg [[], [], [0, 1], [2, 0, 1], [3, 2, 0, 1], [], [5], [4, 3, 2, 0, 1, 6, 5]] [⟨(some 12), none, (.mv (.t 0))⟩, ⟨(some 13), none, (.mv (.t 5))⟩, ⟨(some 14), none, (.iaddr 2 (.t 12) (.t 13))⟩, ⟨(some 15), none, (.faddr 0 (.t 14))⟩, ⟨(some 16), none, (.load false 1 (.t 15))⟩, ⟨(some 17), none, (.mv (.t 1))⟩, ⟨(some 18), none, (.call 99 [(.t 17)])⟩, ⟨(some 19), none, (.bin .neq false (.t 16) (.t 18))⟩]) (.cond (.t 19) (.seq (.reg [⟨(some 4), none, (.mv (.c (.int .i64 (-(0 + 1)))))⟩]) .ret) .skip)) (.seq (.reg [⟨(some 20), none, (.mv (.t 1))⟩, ⟨(some 21), none, (.bin .add false (.t 20) (.c (.int .i64 1)))⟩, ⟨(some 1), none, (.mv (.t 21))⟩]) (.seq (.reg [⟨(some 22), none, (.mv (.t 0))⟩, ⟨(some 23), none, (.mv (.t 5))⟩, ⟨(some 24), none, (.iaddr 2 (.t 22) (.t 23))⟩, ⟨(some 25), none, (.faddr 1 (.t 24))⟩, ⟨(some 26), none, (.load false 1 (.t 25))⟩, ⟨(some 27), none, (.mv (.t 1))⟩, ⟨(some 28), none, (.call 52 [(.t 26), (.t 27)])⟩, ⟨(some 1), none, (.mv (.t 28))⟩]) (.seq (.reg [⟨(some 29), none, (.mv (.t 1))⟩, ⟨(some 30), none, (.bin .lss false (.t 29) (.c (.int .i64 0)))⟩]) (.cond (.t 30) (.seq (.reg [⟨(some 4), none, (.mv (.c (.int .i64 (-(0 + 1)))))⟩]) .ret) .skip)))))) (.reg [⟨(some 10), none, (.mv (.t 5))⟩, ⟨(some 11), none, (.bin .add false (.t 10) (.c (.int .i64 1)))⟩, ⟨(some 5), none, (.mv (.t 11))⟩])))))) (.seq (.reg [⟨(some 31), none, (.mv (.t 1))⟩, ⟨(some 4), none, (.mv (.t 31))⟩]) .ret)))
theorem k_laws_heldTermS : codeOf Try.prog 52 = some ⟨32, c_laws_heldTermS, [(.tmp 4)]⟩ := by kernel_rfl
theorem m_laws_heldTermS : modes 52 = ⟨[], .asis, none, false⟩ := by unfold modes; rfl
theorem Tm.mkS_len : ∀ (xs : List Tm) (k : Int), (Tm.mkS xs k).1.length = xs.length
  | [], k => by rw [Tm.mkS]
  | x :: xs, k => by rw [Tm.mkS]; simp only [List.length_cons]; rw [Tm.mkS_len xs]
abbrev HeldTS_Term (xs : List Tm) : Prop := ∀ k : Int, 1 ≤ k → k + Tm.wtS xs ≤ 1099511627776 → E 52 [.arr ((Tm.mkS xs k).1.map Tm.d), .int .i64 k] [] = some (.int .i64 (Tm.mkS xs k).2, [])
set_option maxHeartbeats 2000000 in
theorem heldTS_Term_of (xs : List Tm) (ih : ∀ x ∈ xs, HeldTS_Term x.args) : HeldTS_Term xs := by
  intro k0 h1 h2
  obtain ⟨ys, hys⟩ : ∃ ys, ys = (Tm.mkS xs k0).1 := ⟨_, rfl⟩
  have hyl : ys.length = xs.length := by rw [hys, Tm.mkS_len]
  rw [← hys]
  have hL := Tm.length_wt xs
  refine E_walk k_laws_heldTermS m_laws_heldTermS (of_decide_eq_true rfl) ?_
  simp (disch := omega) only [c_laws_heldTermS, go_sem, Nat.reduceAdd, Nat.reduceSub, Nat.reduceLT, Nat.reduceLeDiff, Nat.reduceEqDiff, Nat.reduceBEq, Nat.reduceBneDiff, Nat.reduceMul, ↓reduceIte, Int.reduceToNat, reduceCtorEq, Int.reduceNeg, Int.reduceAdd]
  refine go_loop (α := Int × (Int)) (fun a => ⟨slots 32 0 [(0, .arr (ys.map Tm.d)), (1, .int .i64 (a.2)), (5, .int .i64 (a.1))], []⟩) (fun a => ∃ k : Nat, a.1 = k ∧ k ≤ (ys).length ∧ 1 ≤ (a.2) ∧ (a.2) + Tm.wtS (xs.drop k) = k0 + Tm.wtS xs ∧ ys.drop k = (Tm.mkS (xs.drop k) (a.2)).1 ∧ (Tm.mkS xs k0).2 = (Tm.mkS (xs.drop k) (a.2)).2) (fun a => (ys).length - (a.1).toNat) (0, k0) ⟨0, rfl, Nat.zero_le _, h1, by rw [List.drop_zero], by rw [List.drop_zero, List.drop_zero, hys], by rw [List.drop_zero]⟩ (by simp (disch := omega) only [go_sem, Nat.reduceAdd, Nat.reduceSub, Nat.reduceLT, Nat.reduceLeDiff, Nat.reduceEqDiff, Nat.reduceBEq, Nat.reduceBneDiff, Nat.reduceMul, ↓reduceIte, Int.reduceToNat, reduceCtorEq, Int.reduceNeg, Int.reduceAdd]) ?_
  rintro ⟨i, kk⟩ ⟨k, hi, hk, hR⟩
  dsimp only at hi hR
  have hni : i.toNat = k := by omega
  have hni1 : (i + 1).toNat = k + 1 := by omega
  rcases Nat.lt_or_ge k (ys).length with hlt | hge
  · obtain ⟨hk1, hkn, hy, hm⟩ := hR
    have hlx : k < xs.length := by omega
    have hdr : xs.drop k = xs[k] :: xs.drop (k + 1) := List.drop_eq_getElem_cons hlx
    have hdy := List.drop_eq_getElem_cons hlt
    rw [hdr, Tm.wtS] at hkn
    rw [hdr, Tm.mkS] at hm
    rw [hdr, Tm.mkS, hdy] at hy
    dsimp only at hy hm
    obtain ⟨hy1, hy2⟩ := List.cons.inj hy
    have hg := get_at Tm.d hlt
    rw [hy1, Tm.mk1_d] at hg
    have hn1 := Tm.wt_eq xs[k]
    have e1 := Tm.mkS_end xs[k].args ((kk + 1))
    have t0 := markText_E (k := kk) (by omega) (by omega)
    have c58 := ih xs[k] (List.getElem_mem hlx) ((kk + 1)) (by omega) (by omega)
    have he := Tm.mk1_end xs[k] kk
    simp (disch := omega) only [go_sem, Nat.reduceAdd, Nat.reduceSub, Nat.reduceLT, Nat.reduceLeDiff, Nat.reduceEqDiff, Nat.reduceBEq, Nat.reduceBneDiff, Nat.reduceMul, ↓reduceIte, Int.reduceToNat, reduceCtorEq, Int.reduceNeg, Int.reduceAdd, hni, hg, m_laws_markText, dec_refl, t0, c58, m_laws_heldTermS]
    refine ⟨(i + 1, (xs[k].mk1 kk).2), ⟨k + 1, by dsimp only; omega, hlt, by dsimp only; omega, by dsimp only; omega, hy2, hm⟩, by dsimp only; omega, ?_⟩
    dsimp only
    rw [Tm.mk1_eq]
    simp only [and_self, and_true, true_and]
    try omega
  · obtain ⟨hk1, hkn, hy, hm⟩ := hR
    have hdr : xs.drop k = [] := List.drop_eq_nil_of_le (by omega)
    rw [hdr, Tm.mkS] at hm
    rw [hm]
    simp (disch := omega) only [go_sem, Nat.reduceAdd, Nat.reduceSub, Nat.reduceLT, Nat.reduceLeDiff, Nat.reduceEqDiff, Nat.reduceBEq, Nat.reduceBneDiff, Nat.reduceMul, ↓reduceIte, Int.reduceToNat, reduceCtorEq, Int.reduceNeg, Int.reduceAdd, hni]
theorem heldTS1_Term (x : Tm) : HeldTS_Term x.args := heldTS_Term_of x.args fun y hy => heldTS1_Term y
termination_by SizeOf.sizeOf x
decreasing_by exact Tm.lt_of_mem hy
theorem heldTS_Term (xs : List Tm) : HeldTS_Term xs := heldTS_Term_of xs fun y _ => heldTS1_Term y
def c_laws_heldFormulaS : SC := (.seq (.reg [⟨(some 4), none, (.mv (.c (.int .i64 0)))⟩]) (.seq (.seq (.reg [⟨(some 5), none, (.mv (.c (.int .i64 0)))⟩]) (.block 0 (.loop [1, 1, 0, 0, 0, 1, 0, 0, 0, 0, 0, 0, 0, 0, 0, 0, 0, 0, 0, 0, 0, 0, 0, 0, 0, 0, 0, 0, 0, 0, 0, 0, 0, 0, 0, 0, 0, 0, 0, 0, 0, 0, 0, 0, 0, 0, 0, 0, 0, 0, 0, 0, 0, 0, 0, 0, 0, 0, 0, 0, 0, 0] (.seq (.seq (.reg [⟨(some 6), none, (.mv (.t 5))⟩, ⟨(some 7), none, (.mv (.t 0))⟩, ⟨(some 8), none, (.len false (.t 7))⟩, ⟨(some 9), none, (.bin .lss false (.t 6) (.t 8))⟩]) (.cond (.t 9) .skip (.exit 0))) (.seq (.block 1 (.seq (.seq (.reg [⟨(some 12), none, (.mv (.t 0))⟩, ⟨(some 13), none, (.mv (.t 5))⟩, ⟨(some 14), none, (.iaddr 5 (.t 12) (.t 13))⟩, ⟨(some 15), none, (.faddr 0 (.t 14))⟩, ⟨(some 16), none, (.load false 1 (.t 15))⟩, ⟨(some 17), none, (.mv (.t 1))⟩, ⟨(some 18), none, (.bin .neq false (.t 16) (.t 17))⟩]) (.cond (.t 18) (.seq (.reg [⟨(some 4), none, (.mv (.c (.int .i64 (-(0 + 1)))))⟩]) .ret) .skip)) (.seq (.reg [⟨(some 19), none, (.mv (.t 1))⟩, ⟨(some 20), none, (.bin .add false (.t 19) (.c (.int .i64 1)))⟩, ⟨(some 1), none, (.mv (.t 20))⟩]) (.seq (.seq (.dreg [[], [], [0, 1], [2, 0, 1], [3, 2, 0, 1], [4, 3, 2, 0, 1], [], [6], [5, 4, 3, 2, 0, 1, 7, 6]] [⟨(some 21), none, (.mv (.t 0))⟩, ⟨(some 22), none, (.mv (.t 5))⟩, ⟨(some 23), none, (.iaddr 5 (.t 21) (.t 22))⟩, ⟨(some 24), none, (.faddr 1 (.t 23))⟩, ⟨(some 25), none, (.faddr 0 (.t 24))⟩, ⟨(some 26), none, (.load false 1 (.t 25))⟩, ⟨(some 27), none, (.mv (.t 1))⟩, ⟨(some 28), none, (.call 99 [(.t 27)])⟩, ⟨(some 29), none, (.bin .neq false (.t 26) (.t 28))⟩]) (.cond (.t 29) (.seq (.reg [⟨(some 4), none, (.mv (.c (.int .i64 (-(0 + 1)))))⟩]) .ret) .skip)) (.seq (.reg [⟨(some 30), none, (.mv (.t 1))⟩, ⟨(some 31), none, (.bin .add false (.t 30) (.c (.int .i64 1)))⟩, ⟨(some 1), none, (.mv (.t 31))⟩]) (.seq (.reg [⟨(some 32), none, (.mv (.t 0))⟩, ⟨(some 33), none, (.mv (.t 5))⟩, ⟨(some 34), none, (.iaddr 5 (.t 32) (.t 33))⟩, ⟨(some 35), none, (.faddr 1 (.t 34))⟩, ⟨(some 36), none, (.faddr 1 (.t 35))⟩, ⟨(some 37), none, (.load false 1 (.t 36))⟩, ⟨(some 38), none, (.mv (.t 1))⟩, ⟨(some 39), none, (.call 52 [(.t 37), (.t 38)])⟩, ⟨(some 1), none, (.mv (.t 39))⟩]) (.seq (.seq (.reg [⟨(some 40), none, (.mv (.t 1))⟩, ⟨(some 41), none, (.bin .lss false (.t 40) (.c (.int .i64 0)))⟩]) (.cond (.t 41) (.seq (.reg [⟨(some 4), none, (.mv (.c (.int .i64 (-(0 + 1)))))⟩]) .ret) .skip)) (.seq (.seq (.dreg [[], [], [0, 1], [2, 0, 1], [3, 2, 0, 1], [], [5], [4, 3, 2, 0, 1, 6, 5]] [⟨(some 42), none, (.mv (.t 0))⟩, ⟨(some 43), none, (.mv (.t 5))⟩, ⟨(some 44), none, (.iaddr 5 (.t 42) (.t 43))⟩, ⟨(some 45), none, (.faddr 3 (.t 44))⟩, ⟨(some 46), none, (.load false 1 (.t 45))⟩, ⟨(some 47), none, (.mv (.t 1))⟩, ⟨(some 48), none, (.call 99 [(.t 47)])⟩, ⟨(some 49), none, (.bin .neq false (.t 46) (.t 48))⟩]) (.cond (.t 49) (.seq (.reg [⟨(some 4), none, (.mv (.c (.int .i64 (-(0 + 1)))))⟩]) .ret) .skip)) (.seq (.reg [⟨(some 50), none, (.mv (.t 1))⟩, ⟨(some 51), none, (.bin .add false (.t 50) (.c (.int .i64 1)))⟩, ⟨(some 1), none, (.mv (.t 51))⟩]) (.seq (.reg [⟨(some 52), none, (.mv (.t 0))⟩, ⟨(some 53), none, (.mv (.t 5))⟩, ⟨(some 54), none, (.iaddr 5 (.t 52) (.t 53))⟩, ⟨(some 55), none, (.faddr 4 (.t 54))⟩, ⟨(some 56), none, (.load false 1 (.t 55))⟩, ⟨(some 57), none, (.mv (.t 1))⟩, ⟨(some 58), none, (.call 69 [(.t 56), (.t 57)])⟩, ⟨(some 1), none, (.mv (.t 58))⟩]) (.seq (.reg [⟨(some 59), none, (.mv (.t 1))⟩, ⟨(some 60), none, (.bin .lss false (.t 59) (.c (.int .i64 0)))⟩]) (.cond (.t 60) (.seq (.reg [⟨(some 4), none, (.mv (.c (.int .i64 (-(0 + 1)))))⟩]) .ret) .skip)))))))))))) (.reg [⟨(some 10), none, (.mv (.t 5))⟩, ⟨(some 11), none, (.bin .add false (.t 10) (.c (.int .i64 1)))⟩, ⟨(some 5), none, (.mv (.t 11))⟩])))))) (.seq (.reg [⟨(some 61), none, (.mv (.t 1))⟩, ⟨(some 4), none, (.mv (.t 61))⟩]) .ret)))
theorem k_laws_heldFormulaS : codeOf Try.prog 69 = some ⟨62, c_laws_heldFormulaS, [(.tmp 4)]⟩ := by kernel_rfl
theorem m_laws_heldFormulaS : modes 69 = ⟨[], .asis, none, false⟩ := by unfold modes; rfl
theorem Fm.mkS_len : ∀ (xs : List Fm) (k : Int), (Fm.mkS xs k).1.length = xs.length
  | [], k => by rw [Fm.mkS]
  | x :: xs, k => by rw [Fm.mkS]; simp only [List.length_cons]; rw [Fm.mkS_len xs]
abbrev HeldTS_Formula (xs : List Fm) : Prop := ∀ k : Int, 1 ≤ k → k + Fm.wtS xs ≤ 1099511627776 → E 69 [.arr ((Fm.mkS xs k).1.map Fm.d), .int .i64 k] [] = some (.int .i64 (Fm.mkS xs k).2, [])
set_option maxHeartbeats 2000000 in
theorem heldTS_Formula_of (xs : List Fm) (ih : ∀ x ∈ xs, HeldTS_Formula x.parts) : HeldTS_Formula xs := by
  intro k0 h1 h2
  obtain ⟨ys, hys⟩ : ∃ ys, ys = (Fm.mkS xs k0).1 := ⟨_, rfl⟩
  have hyl : ys.length = xs.length := by rw [hys, Fm.mkS_len]
  rw [← hys]
  have hL := Fm.length_wt xs
  refine E_walk k_laws_heldFormulaS m_laws_heldFormulaS (of_decide_eq_true rfl) ?_
  simp (disch := omega) only [c_laws_heldFormulaS, go_sem, Nat.reduceAdd, Nat.reduceSub, Nat.reduceLT, Nat.reduceLeDiff, Nat.reduceEqDiff, Nat.reduceBEq, Nat.reduceBneDiff, Nat.reduceMul, ↓reduceIte, Int.reduceToNat, reduceCtorEq, Int.reduceNeg, Int.reduceAdd]
  refine go_loop (α := Int × (Int)) (fun a => ⟨slots 62 0 [(0, .arr (ys.map Fm.d)), (1, .int .i64 (a.2)), (5, .int .i64 (a.1))], []⟩) (fun a => ∃ k : Nat, a.1 = k ∧ k ≤ (ys).length ∧ 1 ≤ (a.2) ∧ (a.2) + Fm.wtS (xs.drop k) = k0 + Fm.wtS xs ∧ ys.drop k = (Fm.mkS (xs.drop k) (a.2)).1 ∧ (Fm.mkS xs k0).2 = (Fm.mkS (xs.drop k) (a.2)).2) (fun a => (ys).length - (a.1).toNat) (0, k0) ⟨0, rfl, Nat.zero_le _, h1, by rw [List.drop_zero], by rw [List.drop_zero, List.drop_zero, hys], by rw [List.drop_zero]⟩ (by simp (disch := omega) only [go_sem, Nat.reduceAdd, Nat.reduceSub, Nat.reduceLT, Nat.reduceLeDiff, Nat.reduceEqDiff, Nat.reduceBEq, Nat.reduceBneDiff, Nat.reduceMul, ↓reduceIte, Int.reduceToNat, reduceCtorEq, Int.reduceNeg, Int.reduceAdd]) ?_
  rintro ⟨i, kk⟩ ⟨k, hi, hk, hR⟩
  dsimp only at hi hR
  have hni : i.toNat = k := by omega
  have hni1 : (i + 1).toNat = k + 1 := by omega
  rcases Nat.lt_or_ge k (ys).length with hlt | hge
  · obtain ⟨hk1, hkn, hy, hm⟩ := hR
    have hlx : k < xs.length := by omega
    have hdr : xs.drop k = xs[k] :: xs.drop (k + 1) := List.drop_eq_getElem_cons hlx
    have hdy := List.drop_eq_getElem_cons hlt
    rw [hdr, Fm.wtS] at hkn
    rw [hdr, Fm.mkS] at hm
    rw [hdr, Fm.mkS, hdy] at hy
    dsimp only at hy hm
    obtain ⟨hy1, hy2⟩ := List.cons.inj hy
    have hg := get_at Fm.d hlt
    rw [hy1, Fm.mk1_d] at hg
    have hn1 := Fm.wt_eq xs[k]
    have e2 := Tm.mkS_end xs[k].atom.args ((kk + 1 + 1))
    have e4 := Fm.mkS_end xs[k].parts (((Tm.mkS xs[k].atom.args (kk + 1 + 1)).2 + 1))
    have t0 := markText_E (k := (kk + 1)) (by omega) (by omega)
    have c64 := heldTS_Term xs[k].atom.args ((kk + 1 + 1)) (by omega) (by omega)
    have t145 := markText_E (k := (Tm.mkS xs[k].atom.args (kk + 1 + 1)).2) (by omega) (by omega)
    have c242 := ih xs[k] (List.getElem_mem hlx) (((Tm.mkS xs[k].atom.args (kk + 1 + 1)).2 + 1)) (by omega) (by omega)
    have he := Fm.mk1_end xs[k] kk
    simp (disch := omega) only [go_sem, Nat.reduceAdd, Nat.reduceSub, Nat.reduceLT, Nat.reduceLeDiff, Nat.reduceEqDiff, Nat.reduceBEq, Nat.reduceBneDiff, Nat.reduceMul, ↓reduceIte, Int.reduceToNat, reduceCtorEq, Int.reduceNeg, Int.reduceAdd, hni, hg, m_laws_markText, dec_refl, t0, c64, m_laws_heldTermS, t145, c242, m_laws_heldFormulaS]
    refine ⟨(i + 1, (xs[k].mk1 kk).2), ⟨k + 1, by dsimp only; omega, hlt, by dsimp only; omega, by dsimp only; omega, hy2, hm⟩, by dsimp only; omega, ?_⟩
    dsimp only
    rw [Fm.mk1_eq]
    simp only [and_self, and_true, true_and]
    try omega
  · obtain ⟨hk1, hkn, hy, hm⟩ := hR
    have hdr : xs.drop k = [] := List.drop_eq_nil_of_le (by omega)
    rw [hdr, Fm.mkS] at hm
    rw [hm]
    simp (disch := omega) only [go_sem, Nat.reduceAdd, Nat.reduceSub, Nat.reduceLT, Nat.reduceLeDiff, Nat.reduceEqDiff, Nat.reduceBEq, Nat.reduceBneDiff, Nat.reduceMul, ↓reduceIte, Int.reduceToNat, reduceCtorEq, Int.reduceNeg, Int.reduceAdd, hni]
theorem heldTS1_Formula (x : Fm) : HeldTS_Formula x.parts := heldTS_Formula_of x.parts fun y hy => heldTS1_Formula y
termination_by SizeOf.sizeOf x
decreasing_by exact Fm.lt_of_mem hy
theorem heldTS_Formula (xs : List Fm) : HeldTS_Formula xs := heldTS_Formula_of xs fun y _ => heldTS1_Formula y
end Go.Proofs.Ytjafnijgkjjadab

set_option maxRecDepth 100000
set_option linter.unusedSimpArgs false
set_option linter.unusedVariables false
namespace Go.Proofs.Ytjafnijgkjjadab
open Go.RowKit

theorem toTree1 {o : Ob} {es : List (List OT)} (h : toTree [o] = [.tree es []]) : (∃ a b, o = .row a b es) ∨ o = .tree es [] := by
  cases o with
  | row a b e => obtain ⟨h1, h2⟩ := List.cons.inj h; cases h1; exact .inl ⟨a, b, rfl⟩
  | tree e hs => obtain ⟨h1, h2⟩ := List.cons.inj h; cases h1; exact .inr rfl
  | _ => simp [toTree] at h

noncomputable def Tm.mkr (x : Tm) (k : Int) : Tm × Int := ((Tm.mk (x.name) ((Tm.mkS x.args k).1)), (Tm.mkS x.args k).2)
def c_laws_markTerm : SC := (.seq (.reg [⟨(some 2), none, (.boxv 24 2 (.t 0))⟩, ⟨(some 4), none, (.mv (.c (.int .i64 0)))⟩]) (.seq (.reg [⟨(some 5), none, (.faddr 1 (.t 2))⟩, ⟨(some 6), none, (.load false 1 (.t 5))⟩, ⟨(some 7), none, (.mv (.t 1))⟩, ⟨(some 8), none, (.call 51 [(.t 6), (.t 7)])⟩, ⟨(some 1), none, (.mv (.t 8))⟩]) (.seq (.reg [⟨(some 9), none, (.mv (.t 1))⟩, ⟨(some 4), none, (.mv (.t 9))⟩]) .ret)))
theorem k_laws_markTerm : codeOf Try.prog 12 = some ⟨10, c_laws_markTerm, [(.tmp 4)]⟩ := by kernel_rfl
theorem m_laws_markTerm : modes 12 = ⟨[true], .asis, none, false⟩ := by unfold modes; rfl
set_option maxHeartbeats 1000000 in
theorem markT_Term (x : Tm) (k : Int) (o0 : Ob) (h1 : 1 ≤ k) (h2 : k + (Tm.wtS x.args : Nat) ≤ 1099511627776) (t0 : toTree [o0] = [.tree (x.args.map Tm.o) []]) : E 12 [.agg [.str x.name, .ref 0], .int .i64 k] [o0] = some (.int .i64 (x.mkr k).2, [.tree ((Tm.mkS x.args k).1.map Tm.o) []]) := by
  have e0 := Tm.mkS_end x.args k
  rw [Tm.mkr]
  dsimp only
  have c0 := markTS_Term x.args k [o0] (by omega) (by omega) t0
  rcases toTree1 t0 with ⟨a0, b0, rfl⟩ | rfl <;>
   (
    refine E_walk k_laws_markTerm m_laws_markTerm (of_decide_eq_true rfl) ?_
    simp (disch := omega) only [c_laws_markTerm, go_sem, Nat.reduceAdd, Nat.reduceSub, Nat.reduceLT, Nat.reduceLeDiff, Nat.reduceEqDiff, Nat.reduceBEq, Nat.reduceBneDiff, Nat.reduceMul, ↓reduceIte, Int.reduceToNat, reduceCtorEq, Int.reduceNeg, Int.reduceAdd, c0, m_laws_markTermS])
def c_laws_heldTerm : SC := (.seq (.reg [⟨(some 2), none, (.boxv 24 2 (.t 0))⟩, ⟨(some 4), none, (.mv (.c (.int .i64 0)))⟩]) (.seq (.reg [⟨(some 5), none, (.faddr 1 (.t 2))⟩, ⟨(some 6), none, (.load false 1 (.t 5))⟩, ⟨(some 7), none, (.mv (.t 1))⟩, ⟨(some 8), none, (.call 52 [(.t 6), (.t 7)])⟩, ⟨(some 1), none, (.mv (.t 8))⟩]) (.seq (.seq (.reg [⟨(some 9), none, (.mv (.t 1))⟩, ⟨(some 10), none, (.bin .lss false (.t 9) (.c (.int .i64 0)))⟩]) (.cond (.t 10) (.seq (.reg [⟨(some 4), none, (.mv (.c (.int .i64 (-(0 + 1)))))⟩]) .ret) .skip)) (.seq (.reg [⟨(some 11), none, (.mv (.t 1))⟩, ⟨(some 4), none, (.mv (.t 11))⟩]) .ret))))
theorem k_laws_heldTerm : codeOf Try.prog 13 = some ⟨12, c_laws_heldTerm, [(.tmp 4)]⟩ := by kernel_rfl
theorem m_laws_heldTerm : modes 13 = ⟨[], .asis, none, false⟩ := by unfold modes; rfl
set_option maxHeartbeats 1000000 in
theorem heldT_Term (x : Tm) (k : Int) (h1 : 1 ≤ k) (h2 : k + (Tm.wtS x.args : Nat) ≤ 1099511627776) : E 13 [.agg [.str x.name, .arr ((Tm.mkS x.args k).1.map Tm.d)], .int .i64 k] [] = some (.int .i64 (x.mkr k).2, []) := by
  have e0 := Tm.mkS_end x.args k
  rw [Tm.mkr]
  dsimp only
  have p0 : (Tm.mk (x.name) ((Tm.mkS x.args k).1)).name = x.name := rfl
  have p1 : (Tm.mk (x.name) ((Tm.mkS x.args k).1)).args = (Tm.mkS x.args k).1 := rfl
  have c0 := heldTS_Term x.args k (by omega) (by omega)
  refine E_walk k_laws_heldTerm m_laws_heldTerm (of_decide_eq_true rfl) ?_
  simp (disch := omega) only [c_laws_heldTerm, go_sem, Nat.reduceAdd, Nat.reduceSub, Nat.reduceLT, Nat.reduceLeDiff, Nat.reduceEqDiff, Nat.reduceBEq, Nat.reduceBneDiff, Nat.reduceMul, ↓reduceIte, Int.reduceToNat, reduceCtorEq, Int.reduceNeg, Int.reduceAdd, c0, m_laws_heldTermS, p0, p1]
noncomputable def Lt.mkr (x : Lt) (k : Int) : Lt × Int := ((Lt.mk (x.pos) (Tm.mk (x.atom.name) ((Tm.mkS x.atom.args k).1))), (Tm.mkS x.atom.args k).2)
def c_laws_markLiteral : SC := (.seq (.reg [⟨(some 2), none, (.boxv 31 3 (.t 0))⟩, ⟨(some 4), none, (.mv (.c (.int .i64 0)))⟩]) (.seq (.reg [⟨(some 5), none, (.faddr 1 (.t 2))⟩, ⟨(some 6), none, (.load true 2 (.t 5))⟩, ⟨(some 7), none, (.mv (.t 1))⟩, ⟨(some 8), none, (.call 12 [(.t 6), (.t 7)])⟩, ⟨(some 1), none, (.mv (.t 8))⟩]) (.seq (.reg [⟨(some 9), none, (.mv (.t 1))⟩, ⟨(some 4), none, (.mv (.t 9))⟩]) .ret)))
theorem k_laws_markLiteral : codeOf Try.prog 19 = some ⟨10, c_laws_markLiteral, [(.tmp 4)]⟩ := by kernel_rfl
theorem m_laws_markLiteral : modes 19 = ⟨[true], .asis, none, false⟩ := by unfold modes; rfl
set_option maxHeartbeats 1000000 in
theorem markT_Literal (x : Lt) (k : Int) (o0 : Ob) (h1 : 1 ≤ k) (h2 : k + (Tm.wtS x.atom.args : Nat) ≤ 1099511627776) (t0 : toTree [o0] = [.tree (x.atom.args.map Tm.o) []]) : E 19 [.agg [.bool x.pos, .str x.atom.name, .ref 0], .int .i64 k] [o0] = some (.int .i64 (x.mkr k).2, [.tree ((Tm.mkS x.atom.args k).1.map Tm.o) []]) := by
  have e0 := Tm.mkS_end x.atom.args k
  rw [Lt.mkr]
  dsimp only
  have c0 := markT_Term x.atom k o0 (by omega) (by omega) t0
  rw [Tm.mkr] at c0
  dsimp only at c0
  rcases toTree1 t0 with ⟨a0, b0, rfl⟩ | rfl <;>
   (
    refine E_walk k_laws_markLiteral m_laws_markLiteral (of_decide_eq_true rfl) ?_
    simp (disch := omega) only [c_laws_markLiteral, go_sem, Nat.reduceAdd, Nat.reduceSub, Nat.reduceLT, Nat.reduceLeDiff, Nat.reduceEqDiff, Nat.reduceBEq, Nat.reduceBneDiff, Nat.reduceMul, ↓reduceIte, Int.reduceToNat, reduceCtorEq, Int.reduceNeg, Int.reduceAdd, c0, m_laws_markTerm])
def c_laws_heldLiteral : SC := (.seq (.reg [⟨(some 2), none, (.boxv 31 3 (.t 0))⟩, ⟨(some 4), none, (.mv (.c (.int .i64 0)))⟩]) (.seq (.reg [⟨(some 5), none, (.faddr 1 (.t 2))⟩, ⟨(some 6), none, (.load true 2 (.t 5))⟩, ⟨(some 7), none, (.mv (.t 1))⟩, ⟨(some 8), none, (.call 13 [(.t 6), (.t 7)])⟩, ⟨(some 1), none, (.mv (.t 8))⟩]) (.seq (.seq (.reg [⟨(some 9), none, (.mv (.t 1))⟩, ⟨(some 10), none, (.bin .lss false (.t 9) (.c (.int .i64 0)))⟩]) (.cond (.t 10) (.seq (.reg [⟨(some 4), none, (.mv (.c (.int .i64 (-(0 + 1)))))⟩]) .ret) .skip)) (.seq (.reg [⟨(some 11), none, (.mv (.t 1))⟩, ⟨(some 4), none, (.mv (.t 11))⟩]) .ret))))
theorem k_laws_heldLiteral : codeOf Try.prog 20 = some ⟨12, c_laws_heldLiteral, [(.tmp 4)]⟩ := by kernel_rfl
theorem m_laws_heldLiteral : modes 20 = ⟨[], .asis, none, false⟩ := by unfold modes; rfl
set_option maxHeartbeats 1000000 in
theorem heldT_Literal (x : Lt) (k : Int) (h1 : 1 ≤ k) (h2 : k + (Tm.wtS x.atom.args : Nat) ≤ 1099511627776) : E 20 [.agg [.bool x.pos, .str x.atom.name, .arr ((Tm.mkS x.atom.args k).1.map Tm.d)], .int .i64 k] [] = some (.int .i64 (x.mkr k).2, []) := by
  have e0 := Tm.mkS_end x.atom.args k
  rw [Lt.mkr]
  dsimp only
  have p0 : (Tm.mk (x.atom.name) ((Tm.mkS x.atom.args k).1)).name = x.atom.name := rfl
  have p1 : (Tm.mk (x.atom.name) ((Tm.mkS x.atom.args k).1)).args = (Tm.mkS x.atom.args k).1 := rfl
  have c0 := heldT_Term x.atom k (by omega) (by omega)
  rw [Tm.mkr] at c0
  dsimp only at c0
  refine E_walk k_laws_heldLiteral m_laws_heldLiteral (of_decide_eq_true rfl) ?_
  simp (disch := omega) only [c_laws_heldLiteral, go_sem, Nat.reduceAdd, Nat.reduceSub, Nat.reduceLT, Nat.reduceLeDiff, Nat.reduceEqDiff, Nat.reduceBEq, Nat.reduceBneDiff, Nat.reduceMul, ↓reduceIte, Int.reduceToNat, reduceCtorEq, Int.reduceNeg, Int.reduceAdd, c0, m_laws_heldTerm, p0, p1]
noncomputable def Fm.mkr (x : Fm) (k : Int) : Fm × Int := ((Fm.mk (x.op) (Tm.mk (x.atom.name) ((Tm.mkS x.atom.args k).1)) (x.var) ((Fm.mkS x.parts (Tm.mkS x.atom.args k).2).1)), (Fm.mkS x.parts (Tm.mkS x.atom.args k).2).2)
def c_laws_markFormula : SC := (.seq (.reg [⟨(some 2), none, (.boxv 45 5 (.t 0))⟩, ⟨(some 4), none, (.mv (.c (.int .i64 0)))⟩]) (.seq (.reg [⟨(some 5), none, (.faddr 1 (.t 2))⟩, ⟨(some 6), none, (.load true 2 (.t 5))⟩, ⟨(some 7), none, (.mv (.t 1))⟩, ⟨(some 8), none, (.call 12 [(.t 6), (.t 7)])⟩, ⟨(some 1), none, (.mv (.t 8))⟩]) (.seq (.reg [⟨(some 9), none, (.faddr 4 (.t 2))⟩, ⟨(some 10), none, (.load false 1 (.t 9))⟩, ⟨(some 11), none, (.mv (.t 1))⟩, ⟨(some 12), none, (.call 68 [(.t 10), (.t 11)])⟩, ⟨(some 1), none, (.mv (.t 12))⟩]) (.seq (.reg [⟨(some 13), none, (.mv (.t 1))⟩, ⟨(some 4), none, (.mv (.t 13))⟩]) .ret))))
theorem k_laws_markFormula : codeOf Try.prog 26 = some ⟨14, c_laws_markFormula, [(.tmp 4)]⟩ := by kernel_rfl
theorem m_laws_markFormula : modes 26 = ⟨[true], .asis, none, false⟩ := by unfold modes; rfl
set_option maxHeartbeats 1000000 in
theorem markT_Formula (x : Fm) (k : Int) (o0 o1 : Ob) (h1 : 1 ≤ k) (h2 : k + (Tm.wtS x.atom.args + Fm.wtS x.parts : Nat) ≤ 1099511627776) (t0 : toTree [o0] = [.tree (x.atom.args.map Tm.o) []]) (t1 : toTree [o1] = [.tree (x.parts.map Fm.o) []]) : E 26 [.agg [.int .i64 x.op, .str x.atom.name, .ref 0, .str x.var, .ref 1], .int .i64 k] [o0, o1] = some (.int .i64 (x.mkr k).2, [.tree ((Tm.mkS x.atom.args k).1.map Tm.o) [], .tree ((Fm.mkS x.parts (Tm.mkS x.atom.args k).2).1.map Fm.o) []]) := by
  have e0 := Tm.mkS_end x.atom.args k
  have e1 := Fm.mkS_end x.parts (Tm.mkS x.atom.args k).2
  rw [Fm.mkr]
  dsimp only
  have c0 := markT_Term x.atom k o0 (by omega) (by omega) t0
  rw [Tm.mkr] at c0
  dsimp only at c0
  have c1 := markTS_Formula x.parts (Tm.mkS x.atom.args k).2 [o1] (by omega) (by omega) t1
  rcases toTree1 t0 with ⟨a0, b0, rfl⟩ | rfl <;>
  rcases toTree1 t1 with ⟨a1, b1, rfl⟩ | rfl <;>
   (
    refine E_walk k_laws_markFormula m_laws_markFormula (of_decide_eq_true rfl) ?_
    simp (disch := omega) only [c_laws_markFormula, go_sem, Nat.reduceAdd, Nat.reduceSub, Nat.reduceLT, Nat.reduceLeDiff, Nat.reduceEqDiff, Nat.reduceBEq, Nat.reduceBneDiff, Nat.reduceMul, ↓reduceIte, Int.reduceToNat, reduceCtorEq, Int.reduceNeg, Int.reduceAdd, c0, m_laws_markTerm, c1, m_laws_markFormulaS])
def c_laws_heldFormula : SC := (.seq (.reg [⟨(some 2), none, (.boxv 45 5 (.t 0))⟩, ⟨(some 4), none, (.mv (.c (.int .i64 0)))⟩]) (.seq (.reg [⟨(some 5), none, (.faddr 1 (.t 2))⟩, ⟨(some 6), none, (.load true 2 (.t 5))⟩, ⟨(some 7), none, (.mv (.t 1))⟩, ⟨(some 8), none, (.call 13 [(.t 6), (.t 7)])⟩, ⟨(some 1), none, (.mv (.t 8))⟩]) (.seq (.seq (.reg [⟨(some 9), none, (.mv (.t 1))⟩, ⟨(some 10), none, (.bin .lss false (.t 9) (.c (.int .i64 0)))⟩]) (.cond (.t 10) (.seq (.reg [⟨(some 4), none, (.mv (.c (.int .i64 (-(0 + 1)))))⟩]) .ret) .skip)) (.seq (.reg [⟨(some 11), none, (.faddr 4 (.t 2))⟩, ⟨(some 12), none, (.load false 1 (.t 11))⟩, ⟨(some 13), none, (.mv (.t 1))⟩, ⟨(some 14), none, (.call 69 [(.t 12), (.t 13)])⟩, ⟨(some 1), none, (.mv (.t 14))⟩]) (.seq (.seq (.reg [⟨(some 15), none, (.mv (.t 1))⟩, ⟨(some 16), none, (.bin .lss false (.t 15) (.c (.int .i64 0)))⟩]) (.cond (.t 16) (.seq (.reg [⟨(some 4), none, (.mv (.c (.int .i64 (-(0 + 1)))))⟩]) .ret) .skip)) (.seq (.reg [⟨(some 17), none, (.mv (.t 1))⟩, ⟨(some 4), none, (.mv (.t 17))⟩]) .ret))))))
theorem k_laws_heldFormula : codeOf Try.prog 27 = some ⟨18, c_laws_heldFormula, [(.tmp 4)]⟩ := by kernel_rfl
theorem m_laws_heldFormula : modes 27 = ⟨[], .asis, none, false⟩ := by unfold modes; rfl
set_option maxHeartbeats 1000000 in
theorem heldT_Formula (x : Fm) (k : Int) (h1 : 1 ≤ k) (h2 : k + (Tm.wtS x.atom.args + Fm.wtS x.parts : Nat) ≤ 1099511627776) : E 27 [.agg [.int .i64 x.op, .str x.atom.name, .arr ((Tm.mkS x.atom.args k).1.map Tm.d), .str x.var, .arr ((Fm.mkS x.parts (Tm.mkS x.atom.args k).2).1.map Fm.d)], .int .i64 k] [] = some (.int .i64 (x.mkr k).2, []) := by
  have e0 := Tm.mkS_end x.atom.args k
  have e1 := Fm.mkS_end x.parts (Tm.mkS x.atom.args k).2
  rw [Fm.mkr]
  dsimp only
  have p0 : (Fm.mk (x.op) (Tm.mk (x.atom.name) ((Tm.mkS x.atom.args k).1)) (x.var) ((Fm.mkS x.parts (Tm.mkS x.atom.args k).2).1)).op = x.op := rfl
  have p1 : (Fm.mk (x.op) (Tm.mk (x.atom.name) ((Tm.mkS x.atom.args k).1)) (x.var) ((Fm.mkS x.parts (Tm.mkS x.atom.args k).2).1)).atom = (Tm.mk (x.atom.name) ((Tm.mkS x.atom.args k).1)) := rfl
  have p2 : (Tm.mk (x.atom.name) ((Tm.mkS x.atom.args k).1)).name = x.atom.name := rfl
  have p3 : (Tm.mk (x.atom.name) ((Tm.mkS x.atom.args k).1)).args = (Tm.mkS x.atom.args k).1 := rfl
  have p4 : (Fm.mk (x.op) (Tm.mk (x.atom.name) ((Tm.mkS x.atom.args k).1)) (x.var) ((Fm.mkS x.parts (Tm.mkS x.atom.args k).2).1)).var = x.var := rfl
  have p5 : (Fm.mk (x.op) (Tm.mk (x.atom.name) ((Tm.mkS x.atom.args k).1)) (x.var) ((Fm.mkS x.parts (Tm.mkS x.atom.args k).2).1)).parts = (Fm.mkS x.parts (Tm.mkS x.atom.args k).2).1 := rfl
  have c0 := heldT_Term x.atom k (by omega) (by omega)
  rw [Tm.mkr] at c0
  dsimp only at c0
  have c1 := heldTS_Formula x.parts (Tm.mkS x.atom.args k).2 (by omega) (by omega)
  refine E_walk k_laws_heldFormula m_laws_heldFormula (of_decide_eq_true rfl) ?_
  simp (disch := omega) only [c_laws_heldFormula, go_sem, Nat.reduceAdd, Nat.reduceSub, Nat.reduceLT, Nat.reduceLeDiff, Nat.reduceEqDiff, Nat.reduceBEq, Nat.reduceBneDiff, Nat.reduceMul, ↓reduceIte, Int.reduceToNat, reduceCtorEq, Int.reduceNeg, Int.reduceAdd, c0, m_laws_heldTerm, c1, m_laws_heldFormulaS, p0, p1, p2, p3, p4, p5]
end Go.Proofs.Ytjafnijgkjjadab
