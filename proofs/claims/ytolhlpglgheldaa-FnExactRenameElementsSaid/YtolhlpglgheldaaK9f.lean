/-
  This text tells what renaming the elements of an interpretation answers in the reference. No condition.
-/
import Derived.Test.YtolhlpglgheldaaK9e
open Nat renaming reduceAdd → zA, reduceSub → zB, reduceLT → zC, reduceLeDiff → zD, reduceEqDiff → zE, reduceBEq → zF, reduceBneDiff → zG, reduceMul → zH
open Int renaming reduceToNat → zI, reduceNeg → zJ, reduceAdd → zK
set_option maxRecDepth 100000
set_option linter.unusedSimpArgs false
set_option linter.unusedVariables false
namespace Go.Proofs.Ytolhlpglgheldaa
open Go.RowKit
def c_spec_l1Has : SC := (.seq (.reg [⟨some 4, none, .mv (.c (.bool false))⟩]) (.seq (.seq (.reg [⟨some 5, none, .mv (.c (.int .i64 0))⟩]) (.block 0 (.loop [1, 1, 0, 0, 0, 1, 0, 0, 0, 0, 0, 0, 0, 0, 0, 0, 0, 0] (.seq (.seq (.reg [⟨some 6, none, .mv (.t 5)⟩, ⟨some 7, none, .mv (.t 0)⟩, ⟨some 8, none, .len false (.t 7)⟩, ⟨some 9, none, .bin .lss false (.t 6) (.t 8)⟩]) (.cond (.t 9) .skip (.exit 0))) (.seq (.block 1 (.seq (.reg [⟨some 12, none, .mv (.t 0)⟩, ⟨some 13, none, .mv (.t 5)⟩, ⟨some 14, none, .iaddr 1 (.t 12) (.t 13)⟩, ⟨some 15, none, .load false 1 (.t 14)⟩, ⟨some 16, none, .mv (.t 1)⟩, ⟨some 17, none, .bin .eql false (.t 15) (.t 16)⟩]) (.cond (.t 17) (.seq (.reg [⟨some 4, none, .mv (.c (.bool true))⟩]) .ret) .skip))) (.reg [⟨some 10, none, .mv (.t 5)⟩, ⟨some 11, none, .bin .add false (.t 10) (.c (.int .i64 1))⟩, ⟨some 5, none, .mv (.t 11)⟩])))))) (.seq (.reg [⟨some 4, none, .mv (.c (.bool false))⟩]) .ret)))
theorem k_spec_l1Has : codeOf Try.prog 46 = some ⟨18, c_spec_l1Has, [(.tmp 4)]⟩ := by kernel_rfl
theorem m_spec_l1Has : modes 46 = ⟨[], .asis, none, false⟩ := by unfold modes; rfl
def c_spec_RenameElements : SC := (.seq (.reg [⟨some 2, none, .boxv 40 2 (.t 0)⟩, ⟨some 4, none, .alloc 40 [(.int .i64 0), .nil]⟩, ⟨some 5, none, .mv (.c (.bool false))⟩]) (.seq (.seq (.reg [⟨some 18, none, .load true 2 (.t 2)⟩, ⟨some 19, none, .call 44 [(.t 18)]⟩, ⟨some 20, none, .un .not (.t 19)⟩, ⟨some 21, none, .mv (.t 20)⟩, ⟨(some 22), (some (21, false)), (.mv (.t 1))⟩, ⟨(some 23), (some (21, false)), (.len false (.t 22))⟩, ⟨(some 24), (some (21, false)), (.faddr 0 (.t 2))⟩, ⟨(some 25), (some (21, false)), (.load false 1 (.t 24))⟩, ⟨(some 26), (some (21, false)), (.bin .neq false (.t 23) (.t 25))⟩, ⟨some 27, none, .pick (.t 21) (.c (.bool true)) (.t 26)⟩]) (.cond (.t 27) (.seq (.reg [⟨some 28, none, .build [(.int .i64 0), .nil] []⟩, ⟨none, none, (.store 2 (.t 4) (.t 28))⟩, ⟨some 5, none, .mv (.c (.bool false))⟩]) .ret) .skip)) (.seq (.reg [⟨some 29, none, .faddr 0 (.t 2)⟩, ⟨some 30, none, .load false 1 (.t 29)⟩, ⟨some 31, none, .mkslice 3 1 8 [(.int .i64 0)] (.t 30)⟩, ⟨some 6, none, .mv (.t 31)⟩]) (.seq (.seq (.reg [⟨some 7, none, .mv (.c (.int .i64 0))⟩]) (.block 0 (.loop [0, 1, 1, 0, 1, 0, 1, 1, 0, 0, 0, 0, 0, 0, 0, 0, 0, 0, 0, 0, 0, 0, 0, 0, 0, 0, 0, 0, 0, 0, 0, 0, 0, 0, 0, 0, 0, 0, 0, 0, 0, 0, 0, 0, 0, 0, 0, 0, 0, 0, 0, 0, 0, 0, 0, 0, 0, 0, 0, 0, 0, 0, 0, 0, 0, 0, 0, 0, 0, 0, 0, 0, 0, 0, 0, 0, 0, 0, 0, 0, 0, 0, 0, 0, 0, 0, 0, 0, 0, 0, 0, 0, 0, 0, 0, 0, 0, 0, 0, 0, 0, 0, 0, 0, 0, 0, 0, 0, 0, 0, 0, 0, 0, 0, 0, 0, 0, 0, 0, 0, 0, 0, 0, 0, 0, 0, 0, 0, 0, 0, 0, 0, 0, 0, 0, 0, 0, 0, 0, 0, 0, 0, 0, 0, 0] (.seq (.seq (.reg [⟨some 32, none, .mv (.t 7)⟩, ⟨some 33, none, .faddr 0 (.t 2)⟩, ⟨some 34, none, .load false 1 (.t 33)⟩, ⟨some 35, none, .bin .lss false (.t 32) (.t 34)⟩]) (.cond (.t 35) .skip (.exit 0))) (.seq (.block 1 (.seq (.seq (.dreg [[], [], [0, 1], [2, 0, 1], [], [4], [5, 4], [3, 2, 0, 1, 6, 5, 4], [7, 3, 2, 0, 1, 6, 5, 4], [8, 7, 3, 2, 0, 1, 6, 5, 4], [9, 8, 7, 3, 2, 0, 1, 6, 5, 4], [9, 8, 7, 3, 2, 0, 1, 6, 5, 4], [10, 9, 8, 7, 3, 2, 0, 1, 6, 5, 4, 11], [9, 8, 7, 3, 2, 0, 1, 6, 5, 4], [9, 8, 7, 3, 2, 0, 1, 6, 5, 4], [13, 9, 8, 7, 3, 2, 0, 1, 6, 5, 4, 14], [15, 13, 9, 8, 7, 3, 2, 0, 1, 6, 5, 4, 14], [12, 10, 9, 8, 7, 3, 2, 0, 1, 6, 5, 4, 11, 16, 15, 13, 14], [9, 8, 7, 3, 2, 0, 1, 6, 5, 4, 17, 12, 10, 11, 16, 15, 13, 14]] [⟨some 38, none, .mv (.t 1)⟩, ⟨some 39, none, .mv (.t 7)⟩, ⟨some 40, none, .iaddr 1 (.t 38) (.t 39)⟩, ⟨some 41, none, .load false 1 (.t 40)⟩, ⟨some 42, none, .faddr 0 (.t 2)⟩, ⟨some 43, none, .load false 1 (.t 42)⟩, ⟨some 44, none, .bin .sub false (.t 43) (.c (.int .i64 1))⟩, ⟨some 45, none, .call 45 [(.t 41), (.c (.int .i64 0)), (.t 44)]⟩, ⟨some 46, none, .un .not (.t 45)⟩, ⟨some 47, none, .mv (.t 46)⟩, ⟨(some 48), (some (47, false)), (.mv (.t 1))⟩, ⟨(some 49), (some (47, false)), (.mv (.t 7))⟩, ⟨(some 50), (some (47, false)), (.slice false 1 (.t 48) none (some (.t 49)))⟩, ⟨(some 51), (some (47, false)), (.mv (.t 1))⟩, ⟨(some 52), (some (47, false)), (.mv (.t 7))⟩, ⟨(some 53), (some (47, false)), (.iaddr 1 (.t 51) (.t 52))⟩, ⟨(some 54), (some (47, false)), (.load false 1 (.t 53))⟩, ⟨(some 55), (some (47, false)), (.call 46 [(.t 50), (.t 54)])⟩, ⟨some 56, none, .pick (.t 47) (.c (.bool true)) (.t 55)⟩]) (.cond (.t 56) (.seq (.reg [⟨some 57, none, .build [(.int .i64 0), .nil] []⟩, ⟨none, none, (.store 2 (.t 4) (.t 57))⟩, ⟨some 5, none, .mv (.c (.bool false))⟩]) .ret) .skip)) (.reg [⟨some 58, none, .mv (.t 6)⟩, ⟨some 59, none, .mv (.t 1)⟩, ⟨some 60, none, .mv (.t 7)⟩, ⟨some 61, none, .iaddr 1 (.t 59) (.t 60)⟩, ⟨some 62, none, .load false 1 (.t 61)⟩, ⟨some 63, none, .mv (.t 7)⟩, ⟨some 64, none, .iaddr 1 (.t 58) (.t 62)⟩, ⟨none, none, (.store 1 (.t 64) (.t 63))⟩]))) (.reg [⟨some 36, none, .mv (.t 7)⟩, ⟨some 37, none, .bin .add false (.t 36) (.c (.int .i64 1))⟩, ⟨some 7, none, .mv (.t 37)⟩])))))) (.seq (.reg [⟨some 65, none, .faddr 0 (.t 2)⟩, ⟨some 66, none, .load false 1 (.t 65)⟩, ⟨some 67, none, .build [(.int .i64 0), .nil] [(0, (1, (.t 66)))]⟩, ⟨some 8, none, .alloc 40 [(.int .i64 0), .nil]⟩, ⟨none, none, (.store 2 (.t 8) (.t 67))⟩]) (.seq (.seq (.reg [⟨some 9, none, .mv (.c (.int .i64 0))⟩]) (.block 2 (.loop [0, 1, 1, 0, 1, 0, 1, 0, 1, 1, 0, 0, 0, 0, 0, 0, 0, 0, 0, 0, 0, 0, 0, 0, 0, 0, 0, 0, 0, 0, 0, 0, 0, 0, 0, 0, 0, 0, 0, 0, 0, 0, 0, 0, 0, 0, 0, 0, 0, 0, 0, 0, 0, 0, 0, 0, 0, 0, 0, 0, 0, 0, 0, 0, 0, 0, 0, 0, 0, 0, 0, 0, 0, 0, 0, 0, 0, 0, 0, 0, 0, 0, 0, 0, 0, 0, 0, 0, 0, 0, 0, 0, 0, 0, 0, 0, 0, 0, 0, 0, 0, 0, 0, 0, 0, 0, 0, 0, 0, 0, 0, 0, 0, 0, 0, 0, 0, 0, 0, 0, 0, 0, 0, 0, 0, 0, 0, 0, 0, 0, 0, 0, 0, 0, 0, 0, 0, 0, 0, 0, 0, 0, 0, 0, 0] (.seq (.seq (.reg [⟨some 68, none, .mv (.t 9)⟩, ⟨some 69, none, .faddr 1 (.t 2)⟩, ⟨some 70, none, .load false 1 (.t 69)⟩, ⟨some 71, none, .len false (.t 70)⟩, ⟨some 72, none, .bin .lss false (.t 68) (.t 71)⟩]) (.cond (.t 72) .skip (.exit 2))) (.seq (.block 3 (.seq (.reg [⟨some 75, none, .faddr 1 (.t 2)⟩, ⟨some 76, none, .load false 1 (.t 75)⟩, ⟨some 77, none, .mv (.t 9)⟩, ⟨some 78, none, .iaddr 4 (.t 76) (.t 77)⟩, ⟨some 79, none, .load true 4 (.t 78)⟩, ⟨(some 10), none, (.alloc 80 [(.str ⟨#[]⟩), (.int .i64 0), (.bool false), .nil])⟩, ⟨none, none, (.store 4 (.t 10) (.t 79))⟩]) (.seq (.reg [⟨some 80, none, .faddr 0 (.t 10)⟩, ⟨some 81, none, .load false 1 (.t 80)⟩, ⟨some 82, none, .faddr 1 (.t 10)⟩, ⟨some 83, none, .load false 1 (.t 82)⟩, ⟨some 84, none, .faddr 2 (.t 10)⟩, ⟨some 85, none, .load false 1 (.t 84)⟩, ⟨(some 86), none, (.build [(.str ⟨#[]⟩), (.int .i64 0), (.bool false), .nil] [(0, (1, (.t 81))), (1, (1, (.t 83))), (2, (1, (.t 85)))])⟩, ⟨(some 11), none, (.alloc 80 [(.str ⟨#[]⟩), (.int .i64 0), (.bool false), .nil])⟩, ⟨none, none, (.store 4 (.t 11) (.t 86))⟩]) (.seq (.seq (.reg [⟨some 12, none, .mv (.c (.int .i64 0))⟩]) (.block 4 (.loop [0, 1, 1, 0, 1, 0, 1, 0, 1, 1, 1, 1, 1, 0, 0, 0, 0, 0, 0, 0, 0, 0, 0, 0, 0, 0, 0, 0, 0, 0, 0, 0, 0, 0, 0, 0, 0, 0, 0, 0, 0, 0, 0, 0, 0, 0, 0, 0, 0, 0, 0, 0, 0, 0, 0, 0, 0, 0, 0, 0, 0, 0, 0, 0, 0, 0, 0, 0, 0, 0, 0, 0, 0, 0, 0, 0, 0, 0, 0, 0, 0, 0, 0, 0, 0, 0, 0, 0, 0, 0, 0, 0, 0, 0, 0, 0, 0, 0, 0, 0, 0, 0, 0, 0, 0, 0, 0, 0, 0, 0, 0, 0, 0, 0, 0, 0, 0, 0, 0, 0, 0, 0, 0, 0, 0, 0, 0, 0, 0, 0, 0, 0, 0, 0, 0, 0, 0, 0, 0, 0, 0, 0, 0, 0, 0] (.seq (.seq (.reg [⟨some 87, none, .mv (.t 12)⟩, ⟨some 88, none, .faddr 3 (.t 10)⟩, ⟨some 89, none, .load false 1 (.t 88)⟩, ⟨some 90, none, .len false (.t 89)⟩, ⟨some 91, none, .bin .lss false (.t 87) (.t 90)⟩]) (.cond (.t 91) .skip (.exit 4))) (.seq (.block 5 (.seq (.reg [⟨some 94, none, .mv (.t 12)⟩, ⟨some 13, none, .mv (.c (.int .i64 0))⟩, ⟨some 14, none, .mv (.c (.int .i64 1))⟩, ⟨some 15, none, .mv (.t 94)⟩]) (.seq (.seq (.reg [⟨some 16, none, .mv (.c (.int .i64 0))⟩]) (.block 6 (.loop [0, 1, 1, 0, 1, 0, 1, 0, 1, 1, 1, 1, 1, 1, 1, 1, 1, 0, 0, 0, 0, 0, 0, 0, 0, 0, 0, 0, 0, 0, 0, 0, 0, 0, 0, 0, 0, 0, 0, 0, 0, 0, 0, 0, 0, 0, 0, 0, 0, 0, 0, 0, 0, 0, 0, 0, 0, 0, 0, 0, 0, 0, 0, 0, 0, 0, 0, 0, 0, 0, 0, 0, 0, 0, 0, 0, 0, 0, 0, 0, 0, 0, 0, 0, 0, 0, 0, 0, 0, 0, 0, 0, 0, 0, 0, 0, 0, 0, 0, 0, 0, 0, 0, 0, 0, 0, 0, 0, 0, 0, 0, 0, 0, 0, 0, 0, 0, 0, 0, 0, 0, 0, 0, 0, 0, 0, 0, 0, 0, 0, 0, 0, 0, 0, 0, 0, 0, 0, 0, 0, 0, 0, 0, 0, 0] (.seq (.seq (.reg [⟨some 95, none, .mv (.t 16)⟩, ⟨some 96, none, .faddr 1 (.t 10)⟩, ⟨some 97, none, .load false 1 (.t 96)⟩, ⟨some 98, none, .bin .lss false (.t 95) (.t 97)⟩]) (.cond (.t 98) .skip (.exit 6))) (.seq (.block 7 (.seq (.reg [⟨some 101, none, .mv (.t 13)⟩, ⟨some 102, none, .mv (.t 14)⟩, ⟨some 103, none, .mv (.t 6)⟩, ⟨some 104, none, .mv (.t 15)⟩, ⟨some 105, none, .faddr 0 (.t 2)⟩, ⟨some 106, none, .load false 1 (.t 105)⟩, ⟨some 107, none, .bin .rem false (.t 104) (.t 106)⟩, ⟨some 108, none, .iaddr 1 (.t 103) (.t 107)⟩, ⟨some 109, none, .load false 1 (.t 108)⟩, ⟨some 110, none, .bin .mul false (.t 102) (.t 109)⟩, ⟨some 111, none, .bin .add false (.t 101) (.t 110)⟩, ⟨some 13, none, .mv (.t 111)⟩]) (.seq (.reg [⟨some 112, none, .mv (.t 14)⟩, ⟨some 113, none, .faddr 0 (.t 2)⟩, ⟨some 114, none, .load false 1 (.t 113)⟩, ⟨some 115, none, .bin .mul false (.t 112) (.t 114)⟩, ⟨some 14, none, .mv (.t 115)⟩]) (.reg [⟨some 116, none, .mv (.t 15)⟩, ⟨some 117, none, .faddr 0 (.t 2)⟩, ⟨some 118, none, .load false 1 (.t 117)⟩, ⟨some 119, none, .bin .quo false (.t 116) (.t 118)⟩, ⟨some 15, none, .mv (.t 119)⟩])))) (.reg [⟨some 99, none, .mv (.t 16)⟩, ⟨some 100, none, .bin .add false (.t 99) (.c (.int .i64 1))⟩, ⟨some 16, none, .mv (.t 100)⟩])))))) (.seq (.reg [⟨some 120, none, .faddr 3 (.t 10)⟩, ⟨some 121, none, .load false 1 (.t 120)⟩, ⟨some 122, none, .mv (.t 13)⟩, ⟨some 123, none, .iaddr 1 (.t 121) (.t 122)⟩, ⟨some 124, none, .load false 1 (.t 123)⟩, ⟨some 17, none, .mv (.t 124)⟩]) (.seq (.seq (.reg [⟨some 125, none, .faddr 2 (.t 10)⟩, ⟨some 126, none, .load false 1 (.t 125)⟩, ⟨some 127, none, .un .not (.t 126)⟩]) (.cond (.t 127) (.reg [⟨some 128, none, .mv (.t 1)⟩, ⟨some 129, none, .mv (.t 17)⟩, ⟨some 130, none, .iaddr 1 (.t 128) (.t 129)⟩, ⟨some 131, none, .load false 1 (.t 130)⟩, ⟨some 17, none, .mv (.t 131)⟩]) .skip)) (.reg [⟨some 132, none, .faddr 3 (.t 11)⟩, ⟨some 133, none, .load false 1 (.t 132)⟩, ⟨some 134, none, .mv (.t 17)⟩, ⟨some 135, none, .mkrow 3 1 [(.int .i64 0)] 1 [(0, (.t 134))]⟩, ⟨some 136, none, .append 3 1 8 [(.int .i64 0)] (.t 133) (.t 135)⟩, ⟨some 137, none, .faddr 3 (.t 11)⟩, ⟨none, none, (.store 1 (.t 137) (.t 136))⟩])))))) (.reg [⟨some 92, none, .mv (.t 12)⟩, ⟨some 93, none, .bin .add false (.t 92) (.c (.int .i64 1))⟩, ⟨some 12, none, .mv (.t 93)⟩])))))) (.reg [⟨some 138, none, .faddr 1 (.t 8)⟩, ⟨some 139, none, .load false 1 (.t 138)⟩, ⟨some 140, none, .load true 4 (.t 11)⟩, ⟨(some 141), none, (.mkrow 80 4 [(.str ⟨#[]⟩), (.int .i64 0), (.bool false), .nil] 1 [(0, (.t 140))])⟩, ⟨(some 142), none, (.append 80 4 56 [(.str ⟨#[]⟩), (.int .i64 0), (.bool false), .nil] (.t 139) (.t 141))⟩, ⟨some 143, none, .faddr 1 (.t 8)⟩, ⟨none, none, (.store 1 (.t 143) (.t 142))⟩]))))) (.reg [⟨some 73, none, .mv (.t 9)⟩, ⟨some 74, none, .bin .add false (.t 73) (.c (.int .i64 1))⟩, ⟨some 9, none, .mv (.t 74)⟩])))))) (.seq (.reg [⟨some 144, none, .load true 2 (.t 8)⟩, ⟨none, none, (.store 2 (.t 4) (.t 144))⟩, ⟨some 5, none, .mv (.c (.bool true))⟩]) .ret)))))))
theorem k_spec_RenameElements : codeOf Try.prog 16 = some ⟨145, c_spec_RenameElements, [(.cell 4 true 2), (.tmp 5)]⟩ := by kernel_rfl
theorem m_spec_RenameElements : modes 16 = ⟨[], .frz, none, false⟩ := by unfold modes; rfl
theorem l1Has_E (xs : List Int) (n : Int) (hl : xs.length ≤ 1099511627776) : E 46 [.arr (xs.map fun s => [D.int s]), .int .i64 n] [] = some (.bool (dec (n ∈ xs)), []) := by
  have e : dec (n ∈ xs) = dec (0 ≤ idxP (fun s => dec (s = n)) xs 0) := by
    rw [idxP_any]
    by_cases hm : n ∈ xs
    · rw [dec_t hm]
      exact (List.any_eq_true.2 ⟨n, hm, dec_t rfl⟩).symm
    · rw [dec_f hm]
      refine Eq.symm (Bool.eq_false_iff.2 fun h => ?_)
      obtain ⟨x, h1, h2⟩ := List.any_eq_true.1 h
      have e := dec_iff.1 h2
      subst e
      exact hm h1
  rw [e, idxP_any]
  refine E_walk k_spec_l1Has m_spec_l1Has (of_decide_eq_true rfl) ?_
  simp (disch := omega) only [c_spec_l1Has, go_sem, go_cond, zA, zB, zC, zD, zE, zF, zG, zH, ↓reduceIte, zI, reduceCtorEq, zJ, zK]
  refine go_loop (α := Int) (fun a => ⟨slots 18 0 [(0, .arr (xs.map fun s => [D.int s])), (1, .int .i64 n), (5, .int .i64 a)], []⟩) (fun a => ∃ k : Nat, a = k ∧ k ≤ (xs).length ∧ (xs.drop k).any (fun s => dec (s = n)) = xs.any (fun s => dec (s = n))) (fun a => (xs).length - (a).toNat) 0 ⟨0, rfl, Nat.zero_le _, by rw [List.drop_zero]⟩ (by simp (disch := omega) only [go_sem, go_cond, zA, zB, zC, zD, zE, zF, zG, zH, ↓reduceIte, zI, reduceCtorEq, zJ, zK]) ?_
  rintro i ⟨k, hi, hk, hR⟩
  have hni : i.toNat = k := by omega
  have hni1 : (i + 1).toNat = k + 1 := by omega
  rcases Nat.lt_or_ge k (xs).length with hlt | hge
  · have hg := get_at (fun s => [D.int s]) hlt
    rw [List.drop_eq_getElem_cons hlt, List.any_cons] at hR
    cases hp : dec (xs[k] = n) with
    | true =>
      rw [hp, Bool.true_or] at hR
      rw [← hR]
      simp (disch := omega) only [go_sem, go_cond, zA, zB, zC, zD, zE, zF, zG, zH, ↓reduceIte, zI, reduceCtorEq, zJ, zK, hni, hg, hp]
    | false =>
      rw [hp, Bool.false_or] at hR
      simp (disch := omega) only [go_sem, go_cond, zA, zB, zC, zD, zE, zF, zG, zH, ↓reduceIte, zI, reduceCtorEq, zJ, zK, hni, hg, hp]
      exact ⟨i + 1, ⟨k + 1, by omega, hlt, hR⟩, by omega, by first | trivial | rfl⟩
  · rw [List.drop_eq_nil_of_le hge, List.any_nil] at hR
    rw [← hR]
    simp (disch := omega) only [go_sem, go_cond, zA, zB, zC, zD, zE, zF, zG, zH, ↓reduceIte, zI, reduceCtorEq, zJ, zK, hni]
theorem backL_set {p : List Int} {k : Nat} (h : k < p.length) : ((backL p k).map fun s => [OT.int s]).set (p[k]).toNat [OT.int (k : Int)] = (backL p (k + 1)).map fun s => [OT.int s] := by
  unfold backL
  rw [scat, List.map_set, getD_p h]
theorem backL_zero (p : List Int) : (backL p 0).map (fun s => [OT.int s]) = List.replicate p.length [OT.int 0] := by
  unfold backL
  rw [scat, List.map_replicate]
theorem all_one (xs : List Int) : ((xs.map fun s => [D.int s]).all fun l => l.length == 1) = true := by rw [List.all_map, List.all_eq_true]; intro x _; rfl
theorem rangeV_snoc (g : Nat → Int) (j : Nat) : ((List.range j).map g).map (fun s => [OT.int s]) ++ [[OT.int (g j)]] = ((List.range (j + 1)).map g).map fun s => [OT.int s] := by
  rw [List.range_succ, List.map_append, List.map_append]; rfl
theorem Tl.rn_o (s : Int) (p : List Int) (t : Tl) : Tl.o (t.rn s p) = [.str t.name, .int t.arity, .bool t.pred, .ow (((List.range t.vals.length).map (atV s p t)).map fun n => [OT.int n])] := rfl
set_option maxHeartbeats 64000000 in
theorem l10RenameElements_E (m : Ip) (ht : m.tame) (p : List Int) (hp : p.length ≤ 1048576) : E 16 [m.sv, .arr (p.map fun s => [D.int s])] [] = some (.tup [.agg [.int .i64 (rnTo m p).size, .arr ((rnTo m p).tables.map Tl.d)], .bool (rnOk m p)], []) := by
  have h1 := l10Good_E m ht
  have hm0 := ht.1
  cases hm : m.ok with
  | false =>
    rw [hm] at h1
    have e : rnOk m p = false := by unfold rnOk; rw [hm, Bool.false_and]
    unfold rnTo
    rw [e, cond_false]
    show E _ _ _ = some (SV.tup [.agg [.int .i64 0, .arr []], .bool false], [])
    refine E_walk k_spec_RenameElements m_spec_RenameElements (of_decide_eq_true rfl) ?_
    simp (disch := omega) only [c_spec_RenameElements, go_sem, go_cond, zA, zB, zC, zD, zE, zF, zG, zH, ↓reduceIte, zI, reduceCtorEq, zJ, zK, h1, m_spec_l10Good]
    try first | rfl | exact ⟨rfl, rfl⟩
  | true =>
  rw [hm] at h1
  obtain ⟨⟨s1, s3⟩, htb, hvb⟩ := Ip.ok_parts hm
  have htl12 := tabsB_len htb
  cases hpl : dec ((p.length : Int) = m.size) with
  | false =>
    have e : rnOk m p = false := by unfold rnOk prmB; rw [hpl, Bool.false_and, Bool.and_false]
    unfold rnTo
    rw [e, cond_false]
    show E _ _ _ = some (SV.tup [.agg [.int .i64 0, .arr []], .bool false], [])
    refine E_walk k_spec_RenameElements m_spec_RenameElements (of_decide_eq_true rfl) ?_
    simp (disch := omega) only [c_spec_RenameElements, go_sem, go_cond, zA, zB, zC, zD, zE, zF, zG, zH, ↓reduceIte, zI, reduceCtorEq, zJ, zK, h1, hpl, m_spec_l10Good]
    try first | rfl | exact ⟨rfl, rfl⟩
  | true =>
  have hps : (p.length : Int) = m.size := dec_iff.1 hpl
  have hb0 := backL_zero p
  have hpt : m.size.toNat = p.length := by omega
  obtain ⟨r, hr⟩ : ∃ r, r = rnTo m p := ⟨_, rfl⟩
  obtain ⟨o, ho⟩ : ∃ o, o = rnOk m p := ⟨_, rfl⟩
  rw [← hr, ← ho]
  refine E_walk k_spec_RenameElements m_spec_RenameElements (of_decide_eq_true rfl) ?_
  simp (disch := omega) only [c_spec_RenameElements, go_sem, go_cond, zA, zB, zC, zD, zE, zF, zG, zH, ↓reduceIte, zI, reduceCtorEq, zJ, zK, h1, hpl, m_spec_l10Good]
  refine go_loop (α := Int) (fun i => ⟨slots 145 0 [(1, .arr (p.map fun s => [D.int s])), (2, .ptr 0 0), (4, .ptr 1 0), (6, .ref 2), (7, .int .i64 i)], [.box 40 [.int .i64 m.size, .arr (m.tables.map Tl.d)], .box 40 [.int .i64 0, .nil], .row 3 1 ((backL p i.toNat).map fun s => [OT.int s])]⟩) (fun i => ∃ k : Nat, i = k ∧ k ≤ p.length ∧ (∀ x ∈ p.take k, 0 ≤ x ∧ x < m.size) ∧ (p.take k).Nodup) (fun i => p.length - i.toNat) 0 (by refine ⟨0, rfl, Nat.zero_le _, ?_, ?_⟩ <;> simp) (by simp (disch := omega) only [go_sem, go_cond, zA, zB, zC, zD, zE, zF, zG, zH, ↓reduceIte, zI, reduceCtorEq, zJ, zK, hpt, hb0, Int.toNat_zero]) ?_
  rintro i ⟨k, hi, hk, hR1, hR2⟩
  have hni : i.toNat = k := by omega
  have hni1 : (i + 1).toNat = k + 1 := by omega
  rcases Nat.lt_or_ge k p.length with hlt | hge
  · have hg := get_at (fun s => [D.int s]) hlt
    have hin := l1In_E p[k] 0 (m.size - 1)
    have hha := l1Has_E (p.take k) p[k] (by rw [List.length_take]; omega)
    rw [List.map_take] at hha
    have hal := all_one p
    have hbs := backL_set hlt
    rw [← hi] at hbs
    have hbl : (backL p k).length = p.length := backL_len p k
    have hno : (¬ (0 ≤ p[k] ∧ p[k] ≤ m.size - 1) ∨ p[k] ∈ p.take k) → rnOk m p = false := fun hn => by
      refine Bool.eq_false_iff.2 fun h => ?_
      unfold rnOk at h
      rw [hm, Bool.true_and] at h
      obtain ⟨_, hon, _, hnd⟩ := prm_on s3 h
      rcases hn with hn | hn
      · have := hon k (by omega) (by omega)
        unfold pf at this
        rw [Int.toNat_natCast, getD_p hlt] at this
        omega
      · obtain ⟨q, hq, e⟩ := List.getElem_of_mem hn
        have hq2 : q < k := by rw [List.length_take] at hq; omega
        rw [List.getElem_take] at e
        exact absurd e (List.pairwise_iff_getElem.1 hnd q k (by omega) hlt hq2)
    by_cases hr1 : 0 ≤ p[k] ∧ p[k] ≤ m.size - 1
    · have c1 : inI p[k] 0 (m.size - 1) = true := inI_iff.2 hr1
      unfold inI at c1
      first | rw [c1] at hin | (unfold inI at hin; rw [c1] at hin)
      by_cases hr2 : p[k] ∈ p.take k
      · rw [dec_t hr2] at hha
        have e := hno (.inr hr2)
        have e2 : r = ⟨0, []⟩ := by rw [hr]; unfold rnTo; rw [e]; rfl
        have e3 : r.size = 0 := by rw [e2]
        have e4 : r.tables = [] := by rw [e2]
        rw [ho, e, e3, e4, List.map_nil]
        simp (disch := omega) only [go_sem, go_cond, zA, zB, zC, zD, zE, zF, zG, zH, ↓reduceIte, zI, reduceCtorEq, zJ, zK, hni, hg, hin, hha, hal, hbl, m_spec_l1In, m_spec_l1Has]
        try first | rfl | exact ⟨rfl, rfl⟩
      · rw [dec_f hr2] at hha
        have hgb := get_at (fun s => [OT.int s]) (xs := backL p k) (k := (p[k]).toNat) (by omega)
        simp (disch := omega) only [go_sem, go_cond, zA, zB, zC, zD, zE, zF, zG, zH, ↓reduceIte, zI, reduceCtorEq, zJ, zK, hni, hg, hin, hha, hal, hbl, hgb, m_spec_l1In, m_spec_l1Has]
        refine ⟨i + 1, ⟨k + 1, by omega, hlt, ?_, ?_⟩, by omega, ?_⟩
        · rw [List.take_succ_eq_append_getElem hlt]
          intro x hx
          rcases List.mem_append.1 hx with hx | hx
          · exact hR1 x hx
          · rw [List.mem_singleton] at hx; subst hx; omega
        · rw [List.take_succ_eq_append_getElem hlt, List.nodup_append]
          exact ⟨hR2, by simp, fun a ha b hb e => by rw [List.mem_singleton] at hb; subst hb; subst e; exact hr2 ha⟩
        · simp (disch := omega) only [go_sem, go_cond, zA, zB, zC, zD, zE, zF, zG, zH, ↓reduceIte, zI, reduceCtorEq, zJ, zK, hni1, hbs]
    · have c1 : inI p[k] 0 (m.size - 1) = false := Bool.eq_false_iff.2 fun h => hr1 (inI_iff.1 h)
      unfold inI at c1
      first | rw [c1] at hin | (unfold inI at hin; rw [c1] at hin)
      have e := hno (.inl hr1)
      have e2 : r = ⟨0, []⟩ := by rw [hr]; unfold rnTo; rw [e]; rfl
      have e3 : r.size = 0 := by rw [e2]
      have e4 : r.tables = [] := by rw [e2]
      rw [ho, e, e3, e4, List.map_nil]
      simp (disch := omega) only [go_sem, go_cond, zA, zB, zC, zD, zE, zF, zG, zH, ↓reduceIte, zI, reduceCtorEq, zJ, zK, hni, hg, hin, hha, hal, hbl, m_spec_l1In, m_spec_l1Has]
      try first | rfl | exact ⟨rfl, rfl⟩
  · obtain rfl : k = p.length := by omega
    rw [List.take_length] at hR1 hR2
    have hprm : prmB m.size p = true := prm_of s1 s3 hps hR1 hR2
    have e : rnOk m p = true := by unfold rnOk; rw [hm, hprm]; rfl
    have e2 : r = m.rn p := by rw [hr]; unfold rnTo; rw [e]; rfl
    have e3 : r.size = m.size := by rw [e2]; rfl
    have e4 : r.tables = m.tables.map (Tl.rn m.size p) := by rw [e2]; rfl
    rw [ho, e, e3, e4]
    obtain ⟨_, _, hon⟩ := back_pf s3 hprm
    have hBl : (backL p p.length).length = p.length := backL_len p p.length
    obtain ⟨B, hB⟩ : ∃ B, B = backL p p.length := ⟨_, rfl⟩
    have hB' : backL p p.length = B := hB.symm
    rw [← hB] at hon hBl
    simp (disch := omega) only [go_sem, go_cond, zA, zB, zC, zD, zE, zF, zG, zH, ↓reduceIte, zI, reduceCtorEq, zJ, zK, hni, hB']
    refine go_loop (α := Int) (fun i => ⟨slots 145 0 [(1, .arr (p.map fun s => [D.int s])), (2, .ptr 0 0), (4, .ptr 1 0), (6, .ref 2), (8, .ptr 3 0), (9, .int .i64 i)], (if i = 0 then [.box 40 [.int .i64 m.size, .arr (m.tables.map Tl.d)], .box 40 [.int .i64 0, .nil], .row 3 1 (B.map fun s => [OT.int s]), .box 40 [.int .i64 m.size, .nil]] else [.box 40 [.int .i64 m.size, .arr (m.tables.map Tl.d)], .box 40 [.int .i64 0, .nil], .row 3 1 (B.map fun s => [OT.int s]), .box 40 [.int .i64 m.size, .ref 4], .row 80 4 (((m.tables.take i.toNat).map (Tl.rn m.size p)).map Tl.o)])⟩) (fun i => ∃ k : Nat, i = k ∧ k ≤ m.tables.length) (fun i => m.tables.length - i.toNat) 0 ⟨0, rfl, Nat.zero_le _⟩ (by simp (disch := omega) only [go_sem, go_cond, zA, zB, zC, zD, zE, zF, zG, zH, ↓reduceIte, zI, reduceCtorEq, zJ, zK, eq_self, if_true]) ?_
    rintro i ⟨k, hi, hk⟩
    have hni : i.toNat = k := by omega
    have hni1 : (i + 1).toNat = k + 1 := by omega
    rcases Nat.lt_or_ge k m.tables.length with hlt | hge
    · have hg := get_at Tl.d hlt
      rw [Tl.d_eq] at hg
      have hta := tabsB_arity htb (List.getElem_mem hlt)
      have hvl := List.all_eq_true.1 hvb _ (List.getElem_mem hlt)
      unfold tlB at hvl
      rw [Bool.and_eq_true, dec_iff, List.all_eq_true] at hvl
      have hs : (((m.tables.take k).map (Tl.rn m.size p)).map Tl.o) ++ [Tl.o (m.tables[k].rn m.size p)] = ((m.tables.take (k + 1)).map (Tl.rn m.size p)).map Tl.o := by
        rw [List.take_succ_eq_append_getElem hlt, List.map_append, List.map_append]; rfl
      rw [Tl.rn_o] at hs
      have hpos := pw_small s1 s3 (k := m.tables[k].arity.toNat) (by omega)
      have htl : ((m.tables.take k).map (Tl.rn m.size p)).length = k := by rw [List.length_map, List.length_take]; omega
      have hi1 : (i + 1 = 0) = False := eq_false (by omega)
      obtain ⟨t, htt⟩ : ∃ t, t = m.tables[k] := ⟨_, rfl⟩
      rw [← htt] at hg hta hvl hs hpos
      clear htt
      rcases Nat.eq_zero_or_pos k with hk0 | hk0
      · have hi0 : (i = 0) = True := eq_true (by omega)
        have htk : m.tables.take k = [] := by rw [hk0]; rfl
        rw [htk, List.map_nil, List.map_nil, List.nil_append] at hs
        simp (disch := omega) only [go_sem, go_cond, zA, zB, zC, zD, zE, zF, zG, zH, ↓reduceIte, zI, reduceCtorEq, zJ, zK, hni, hg, hi0, if_true]
        refine go_loop (α := Int) (fun n => ⟨slots 145 0 [(1, .arr (p.map fun s => [D.int s])), (2, .ptr 0 0), (4, .ptr 1 0), (6, .ref 2), (8, .ptr 3 0), (9, .int .i64 i), (10, .ptr 4 0), (11, .ptr 5 0), (12, .int .i64 n)], (if n = 0 then [.box 40 [.int .i64 m.size, .arr (m.tables.map Tl.d)], .box 40 [.int .i64 0, .nil], .row 3 1 (B.map fun s => [OT.int s]), .box 40 [.int .i64 m.size, .nil], .box 80 [.str t.name, .int .i64 t.arity, .bool t.pred, .arr (t.vals.map fun n => [D.int n])], .box 80 [.str t.name, .int .i64 t.arity, .bool t.pred, .nil]] else [.box 40 [.int .i64 m.size, .arr (m.tables.map Tl.d)], .box 40 [.int .i64 0, .nil], .row 3 1 (B.map fun s => [OT.int s]), .box 40 [.int .i64 m.size, .nil], .box 80 [.str t.name, .int .i64 t.arity, .bool t.pred, .arr (t.vals.map fun n => [D.int n])], .box 80 [.str t.name, .int .i64 t.arity, .bool t.pred, .ref 6], .row 3 1 (((List.range n.toNat).map (atV m.size p t)).map fun s => [OT.int s])])⟩) (fun n => ∃ j : Nat, n = j ∧ j ≤ t.vals.length) (fun n => t.vals.length - n.toNat) 0 ⟨0, rfl, Nat.zero_le _⟩ (by simp (disch := omega) only [go_sem, go_cond, zA, zB, zC, zD, zE, zF, zG, zH, ↓reduceIte, zI, reduceCtorEq, zJ, zK, eq_self, if_true]) ?_
        rintro n ⟨j, hn, hj⟩
        have hnn : n.toNat = j := by omega
        have hnn1 : (n + 1).toNat = j + 1 := by omega
        have hn1 : (n + 1 = 0) = False := eq_false (by omega)
        rcases Nat.lt_or_ge j t.vals.length with hjl | hjg
        · have hdr := dg_range s1 hon t.arity.toNat n (by omega) (by omega)
          have hP3 := pw_small s1 s3 (k := t.arity.toNat) (by omega)
          rcases Nat.eq_zero_or_pos j with hj0 | hj0
          · have hn0 : (n = 0) = True := eq_true (by omega)
            have hr0 : List.range j = [] := by rw [hj0]; rfl
            simp (disch := omega) only [go_sem, go_cond, zA, zB, zC, zD, zE, zF, zG, zH, ↓reduceIte, zI, reduceCtorEq, zJ, zK, hnn, hn0, if_true]
            refine go_loop (α := Int × Int × Int × Int) (fun a => ⟨slots 145 0 [(1, .arr (p.map fun s => [D.int s])), (2, .ptr 0 0), (4, .ptr 1 0), (6, .ref 2), (8, .ptr 3 0), (9, .int .i64 i), (10, .ptr 4 0), (11, .ptr 5 0), (12, .int .i64 n), (13, .int .i64 a.2.1), (14, .int .i64 a.2.2.1), (15, .int .i64 a.2.2.2), (16, .int .i64 a.1)], [.box 40 [.int .i64 m.size, .arr (m.tables.map Tl.d)], .box 40 [.int .i64 0, .nil], .row 3 1 (B.map fun s => [OT.int s]), .box 40 [.int .i64 m.size, .nil], .box 80 [.str t.name, .int .i64 t.arity, .bool t.pred, .arr (t.vals.map fun n => [D.int n])], .box 80 [.str t.name, .int .i64 t.arity, .bool t.pred, .nil]]⟩) (fun a => ∃ d : Nat, a.1 = d ∧ (d : Int) ≤ t.arity ∧ 1 ≤ a.2.2.1 ∧ a.2.2.1 * pw m.size (t.arity.toNat - d) = pw m.size t.arity.toNat ∧ 0 ≤ a.2.1 ∧ a.2.1 < a.2.2.1 ∧ 0 ≤ a.2.2.2 ∧ a.2.2.2 < pw m.size (t.arity.toNat - d) ∧ a.2.1 + a.2.2.1 * dg m.size (pf B) (t.arity.toNat - d) a.2.2.2 = dg m.size (pf B) t.arity.toNat n) (fun a => t.arity.toNat - a.1.toNat) (0, 0, 1, n) ⟨0, rfl, by (try dsimp only); omega, by (try dsimp only); omega, by (try dsimp only); rw [Nat.sub_zero, Int.one_mul], by (try dsimp only); omega, by (try dsimp only); omega, by (try dsimp only); omega, by (try dsimp only); rw [Nat.sub_zero]; omega, by (try dsimp only); rw [Nat.sub_zero, Int.one_mul, Int.zero_add]⟩ (by simp (disch := omega) only [go_sem, go_cond, zA, zB, zC, zD, zE, zF, zG, zH, ↓reduceIte, zI, reduceCtorEq, zJ, zK]) ?_
            rintro ⟨d, a, w, u⟩ ⟨d0, hd, hda, hw1, hwp, ha0, haw, hu0, hup, hD⟩
            dsimp only at hd hda hw1 hwp ha0 haw hu0 hup hD
            rcases Int.lt_or_le d t.arity with hdl | hdg
            · obtain ⟨b, hbb⟩ : ∃ b, t.arity.toNat - d0 = b + 1 := ⟨t.arity.toNat - d0 - 1, by omega⟩
              have hb2 : t.arity.toNat - (d0 + 1) = b := by omega
              rw [hbb, pw] at hwp hup
              rw [hbb, dg_step] at hD
              obtain ⟨u0, u1, m0, m1⟩ := div_in s1 hu0 hup
              obtain ⟨q0, q1⟩ := hon _ m0 m1
              have hpb := pw_small s1 s3 (k := b) (by omega)
              have hws : w * m.size * pw m.size b = pw m.size t.arity.toNat := by rw [← hwp, Int.mul_assoc, Int.mul_comm m.size]
              have k1 := Int.mul_nonneg (show 0 ≤ w by omega) q0
              have k2 : w * (pf B (u.tmod m.size) + 1) ≤ w * m.size := Int.mul_le_mul_of_nonneg_left (by omega) (by omega)
              rw [Int.mul_add, Int.mul_one] at k2
              have k3 : w * m.size * 1 ≤ w * m.size * pw m.size b := Int.mul_le_mul_of_nonneg_left (by omega) (by omega)
              rw [Int.mul_one, hws] at k3
              have hmi : (u.tmod m.size).toNat < B.length := by omega
              have hgp := get_at (fun s => [OT.int s]) hmi
              have hpfe : B[(u.tmod m.size).toNat] = pf B (u.tmod m.size) := (getD_p hmi).symm
              rw [hpfe] at hgp
              have hsz0 : m.size ≠ 0 := by omega
              simp (disch := omega) only [go_sem, go_cond, zA, zB, zC, zD, zE, zF, zG, zH, ↓reduceIte, zI, reduceCtorEq, zJ, zK, hgp, hsz0]
              refine ⟨(d + 1, a + w * pf B (u.tmod m.size), w * m.size, u.tdiv m.size), ⟨d0 + 1, by dsimp only; omega, by omega, by dsimp only; omega, by dsimp only; rw [hb2]; exact hws, by dsimp only; omega, by dsimp only; omega, u0, by dsimp only; rw [hb2]; exact u1, by dsimp only; rw [hb2]; exact hD⟩, by dsimp only; omega, ?_⟩
              first | trivial | rfl | exact ⟨rfl, rfl⟩
            · have hz : t.arity.toNat - d0 = 0 := by omega
              rw [hz, dg, Int.mul_zero, Int.add_zero] at hD
              have hin : a.toNat < t.vals.length := by omega
              have hgv := get_at (fun n => [D.int n]) hin
              have hvr := inI_iff.1 (hvl.2 t.vals[a.toNat] (List.getElem_mem hin))
              have hat : atV m.size p t j = newV p t t.vals[a.toNat] := by unfold atV; rw [← hB, ← hn, ← hD, getD_p hin]
              have hsn := rangeV_snoc (atV m.size p t) j
              rw [hat] at hsn
              rw [hr0, List.map_nil, List.map_nil, List.nil_append] at hsn
              have hlr : ((List.range j).map (atV m.size p t)).length = j := by simp
              cases hpr : t.pred with
              | true =>
                rw [newV_rn, hpr, cond_true] at hsn
                simp (disch := omega) only [go_sem, go_cond, zA, zB, zC, zD, zE, zF, zG, zH, ↓reduceIte, zI, reduceCtorEq, zJ, zK, hgv, hpr, hlr]
                refine ⟨n + 1, ⟨j + 1, by omega, hjl⟩, by omega, ?_⟩
                simp (disch := omega) only [go_sem, go_cond, zA, zB, zC, zD, zE, zF, zG, zH, ↓reduceIte, zI, reduceCtorEq, zJ, zK, hn1, if_false, hnn1, hpr, hsn]
              | false =>
                rw [newV_rn, hpr, cond_false] at hsn
                unfold kinds at hvr
                rw [hpr, if_neg (by simp)] at hvr
                have hmi : (t.vals[a.toNat]).toNat < p.length := by omega
                have hgp := get_at (fun s => [D.int s]) hmi
                have hpfe : p[(t.vals[a.toNat]).toNat] = pf p t.vals[a.toNat] := (getD_p hmi).symm
                rw [hpfe] at hgp
                simp (disch := omega) only [go_sem, go_cond, zA, zB, zC, zD, zE, zF, zG, zH, ↓reduceIte, zI, reduceCtorEq, zJ, zK, hgv, hgp, hpr, hlr]
                refine ⟨n + 1, ⟨j + 1, by omega, hjl⟩, by omega, ?_⟩
                simp (disch := omega) only [go_sem, go_cond, zA, zB, zC, zD, zE, zF, zG, zH, ↓reduceIte, zI, reduceCtorEq, zJ, zK, hn1, if_false, hnn1, hpr, hsn]
          · have hn0 : (n = 0) = False := eq_false (by omega)
            simp (disch := omega) only [go_sem, go_cond, zA, zB, zC, zD, zE, zF, zG, zH, ↓reduceIte, zI, reduceCtorEq, zJ, zK, hnn, hn0, if_false]
            refine go_loop (α := Int × Int × Int × Int) (fun a => ⟨slots 145 0 [(1, .arr (p.map fun s => [D.int s])), (2, .ptr 0 0), (4, .ptr 1 0), (6, .ref 2), (8, .ptr 3 0), (9, .int .i64 i), (10, .ptr 4 0), (11, .ptr 5 0), (12, .int .i64 n), (13, .int .i64 a.2.1), (14, .int .i64 a.2.2.1), (15, .int .i64 a.2.2.2), (16, .int .i64 a.1)], [.box 40 [.int .i64 m.size, .arr (m.tables.map Tl.d)], .box 40 [.int .i64 0, .nil], .row 3 1 (B.map fun s => [OT.int s]), .box 40 [.int .i64 m.size, .nil], .box 80 [.str t.name, .int .i64 t.arity, .bool t.pred, .arr (t.vals.map fun n => [D.int n])], .box 80 [.str t.name, .int .i64 t.arity, .bool t.pred, .ref 6], .row 3 1 (((List.range j).map (atV m.size p t)).map fun s => [OT.int s])]⟩) (fun a => ∃ d : Nat, a.1 = d ∧ (d : Int) ≤ t.arity ∧ 1 ≤ a.2.2.1 ∧ a.2.2.1 * pw m.size (t.arity.toNat - d) = pw m.size t.arity.toNat ∧ 0 ≤ a.2.1 ∧ a.2.1 < a.2.2.1 ∧ 0 ≤ a.2.2.2 ∧ a.2.2.2 < pw m.size (t.arity.toNat - d) ∧ a.2.1 + a.2.2.1 * dg m.size (pf B) (t.arity.toNat - d) a.2.2.2 = dg m.size (pf B) t.arity.toNat n) (fun a => t.arity.toNat - a.1.toNat) (0, 0, 1, n) ⟨0, rfl, by (try dsimp only); omega, by (try dsimp only); omega, by (try dsimp only); rw [Nat.sub_zero, Int.one_mul], by (try dsimp only); omega, by (try dsimp only); omega, by (try dsimp only); omega, by (try dsimp only); rw [Nat.sub_zero]; omega, by (try dsimp only); rw [Nat.sub_zero, Int.one_mul, Int.zero_add]⟩ (by simp (disch := omega) only [go_sem, go_cond, zA, zB, zC, zD, zE, zF, zG, zH, ↓reduceIte, zI, reduceCtorEq, zJ, zK]) ?_
            rintro ⟨d, a, w, u⟩ ⟨d0, hd, hda, hw1, hwp, ha0, haw, hu0, hup, hD⟩
            dsimp only at hd hda hw1 hwp ha0 haw hu0 hup hD
            rcases Int.lt_or_le d t.arity with hdl | hdg
            · obtain ⟨b, hbb⟩ : ∃ b, t.arity.toNat - d0 = b + 1 := ⟨t.arity.toNat - d0 - 1, by omega⟩
              have hb2 : t.arity.toNat - (d0 + 1) = b := by omega
              rw [hbb, pw] at hwp hup
              rw [hbb, dg_step] at hD
              obtain ⟨u0, u1, m0, m1⟩ := div_in s1 hu0 hup
              obtain ⟨q0, q1⟩ := hon _ m0 m1
              have hpb := pw_small s1 s3 (k := b) (by omega)
              have hws : w * m.size * pw m.size b = pw m.size t.arity.toNat := by rw [← hwp, Int.mul_assoc, Int.mul_comm m.size]
              have k1 := Int.mul_nonneg (show 0 ≤ w by omega) q0
              have k2 : w * (pf B (u.tmod m.size) + 1) ≤ w * m.size := Int.mul_le_mul_of_nonneg_left (by omega) (by omega)
              rw [Int.mul_add, Int.mul_one] at k2
              have k3 : w * m.size * 1 ≤ w * m.size * pw m.size b := Int.mul_le_mul_of_nonneg_left (by omega) (by omega)
              rw [Int.mul_one, hws] at k3
              have hmi : (u.tmod m.size).toNat < B.length := by omega
              have hgp := get_at (fun s => [OT.int s]) hmi
              have hpfe : B[(u.tmod m.size).toNat] = pf B (u.tmod m.size) := (getD_p hmi).symm
              rw [hpfe] at hgp
              have hsz0 : m.size ≠ 0 := by omega
              simp (disch := omega) only [go_sem, go_cond, zA, zB, zC, zD, zE, zF, zG, zH, ↓reduceIte, zI, reduceCtorEq, zJ, zK, hgp, hsz0]
              refine ⟨(d + 1, a + w * pf B (u.tmod m.size), w * m.size, u.tdiv m.size), ⟨d0 + 1, by dsimp only; omega, by omega, by dsimp only; omega, by dsimp only; rw [hb2]; exact hws, by dsimp only; omega, by dsimp only; omega, u0, by dsimp only; rw [hb2]; exact u1, by dsimp only; rw [hb2]; exact hD⟩, by dsimp only; omega, ?_⟩
              first | trivial | rfl | exact ⟨rfl, rfl⟩
            · have hz : t.arity.toNat - d0 = 0 := by omega
              rw [hz, dg, Int.mul_zero, Int.add_zero] at hD
              have hin : a.toNat < t.vals.length := by omega
              have hgv := get_at (fun n => [D.int n]) hin
              have hvr := inI_iff.1 (hvl.2 t.vals[a.toNat] (List.getElem_mem hin))
              have hat : atV m.size p t j = newV p t t.vals[a.toNat] := by unfold atV; rw [← hB, ← hn, ← hD, getD_p hin]
              have hsn := rangeV_snoc (atV m.size p t) j
              rw [hat] at hsn
              have hlr : ((List.range j).map (atV m.size p t)).length = j := by simp
              cases hpr : t.pred with
              | true =>
                rw [newV_rn, hpr, cond_true] at hsn
                simp (disch := omega) only [go_sem, go_cond, zA, zB, zC, zD, zE, zF, zG, zH, ↓reduceIte, zI, reduceCtorEq, zJ, zK, hgv, hpr, hlr]
                refine ⟨n + 1, ⟨j + 1, by omega, hjl⟩, by omega, ?_⟩
                simp (disch := omega) only [go_sem, go_cond, zA, zB, zC, zD, zE, zF, zG, zH, ↓reduceIte, zI, reduceCtorEq, zJ, zK, hn1, if_false, hnn1, hpr, hsn]
              | false =>
                rw [newV_rn, hpr, cond_false] at hsn
                unfold kinds at hvr
                rw [hpr, if_neg (by simp)] at hvr
                have hmi : (t.vals[a.toNat]).toNat < p.length := by omega
                have hgp := get_at (fun s => [D.int s]) hmi
                have hpfe : p[(t.vals[a.toNat]).toNat] = pf p t.vals[a.toNat] := (getD_p hmi).symm
                rw [hpfe] at hgp
                simp (disch := omega) only [go_sem, go_cond, zA, zB, zC, zD, zE, zF, zG, zH, ↓reduceIte, zI, reduceCtorEq, zJ, zK, hgv, hgp, hpr, hlr]
                refine ⟨n + 1, ⟨j + 1, by omega, hjl⟩, by omega, ?_⟩
                simp (disch := omega) only [go_sem, go_cond, zA, zB, zC, zD, zE, zF, zG, zH, ↓reduceIte, zI, reduceCtorEq, zJ, zK, hn1, if_false, hnn1, hpr, hsn]
        · obtain rfl : j = t.vals.length := by omega
          have hn0 : (n = 0) = False := eq_false (by omega)
          simp (disch := omega) only [go_sem, go_cond, zA, zB, zC, zD, zE, zF, zG, zH, ↓reduceIte, zI, reduceCtorEq, zJ, zK, hnn, hn0, if_false, htl]
          refine ⟨i + 1, ⟨k + 1, by omega, hlt⟩, by omega, ?_⟩
          simp (disch := omega) only [go_sem, go_cond, zA, zB, zC, zD, zE, zF, zG, zH, ↓reduceIte, zI, reduceCtorEq, zJ, zK, hi1, if_false, hni1, hs]
      · have hi0 : (i = 0) = False := eq_false (by omega)
        simp (disch := omega) only [go_sem, go_cond, zA, zB, zC, zD, zE, zF, zG, zH, ↓reduceIte, zI, reduceCtorEq, zJ, zK, hni, hg, hi0, if_false]
        refine go_loop (α := Int) (fun n => ⟨slots 145 0 [(1, .arr (p.map fun s => [D.int s])), (2, .ptr 0 0), (4, .ptr 1 0), (6, .ref 2), (8, .ptr 3 0), (9, .int .i64 i), (10, .ptr 4 0), (11, .ptr 5 0), (12, .int .i64 n)], (if n = 0 then [.box 40 [.int .i64 m.size, .arr (m.tables.map Tl.d)], .box 40 [.int .i64 0, .nil], .row 3 1 (B.map fun s => [OT.int s]), .box 40 [.int .i64 m.size, .ref 6], .box 80 [.str t.name, .int .i64 t.arity, .bool t.pred, .arr (t.vals.map fun n => [D.int n])], .box 80 [.str t.name, .int .i64 t.arity, .bool t.pred, .nil], .row 80 4 (((m.tables.take k).map (Tl.rn m.size p)).map Tl.o)] else [.box 40 [.int .i64 m.size, .arr (m.tables.map Tl.d)], .box 40 [.int .i64 0, .nil], .row 3 1 (B.map fun s => [OT.int s]), .box 40 [.int .i64 m.size, .ref 6], .box 80 [.str t.name, .int .i64 t.arity, .bool t.pred, .arr (t.vals.map fun n => [D.int n])], .box 80 [.str t.name, .int .i64 t.arity, .bool t.pred, .ref 7], .row 80 4 (((m.tables.take k).map (Tl.rn m.size p)).map Tl.o), .row 3 1 (((List.range n.toNat).map (atV m.size p t)).map fun s => [OT.int s])])⟩) (fun n => ∃ j : Nat, n = j ∧ j ≤ t.vals.length) (fun n => t.vals.length - n.toNat) 0 ⟨0, rfl, Nat.zero_le _⟩ (by simp (disch := omega) only [go_sem, go_cond, zA, zB, zC, zD, zE, zF, zG, zH, ↓reduceIte, zI, reduceCtorEq, zJ, zK, eq_self, if_true]) ?_
        rintro n ⟨j, hn, hj⟩
        have hnn : n.toNat = j := by omega
        have hnn1 : (n + 1).toNat = j + 1 := by omega
        have hn1 : (n + 1 = 0) = False := eq_false (by omega)
        rcases Nat.lt_or_ge j t.vals.length with hjl | hjg
        · have hdr := dg_range s1 hon t.arity.toNat n (by omega) (by omega)
          have hP3 := pw_small s1 s3 (k := t.arity.toNat) (by omega)
          rcases Nat.eq_zero_or_pos j with hj0 | hj0
          · have hn0 : (n = 0) = True := eq_true (by omega)
            have hr0 : List.range j = [] := by rw [hj0]; rfl
            simp (disch := omega) only [go_sem, go_cond, zA, zB, zC, zD, zE, zF, zG, zH, ↓reduceIte, zI, reduceCtorEq, zJ, zK, hnn, hn0, if_true]
            refine go_loop (α := Int × Int × Int × Int) (fun a => ⟨slots 145 0 [(1, .arr (p.map fun s => [D.int s])), (2, .ptr 0 0), (4, .ptr 1 0), (6, .ref 2), (8, .ptr 3 0), (9, .int .i64 i), (10, .ptr 4 0), (11, .ptr 5 0), (12, .int .i64 n), (13, .int .i64 a.2.1), (14, .int .i64 a.2.2.1), (15, .int .i64 a.2.2.2), (16, .int .i64 a.1)], [.box 40 [.int .i64 m.size, .arr (m.tables.map Tl.d)], .box 40 [.int .i64 0, .nil], .row 3 1 (B.map fun s => [OT.int s]), .box 40 [.int .i64 m.size, .ref 6], .box 80 [.str t.name, .int .i64 t.arity, .bool t.pred, .arr (t.vals.map fun n => [D.int n])], .box 80 [.str t.name, .int .i64 t.arity, .bool t.pred, .nil], .row 80 4 (((m.tables.take k).map (Tl.rn m.size p)).map Tl.o)]⟩) (fun a => ∃ d : Nat, a.1 = d ∧ (d : Int) ≤ t.arity ∧ 1 ≤ a.2.2.1 ∧ a.2.2.1 * pw m.size (t.arity.toNat - d) = pw m.size t.arity.toNat ∧ 0 ≤ a.2.1 ∧ a.2.1 < a.2.2.1 ∧ 0 ≤ a.2.2.2 ∧ a.2.2.2 < pw m.size (t.arity.toNat - d) ∧ a.2.1 + a.2.2.1 * dg m.size (pf B) (t.arity.toNat - d) a.2.2.2 = dg m.size (pf B) t.arity.toNat n) (fun a => t.arity.toNat - a.1.toNat) (0, 0, 1, n) ⟨0, rfl, by (try dsimp only); omega, by (try dsimp only); omega, by (try dsimp only); rw [Nat.sub_zero, Int.one_mul], by (try dsimp only); omega, by (try dsimp only); omega, by (try dsimp only); omega, by (try dsimp only); rw [Nat.sub_zero]; omega, by (try dsimp only); rw [Nat.sub_zero, Int.one_mul, Int.zero_add]⟩ (by simp (disch := omega) only [go_sem, go_cond, zA, zB, zC, zD, zE, zF, zG, zH, ↓reduceIte, zI, reduceCtorEq, zJ, zK]) ?_
            rintro ⟨d, a, w, u⟩ ⟨d0, hd, hda, hw1, hwp, ha0, haw, hu0, hup, hD⟩
            dsimp only at hd hda hw1 hwp ha0 haw hu0 hup hD
            rcases Int.lt_or_le d t.arity with hdl | hdg
            · obtain ⟨b, hbb⟩ : ∃ b, t.arity.toNat - d0 = b + 1 := ⟨t.arity.toNat - d0 - 1, by omega⟩
              have hb2 : t.arity.toNat - (d0 + 1) = b := by omega
              rw [hbb, pw] at hwp hup
              rw [hbb, dg_step] at hD
              obtain ⟨u0, u1, m0, m1⟩ := div_in s1 hu0 hup
              obtain ⟨q0, q1⟩ := hon _ m0 m1
              have hpb := pw_small s1 s3 (k := b) (by omega)
              have hws : w * m.size * pw m.size b = pw m.size t.arity.toNat := by rw [← hwp, Int.mul_assoc, Int.mul_comm m.size]
              have k1 := Int.mul_nonneg (show 0 ≤ w by omega) q0
              have k2 : w * (pf B (u.tmod m.size) + 1) ≤ w * m.size := Int.mul_le_mul_of_nonneg_left (by omega) (by omega)
              rw [Int.mul_add, Int.mul_one] at k2
              have k3 : w * m.size * 1 ≤ w * m.size * pw m.size b := Int.mul_le_mul_of_nonneg_left (by omega) (by omega)
              rw [Int.mul_one, hws] at k3
              have hmi : (u.tmod m.size).toNat < B.length := by omega
              have hgp := get_at (fun s => [OT.int s]) hmi
              have hpfe : B[(u.tmod m.size).toNat] = pf B (u.tmod m.size) := (getD_p hmi).symm
              rw [hpfe] at hgp
              have hsz0 : m.size ≠ 0 := by omega
              simp (disch := omega) only [go_sem, go_cond, zA, zB, zC, zD, zE, zF, zG, zH, ↓reduceIte, zI, reduceCtorEq, zJ, zK, hgp, hsz0]
              refine ⟨(d + 1, a + w * pf B (u.tmod m.size), w * m.size, u.tdiv m.size), ⟨d0 + 1, by dsimp only; omega, by omega, by dsimp only; omega, by dsimp only; rw [hb2]; exact hws, by dsimp only; omega, by dsimp only; omega, u0, by dsimp only; rw [hb2]; exact u1, by dsimp only; rw [hb2]; exact hD⟩, by dsimp only; omega, ?_⟩
              first | trivial | rfl | exact ⟨rfl, rfl⟩
            · have hz : t.arity.toNat - d0 = 0 := by omega
              rw [hz, dg, Int.mul_zero, Int.add_zero] at hD
              have hin : a.toNat < t.vals.length := by omega
              have hgv := get_at (fun n => [D.int n]) hin
              have hvr := inI_iff.1 (hvl.2 t.vals[a.toNat] (List.getElem_mem hin))
              have hat : atV m.size p t j = newV p t t.vals[a.toNat] := by unfold atV; rw [← hB, ← hn, ← hD, getD_p hin]
              have hsn := rangeV_snoc (atV m.size p t) j
              rw [hat] at hsn
              rw [hr0, List.map_nil, List.map_nil, List.nil_append] at hsn
              have hlr : ((List.range j).map (atV m.size p t)).length = j := by simp
              cases hpr : t.pred with
              | true =>
                rw [newV_rn, hpr, cond_true] at hsn
                simp (disch := omega) only [go_sem, go_cond, zA, zB, zC, zD, zE, zF, zG, zH, ↓reduceIte, zI, reduceCtorEq, zJ, zK, hgv, hpr, hlr]
                refine ⟨n + 1, ⟨j + 1, by omega, hjl⟩, by omega, ?_⟩
                simp (disch := omega) only [go_sem, go_cond, zA, zB, zC, zD, zE, zF, zG, zH, ↓reduceIte, zI, reduceCtorEq, zJ, zK, hn1, if_false, hnn1, hpr, hsn]
              | false =>
                rw [newV_rn, hpr, cond_false] at hsn
                unfold kinds at hvr
                rw [hpr, if_neg (by simp)] at hvr
                have hmi : (t.vals[a.toNat]).toNat < p.length := by omega
                have hgp := get_at (fun s => [D.int s]) hmi
                have hpfe : p[(t.vals[a.toNat]).toNat] = pf p t.vals[a.toNat] := (getD_p hmi).symm
                rw [hpfe] at hgp
                simp (disch := omega) only [go_sem, go_cond, zA, zB, zC, zD, zE, zF, zG, zH, ↓reduceIte, zI, reduceCtorEq, zJ, zK, hgv, hgp, hpr, hlr]
                refine ⟨n + 1, ⟨j + 1, by omega, hjl⟩, by omega, ?_⟩
                simp (disch := omega) only [go_sem, go_cond, zA, zB, zC, zD, zE, zF, zG, zH, ↓reduceIte, zI, reduceCtorEq, zJ, zK, hn1, if_false, hnn1, hpr, hsn]
          · have hn0 : (n = 0) = False := eq_false (by omega)
            simp (disch := omega) only [go_sem, go_cond, zA, zB, zC, zD, zE, zF, zG, zH, ↓reduceIte, zI, reduceCtorEq, zJ, zK, hnn, hn0, if_false]
            refine go_loop (α := Int × Int × Int × Int) (fun a => ⟨slots 145 0 [(1, .arr (p.map fun s => [D.int s])), (2, .ptr 0 0), (4, .ptr 1 0), (6, .ref 2), (8, .ptr 3 0), (9, .int .i64 i), (10, .ptr 4 0), (11, .ptr 5 0), (12, .int .i64 n), (13, .int .i64 a.2.1), (14, .int .i64 a.2.2.1), (15, .int .i64 a.2.2.2), (16, .int .i64 a.1)], [.box 40 [.int .i64 m.size, .arr (m.tables.map Tl.d)], .box 40 [.int .i64 0, .nil], .row 3 1 (B.map fun s => [OT.int s]), .box 40 [.int .i64 m.size, .ref 6], .box 80 [.str t.name, .int .i64 t.arity, .bool t.pred, .arr (t.vals.map fun n => [D.int n])], .box 80 [.str t.name, .int .i64 t.arity, .bool t.pred, .ref 7], .row 80 4 (((m.tables.take k).map (Tl.rn m.size p)).map Tl.o), .row 3 1 (((List.range j).map (atV m.size p t)).map fun s => [OT.int s])]⟩) (fun a => ∃ d : Nat, a.1 = d ∧ (d : Int) ≤ t.arity ∧ 1 ≤ a.2.2.1 ∧ a.2.2.1 * pw m.size (t.arity.toNat - d) = pw m.size t.arity.toNat ∧ 0 ≤ a.2.1 ∧ a.2.1 < a.2.2.1 ∧ 0 ≤ a.2.2.2 ∧ a.2.2.2 < pw m.size (t.arity.toNat - d) ∧ a.2.1 + a.2.2.1 * dg m.size (pf B) (t.arity.toNat - d) a.2.2.2 = dg m.size (pf B) t.arity.toNat n) (fun a => t.arity.toNat - a.1.toNat) (0, 0, 1, n) ⟨0, rfl, by (try dsimp only); omega, by (try dsimp only); omega, by (try dsimp only); rw [Nat.sub_zero, Int.one_mul], by (try dsimp only); omega, by (try dsimp only); omega, by (try dsimp only); omega, by (try dsimp only); rw [Nat.sub_zero]; omega, by (try dsimp only); rw [Nat.sub_zero, Int.one_mul, Int.zero_add]⟩ (by simp (disch := omega) only [go_sem, go_cond, zA, zB, zC, zD, zE, zF, zG, zH, ↓reduceIte, zI, reduceCtorEq, zJ, zK]) ?_
            rintro ⟨d, a, w, u⟩ ⟨d0, hd, hda, hw1, hwp, ha0, haw, hu0, hup, hD⟩
            dsimp only at hd hda hw1 hwp ha0 haw hu0 hup hD
            rcases Int.lt_or_le d t.arity with hdl | hdg
            · obtain ⟨b, hbb⟩ : ∃ b, t.arity.toNat - d0 = b + 1 := ⟨t.arity.toNat - d0 - 1, by omega⟩
              have hb2 : t.arity.toNat - (d0 + 1) = b := by omega
              rw [hbb, pw] at hwp hup
              rw [hbb, dg_step] at hD
              obtain ⟨u0, u1, m0, m1⟩ := div_in s1 hu0 hup
              obtain ⟨q0, q1⟩ := hon _ m0 m1
              have hpb := pw_small s1 s3 (k := b) (by omega)
              have hws : w * m.size * pw m.size b = pw m.size t.arity.toNat := by rw [← hwp, Int.mul_assoc, Int.mul_comm m.size]
              have k1 := Int.mul_nonneg (show 0 ≤ w by omega) q0
              have k2 : w * (pf B (u.tmod m.size) + 1) ≤ w * m.size := Int.mul_le_mul_of_nonneg_left (by omega) (by omega)
              rw [Int.mul_add, Int.mul_one] at k2
              have k3 : w * m.size * 1 ≤ w * m.size * pw m.size b := Int.mul_le_mul_of_nonneg_left (by omega) (by omega)
              rw [Int.mul_one, hws] at k3
              have hmi : (u.tmod m.size).toNat < B.length := by omega
              have hgp := get_at (fun s => [OT.int s]) hmi
              have hpfe : B[(u.tmod m.size).toNat] = pf B (u.tmod m.size) := (getD_p hmi).symm
              rw [hpfe] at hgp
              have hsz0 : m.size ≠ 0 := by omega
              simp (disch := omega) only [go_sem, go_cond, zA, zB, zC, zD, zE, zF, zG, zH, ↓reduceIte, zI, reduceCtorEq, zJ, zK, hgp, hsz0]
              refine ⟨(d + 1, a + w * pf B (u.tmod m.size), w * m.size, u.tdiv m.size), ⟨d0 + 1, by dsimp only; omega, by omega, by dsimp only; omega, by dsimp only; rw [hb2]; exact hws, by dsimp only; omega, by dsimp only; omega, u0, by dsimp only; rw [hb2]; exact u1, by dsimp only; rw [hb2]; exact hD⟩, by dsimp only; omega, ?_⟩
              first | trivial | rfl | exact ⟨rfl, rfl⟩
            · have hz : t.arity.toNat - d0 = 0 := by omega
              rw [hz, dg, Int.mul_zero, Int.add_zero] at hD
              have hin : a.toNat < t.vals.length := by omega
              have hgv := get_at (fun n => [D.int n]) hin
              have hvr := inI_iff.1 (hvl.2 t.vals[a.toNat] (List.getElem_mem hin))
              have hat : atV m.size p t j = newV p t t.vals[a.toNat] := by unfold atV; rw [← hB, ← hn, ← hD, getD_p hin]
              have hsn := rangeV_snoc (atV m.size p t) j
              rw [hat] at hsn
              have hlr : ((List.range j).map (atV m.size p t)).length = j := by simp
              cases hpr : t.pred with
              | true =>
                rw [newV_rn, hpr, cond_true] at hsn
                simp (disch := omega) only [go_sem, go_cond, zA, zB, zC, zD, zE, zF, zG, zH, ↓reduceIte, zI, reduceCtorEq, zJ, zK, hgv, hpr, hlr]
                refine ⟨n + 1, ⟨j + 1, by omega, hjl⟩, by omega, ?_⟩
                simp (disch := omega) only [go_sem, go_cond, zA, zB, zC, zD, zE, zF, zG, zH, ↓reduceIte, zI, reduceCtorEq, zJ, zK, hn1, if_false, hnn1, hpr, hsn]
              | false =>
                rw [newV_rn, hpr, cond_false] at hsn
                unfold kinds at hvr
                rw [hpr, if_neg (by simp)] at hvr
                have hmi : (t.vals[a.toNat]).toNat < p.length := by omega
                have hgp := get_at (fun s => [D.int s]) hmi
                have hpfe : p[(t.vals[a.toNat]).toNat] = pf p t.vals[a.toNat] := (getD_p hmi).symm
                rw [hpfe] at hgp
                simp (disch := omega) only [go_sem, go_cond, zA, zB, zC, zD, zE, zF, zG, zH, ↓reduceIte, zI, reduceCtorEq, zJ, zK, hgv, hgp, hpr, hlr]
                refine ⟨n + 1, ⟨j + 1, by omega, hjl⟩, by omega, ?_⟩
                simp (disch := omega) only [go_sem, go_cond, zA, zB, zC, zD, zE, zF, zG, zH, ↓reduceIte, zI, reduceCtorEq, zJ, zK, hn1, if_false, hnn1, hpr, hsn]
        · obtain rfl : j = t.vals.length := by omega
          have hn0 : (n = 0) = False := eq_false (by omega)
          simp (disch := omega) only [go_sem, go_cond, zA, zB, zC, zD, zE, zF, zG, zH, ↓reduceIte, zI, reduceCtorEq, zJ, zK, hnn, hn0, if_false, htl]
          refine ⟨i + 1, ⟨k + 1, by omega, hlt⟩, by omega, ?_⟩
          simp (disch := omega) only [go_sem, go_cond, zA, zB, zC, zD, zE, zF, zG, zH, ↓reduceIte, zI, reduceCtorEq, zJ, zK, hi1, if_false, hni1, hs]
    · obtain rfl : k = m.tables.length := by omega
      have ht1 : m.tables.take m.tables.length = m.tables := List.take_length
      rcases Nat.eq_zero_or_pos m.tables.length with hk0 | hk0
      · have hx : m.tables = [] := List.eq_nil_of_length_eq_zero hk0
        obtain rfl : i = 0 := by omega
        simp (disch := omega) only [go_sem, go_cond, zA, zB, zC, zD, zE, zF, zG, zH, ↓reduceIte, zI, reduceCtorEq, zJ, zK, hni, hx, eq_self, if_true, List.map_nil, List.length_nil, Tl.erss, Tl.noss]
        try first | rfl | exact ⟨rfl, rfl⟩
      · have hi0 : (i = 0) = False := eq_false (by omega)
        simp (disch := omega) only [go_sem, go_cond, zA, zB, zC, zD, zE, zF, zG, zH, ↓reduceIte, zI, reduceCtorEq, zJ, zK, hni, hi0, if_false, ht1, Tl.erss, Tl.noss]
        try first | rfl | exact ⟨rfl, rfl⟩
end Go.Proofs.Ytolhlpglgheldaa
