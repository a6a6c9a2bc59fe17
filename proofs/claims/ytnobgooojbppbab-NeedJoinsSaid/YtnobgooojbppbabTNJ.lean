/- A reading of the program's code by values alone: the functions that the laws reach. -/
import Derived.Test.YtnobgooojbppbabProg
import Derived.Test.YtnobgooojbppbabLiftS
import Derived.Test.YtnobgooojbppbabChecked
set_option linter.all false
set_option maxRecDepth 100000
namespace Go.Proofs.Ytnobgooojbppbab.TNJ
open Go Go.RowKit Go.Proofs.Ytnobgooojbppbab.Lift
/-! #### 3: L09_NeedJoins -/
def c3_l0 : SCode :=
  (.seq (.seq (.region [⟨(some 10), (.move (.tmp 5)), none, false⟩, ⟨(some 11), (.moveS 24 1 (.tmp 1)), none, false⟩, ⟨(some 12), (.len false (.tmp 11)), none, false⟩, ⟨(some 13), (.bin .lss 0 (.tmp 10) (.tmp 12)), none, false⟩] false) (.cond (.tmp 13) .skip (.exit 0))) (.seq (.block 1 (.seq (.region [⟨(some 16), (.moveS 24 1 (.tmp 1)), none, false⟩, ⟨(some 17), (.move (.tmp 5)), none, false⟩, ⟨(some 18), (.indexAddr 1 (.tmp 16) (.tmp 17)), none, false⟩, ⟨(some 19), (.load false 1 (.tmp 18)), none, false⟩, ⟨(some 20), (.len false (.tmp 19)), none, false⟩, ⟨(some 21), (.bin .gtr 0 (.tmp 20) (.cst (.int .i64 50))), none, false⟩] false) (.cond (.tmp 21) (.seq (.region [⟨(some 22), (.callF (.val (.cst (.fn (.func 12) [] []))) 0 []), none, false⟩, ⟨(some 4), (.move (.tmp 22)), none, false⟩] false) .ret) .skip))) (.region [⟨(some 14), (.move (.tmp 5)), none, false⟩, ⟨(some 15), (.bin .add 0 (.tmp 14) (.cst (.int .i64 1))), none, false⟩, ⟨(some 5), (.move (.tmp 15)), none, false⟩] false)))
def c3_b : SCode :=
  (.seq (.region [⟨(some 4), (.move (.cst (.bool false))), none, false⟩] false) (.seq (.seq (.region [⟨(some 6), (.moveS 24 1 (.tmp 1)), none, false⟩, ⟨(some 7), (.len false (.tmp 6)), none, false⟩, ⟨(some 8), (.bin .gtr 0 (.tmp 7) (.cst (.int .i64 5))), none, false⟩] false) (.cond (.tmp 8) (.seq (.region [⟨(some 9), (.callF (.val (.cst (.fn (.func 12) [] []))) 0 []), none, false⟩, ⟨(some 4), (.move (.tmp 9)), none, false⟩] false) .ret) .skip)) (.seq (.seq (.region [⟨(some 5), (.move (.cst (.int .i64 0))), none, false⟩] false) (.block 0 (.loop [0, 1, 5] c3_l0))) (.seq (.region [⟨(some 23), (.move (.tmp 0)), none, false⟩, ⟨(some 24), (.moveS 24 1 (.tmp 1)), none, false⟩, ⟨(some 25), (.callF (.val (.cst (.fn (.func 14) [] []))) 0 [(.tmp 23), (.tmp 24)]), none, false⟩, ⟨(some 26), (.move (.tmp 0)), none, false⟩, ⟨(some 27), (.moveS 24 1 (.tmp 1)), none, false⟩, ⟨(some 28), (.callF (.val (.cst (.fn (.func 15) [] []))) 0 [(.tmp 26), (.tmp 27)]), none, false⟩, ⟨(some 29), (.callF (.val (.cst (.fn (.func 13) [] []))) 0 [(.tmp 25), (.tmp 28)]), none, false⟩, ⟨(some 30), (.move (.tmp 29)), none, false⟩, ⟨(some 31), (.callF (.val (.cst (.fn (.func 12) [] []))) 0 []), (some (30, true)), false⟩, ⟨(some 32), (.pick (.tmp 30) (.tmp 31) (.cst (.bool false))), none, false⟩, ⟨(some 4), (.move (.tmp 32)), none, false⟩] false) .ret))))
def c3_k0 : SCode :=
  (.seq (.block 0 (.loop [0, 1, 5] c3_l0)) (.seq (.region [⟨(some 23), (.move (.tmp 0)), none, false⟩, ⟨(some 24), (.moveS 24 1 (.tmp 1)), none, false⟩, ⟨(some 25), (.callF (.val (.cst (.fn (.func 14) [] []))) 0 [(.tmp 23), (.tmp 24)]), none, false⟩, ⟨(some 26), (.move (.tmp 0)), none, false⟩, ⟨(some 27), (.moveS 24 1 (.tmp 1)), none, false⟩, ⟨(some 28), (.callF (.val (.cst (.fn (.func 15) [] []))) 0 [(.tmp 26), (.tmp 27)]), none, false⟩, ⟨(some 29), (.callF (.val (.cst (.fn (.func 13) [] []))) 0 [(.tmp 25), (.tmp 28)]), none, false⟩, ⟨(some 30), (.move (.tmp 29)), none, false⟩, ⟨(some 31), (.callF (.val (.cst (.fn (.func 12) [] []))) 0 []), (some (30, true)), false⟩, ⟨(some 32), (.pick (.tmp 30) (.tmp 31) (.cst (.bool false))), none, false⟩, ⟨(some 4), (.move (.tmp 32)), none, false⟩] false) .ret))
def c3 : SFun := ⟨33, [(.tmp 4)], c3_b, none⟩
theorem ok3 : cfun Go.Proofs.Try.prog [2000087, 2000105] [[0, 1, 5]] 3 = some ⟨33, [(.tmp 4)], c3_b, none⟩ := by kernel_rfl
/-! #### 12: L09_works -/
def c12_b : SCode :=
  (.seq (.region [⟨(some 0), (.move (.cst (.bool false))), none, false⟩] false) (.seq (.region [⟨(some 2), (.build [(0, 1), (1, 1)] [(.int .i64 0), (.int .i64 0)] [(0, (.cst (.int .i64 2))), (1, (.cst (.int .i64 1)))]), none, false⟩, ⟨(some 3), (.build [(0, 1), (1, 1)] [(.int .i64 0), (.int .i64 0)] [(0, (.cst (.int .i64 3)))]), none, false⟩, ⟨(some 4), (.buildSlice 94 2 2 [(.int .i64 0), (.int .i64 0)] [(0, (.tmp 2)), (1, (.tmp 3))]), none, false⟩, ⟨(some 1), (.moveS 94 2 (.tmp 4)), none, false⟩] false) (.seq (.region [⟨(some 5), (.moveS 94 2 (.tmp 1)), none, false⟩, ⟨(some 6), (.callF (.val (.cst (.fn (.func 20) [] []))) 0 [(.tmp 5), (.cst (.int .u64 2))]), none, false⟩, ⟨(some 7), (.un .not (.tmp 6)), none, false⟩, ⟨(some 8), (.move (.tmp 7)), none, false⟩, ⟨(some 9), (.moveS 94 2 (.tmp 1)), (some (8, true)), false⟩, ⟨(some 10), (.callF (.val (.cst (.fn (.func 20) [] []))) 0 [(.tmp 9), (.cst (.int .u64 0))]), (some (8, true)), false⟩, ⟨(some 11), (.pick (.tmp 8) (.tmp 10) (.cst (.bool false))), none, false⟩, ⟨(some 12), (.move (.tmp 11)), none, false⟩, ⟨(some 13), (.moveS 94 2 (.tmp 1)), (some (12, true)), false⟩, ⟨(some 14), (.callF (.val (.cst (.fn (.func 21) [] []))) 0 [(.tmp 13)]), (some (12, true)), false⟩, ⟨(some 15), (.bin .eql 0 (.tmp 14) (.cst (.int .i64 2))), (some (12, true)), false⟩, ⟨(some 16), (.pick (.tmp 12) (.tmp 15) (.cst (.bool false))), none, false⟩, ⟨(some 0), (.move (.tmp 16)), none, false⟩] false) .ret)))
def c12 : SFun := ⟨17, [(.tmp 0)], c12_b, none⟩
theorem ok12 : cfun Go.Proofs.Try.prog [2000087, 2000105] [] 12 = some ⟨17, [(.tmp 0)], c12_b, none⟩ := by kernel_rfl
/-! #### 13: R09_Same -/
def c13_l0 : SCode :=
  (.seq (.seq (.region [⟨(some 11), (.move (.tmp 5)), none, false⟩, ⟨(some 12), (.moveS 94 2 (.tmp 0)), none, false⟩, ⟨(some 13), (.len false (.tmp 12)), none, false⟩, ⟨(some 14), (.bin .lss 0 (.tmp 11) (.tmp 13)), none, false⟩] false) (.cond (.tmp 14) .skip (.exit 0))) (.seq (.block 1 (.seq (.region [⟨(some 17), (.moveS 94 2 (.tmp 0)), none, false⟩, ⟨(some 18), (.move (.tmp 5)), none, false⟩, ⟨(some 19), (.indexAddr 2 (.tmp 17) (.tmp 18)), none, false⟩, ⟨(some 20), (.load true 2 (.tmp 19)), none, false⟩, ⟨(some 21), (.moveS 94 2 (.tmp 1)), none, false⟩, ⟨(some 22), (.move (.tmp 5)), none, false⟩, ⟨(some 23), (.indexAddr 2 (.tmp 21) (.tmp 22)), none, false⟩, ⟨(some 24), (.load true 2 (.tmp 23)), none, false⟩, ⟨(some 25), (.eqS true [0, 0] (.tmp 20) (.tmp 24)), none, true⟩] true) (.cond (.tmp 25) (.seq (.region [⟨(some 4), (.move (.cst (.bool false))), none, false⟩] false) .ret) .skip))) (.region [⟨(some 15), (.move (.tmp 5)), none, false⟩, ⟨(some 16), (.bin .add 0 (.tmp 15) (.cst (.int .i64 1))), none, false⟩, ⟨(some 5), (.move (.tmp 16)), none, false⟩] false)))
def c13_b : SCode :=
  (.seq (.region [⟨(some 4), (.move (.cst (.bool false))), none, false⟩] false) (.seq (.seq (.region [⟨(some 6), (.moveS 94 2 (.tmp 0)), none, false⟩, ⟨(some 7), (.len false (.tmp 6)), none, false⟩, ⟨(some 8), (.moveS 94 2 (.tmp 1)), none, false⟩, ⟨(some 9), (.len false (.tmp 8)), none, false⟩, ⟨(some 10), (.bin .neq 0 (.tmp 7) (.tmp 9)), none, false⟩] false) (.cond (.tmp 10) (.seq (.region [⟨(some 4), (.move (.cst (.bool false))), none, false⟩] false) .ret) .skip)) (.seq (.seq (.region [⟨(some 5), (.move (.cst (.int .i64 0))), none, false⟩] false) (.block 0 (.loop [0, 1, 5] c13_l0))) (.seq (.region [⟨(some 4), (.move (.cst (.bool true))), none, false⟩] false) .ret))))
def c13_k0 : SCode :=
  (.seq (.block 0 (.loop [0, 1, 5] c13_l0)) (.seq (.region [⟨(some 4), (.move (.cst (.bool true))), none, false⟩] false) .ret))
def c13 : SFun := ⟨26, [(.tmp 4)], c13_b, none⟩
theorem ok13 : cfun Go.Proofs.Try.prog [2000087, 2000105] [[0, 1, 5]] 13 = some ⟨26, [(.tmp 4)], c13_b, none⟩ := by kernel_rfl
/-! #### 14: need_Join -/
def c14_l0 : SCode :=
  (.seq (.region [⟨(some 11), (.bin .lss 0 (.tmp 10) (.tmp 9)), none, false⟩] false) (.seq (.cond (.tmp 11) .skip (.exit 0)) (.seq (.block 1 (.seq (.region [⟨(some 12), (.indexAddr 1 (.tmp 8) (.tmp 10)), none, false⟩, ⟨(some 13), (.load false 1 (.tmp 12)), none, false⟩, ⟨(some 7), (.moveS 94 2 (.tmp 13)), none, false⟩] false) (.region [⟨(some 14), (.moveS 94 2 (.tmp 5)), none, false⟩, ⟨(some 15), (.moveS 94 2 (.tmp 7)), none, false⟩, ⟨(some 16), (.append 94 2 16 (.tmp 14) (.tmp 15)), none, false⟩, ⟨(some 5), (.moveS 94 2 (.tmp 16)), none, false⟩] false))) (.region [⟨(some 17), (.bin .add 0 (.tmp 10) (.cst (.int .i64 1))), none, false⟩, ⟨(some 10), (.move (.tmp 17)), none, false⟩] false))))
def c14_b : SCode :=
  (.seq (.region [⟨(some 4), (.nilRow 94 2), none, false⟩] false) (.seq (.region [⟨(some 5), (.nilRow 94 2), none, false⟩] false) (.seq (.seq (.region [⟨(some 8), (.moveS 24 1 (.tmp 1)), none, false⟩, ⟨(some 9), (.len false (.tmp 8)), none, false⟩, ⟨(some 10), (.move (.cst (.int .i64 0))), none, false⟩] false) (.block 0 (.loop [0, 5, 8, 9, 10] c14_l0))) (.seq (.region [⟨(some 18), (.moveS 94 2 (.tmp 5)), none, false⟩, ⟨(some 19), (.move (.tmp 0)), none, false⟩, ⟨(some 20), (.build [(0, 1), (1, 1)] [(.int .i64 0), (.int .i64 0)] [(0, (.tmp 19))]), none, false⟩, ⟨(some 21), (.buildSlice 94 2 1 [(.int .i64 0), (.int .i64 0)] [(0, (.tmp 20))]), none, false⟩, ⟨(some 22), (.append 94 2 16 (.tmp 18) (.tmp 21)), none, false⟩, ⟨(some 4), (.moveS 94 2 (.tmp 22)), none, false⟩] false) .ret))))
def c14_k0 : SCode :=
  (.seq (.block 0 (.loop [0, 5, 8, 9, 10] c14_l0)) (.seq (.region [⟨(some 18), (.moveS 94 2 (.tmp 5)), none, false⟩, ⟨(some 19), (.move (.tmp 0)), none, false⟩, ⟨(some 20), (.build [(0, 1), (1, 1)] [(.int .i64 0), (.int .i64 0)] [(0, (.tmp 19))]), none, false⟩, ⟨(some 21), (.buildSlice 94 2 1 [(.int .i64 0), (.int .i64 0)] [(0, (.tmp 20))]), none, false⟩, ⟨(some 22), (.append 94 2 16 (.tmp 18) (.tmp 21)), none, false⟩, ⟨(some 4), (.moveS 94 2 (.tmp 22)), none, false⟩] false) .ret))
def c14 : SFun := ⟨23, [(.tmp 4)], c14_b, none⟩
theorem ok14 : cfun Go.Proofs.Try.prog [2000087, 2000105] [[0, 5, 8, 9, 10]] 14 = some ⟨23, [(.tmp 4)], c14_b, none⟩ := by kernel_rfl
/-! #### 15: R09_Join -/
def c15_l0 : SCode :=
  (.seq (.seq (.region [⟨(some 7), (.move (.tmp 6)), none, false⟩, ⟨(some 8), (.moveS 24 1 (.tmp 1)), none, false⟩, ⟨(some 9), (.len false (.tmp 8)), none, false⟩, ⟨(some 10), (.bin .lss 0 (.tmp 7) (.tmp 9)), none, false⟩] false) (.cond (.tmp 10) .skip (.exit 0))) (.seq (.block 1 (.region [⟨(some 13), (.moveS 94 2 (.tmp 5)), none, false⟩, ⟨(some 14), (.moveS 24 1 (.tmp 1)), none, false⟩, ⟨(some 15), (.move (.tmp 6)), none, false⟩, ⟨(some 16), (.indexAddr 1 (.tmp 14) (.tmp 15)), none, false⟩, ⟨(some 17), (.load false 1 (.tmp 16)), none, false⟩, ⟨(some 18), (.append 94 2 16 (.tmp 13) (.tmp 17)), none, false⟩, ⟨(some 5), (.moveS 94 2 (.tmp 18)), none, false⟩] false)) (.region [⟨(some 11), (.move (.tmp 6)), none, false⟩, ⟨(some 12), (.bin .add 0 (.tmp 11) (.cst (.int .i64 1))), none, false⟩, ⟨(some 6), (.move (.tmp 12)), none, false⟩] false)))
def c15_b : SCode :=
  (.seq (.region [⟨(some 4), (.nilRow 94 2), none, false⟩] false) (.seq (.region [⟨(some 5), (.nilRow 94 2), none, false⟩] false) (.seq (.seq (.region [⟨(some 6), (.move (.cst (.int .i64 0))), none, false⟩] false) (.block 0 (.loop [0, 1, 5, 6] c15_l0))) (.seq (.region [⟨(some 19), (.moveS 94 2 (.tmp 5)), none, false⟩, ⟨(some 20), (.move (.tmp 0)), none, false⟩, ⟨(some 21), (.build [(0, 1), (1, 1)] [(.int .i64 0), (.int .i64 0)] [(0, (.tmp 20))]), none, false⟩, ⟨(some 22), (.buildSlice 94 2 1 [(.int .i64 0), (.int .i64 0)] [(0, (.tmp 21))]), none, false⟩, ⟨(some 23), (.append 94 2 16 (.tmp 19) (.tmp 22)), none, false⟩, ⟨(some 4), (.moveS 94 2 (.tmp 23)), none, false⟩] false) .ret))))
def c15_k0 : SCode :=
  (.seq (.block 0 (.loop [0, 1, 5, 6] c15_l0)) (.seq (.region [⟨(some 19), (.moveS 94 2 (.tmp 5)), none, false⟩, ⟨(some 20), (.move (.tmp 0)), none, false⟩, ⟨(some 21), (.build [(0, 1), (1, 1)] [(.int .i64 0), (.int .i64 0)] [(0, (.tmp 20))]), none, false⟩, ⟨(some 22), (.buildSlice 94 2 1 [(.int .i64 0), (.int .i64 0)] [(0, (.tmp 21))]), none, false⟩, ⟨(some 23), (.append 94 2 16 (.tmp 19) (.tmp 22)), none, false⟩, ⟨(some 4), (.moveS 94 2 (.tmp 23)), none, false⟩] false) .ret))
def c15 : SFun := ⟨24, [(.tmp 4)], c15_b, none⟩
theorem ok15 : cfun Go.Proofs.Try.prog [2000087, 2000105] [[0, 1, 5, 6]] 15 = some ⟨24, [(.tmp 4)], c15_b, none⟩ := by kernel_rfl
/-! #### 16: need_Check -/
def c16_b : SCode :=
  (.seq (.region [⟨(some 2), (.move (.cst (.int .i64 0))), none, false⟩] false) (.seq (.seq (.region [⟨(some 4), (.moveS 94 2 (.tmp 0)), none, false⟩, ⟨(some 5), (.len false (.tmp 4)), none, false⟩, ⟨(some 6), (.bin .gtr 0 (.tmp 5) (.cst (.int .i64 31))), none, false⟩] false) (.cond (.tmp 6) (.seq (.region [⟨(some 2), (.move (.cst (.int .i64 4))), none, false⟩] false) .ret) .skip)) (.seq (.region [⟨(some 7), (.moveS 94 2 (.tmp 0)), none, false⟩, ⟨(some 8), (.callF (.val (.cst (.fn (.func 62) [] []))) 0 [(.tmp 7)]), none, false⟩, ⟨(some 3), (.move (.tmp 8)), none, false⟩] false) (.seq (.block 0 (.seq (.region [⟨(some 10), (.move (.tmp 3)), none, false⟩, ⟨(some 11), (.bin .eql 3 (.tmp 10) (.cst .nilI)), none, false⟩, ⟨(some 9), (.move (.tmp 11)), none, false⟩] false) (.cond (.tmp 9) (.seq (.region [⟨(some 2), (.move (.cst (.int .i64 1))), none, false⟩] false) .ret) (.seq (.region [⟨(some 13), (.move (.tmp 3)), none, false⟩, ⟨(some 14), (.call (.inv [(104, 134), (109, 136), (138, 138)] (.tmp 13)) 0 []), none, false⟩, ⟨(some 15), (.bin .gtr 0 (.tmp 14) (.cst (.int .i64 8))), none, false⟩, ⟨(some 12), (.move (.tmp 15)), none, false⟩] false) (.cond (.tmp 12) (.seq (.region [⟨(some 2), (.move (.cst (.int .i64 4))), none, false⟩] false) .ret) .skip))))) (.seq (.region [⟨(some 2), (.move (.cst (.int .i64 0))), none, false⟩] false) .ret)))))
def c16 : SFun := ⟨16, [(.tmp 2)], c16_b, none⟩
theorem ok16 : cfun Go.Proofs.Try.prog [2000087, 2000105] [] 16 = some ⟨16, [(.tmp 2)], c16_b, none⟩ := by kernel_rfl
/-! #### 20: need_Says -/
def c20_b : SCode :=
  (.seq (.region [⟨(some 4), (.move (.cst (.bool false))), none, false⟩] false) (.seq (.region [⟨(some 5), (.moveS 94 2 (.tmp 0)), none, false⟩, ⟨(some 6), (.callF (.val (.cst (.fn (.func 16) [] []))) 0 [(.tmp 5)]), none, false⟩, ⟨(some 7), (.bin .eql 0 (.tmp 6) (.cst (.int .i64 0))), none, false⟩, ⟨(some 8), (.move (.tmp 7)), none, false⟩, ⟨(some 9), (.moveS 94 2 (.tmp 0)), (some (8, true)), false⟩, ⟨(some 10), (.callF (.val (.cst (.fn (.func 62) [] []))) 0 [(.tmp 9)]), (some (8, true)), false⟩, ⟨(some 11), (.move (.tmp 1)), (some (8, true)), false⟩, ⟨(some 12), (.call (.inv [(104, 135), (109, 137), (138, 139)] (.tmp 10)) 0 [(.tmp 11)]), (some (8, true)), false⟩, ⟨(some 13), (.pick (.tmp 8) (.tmp 12) (.cst (.bool false))), none, false⟩, ⟨(some 4), (.move (.tmp 13)), none, false⟩] false) .ret))
def c20 : SFun := ⟨14, [(.tmp 4)], c20_b, none⟩
theorem ok20 : cfun Go.Proofs.Try.prog [2000087, 2000105] [] 20 = some ⟨14, [(.tmp 4)], c20_b, none⟩ := by kernel_rfl
/-! #### 21: need_Depth -/
def c21_b : SCode :=
  (.seq (.region [⟨(some 2), (.move (.cst (.int .i64 0))), none, false⟩] false) (.seq (.seq (.region [⟨(some 3), (.moveS 94 2 (.tmp 0)), none, false⟩, ⟨(some 4), (.callF (.val (.cst (.fn (.func 16) [] []))) 0 [(.tmp 3)]), none, false⟩, ⟨(some 5), (.bin .neq 0 (.tmp 4) (.cst (.int .i64 0))), none, false⟩] false) (.cond (.tmp 5) (.seq (.region [⟨(some 2), (.move (.cst (.int .i64 0))), none, false⟩] false) .ret) .skip)) (.seq (.region [⟨(some 6), (.moveS 94 2 (.tmp 0)), none, false⟩, ⟨(some 7), (.callF (.val (.cst (.fn (.func 62) [] []))) 0 [(.tmp 6)]), none, false⟩, ⟨(some 8), (.call (.inv [(104, 134), (109, 136), (138, 138)] (.tmp 7)) 0 []), none, false⟩, ⟨(some 2), (.move (.tmp 8)), none, false⟩] false) .ret)))
def c21 : SFun := ⟨9, [(.tmp 2)], c21_b, none⟩
theorem ok21 : cfun Go.Proofs.Try.prog [2000087, 2000105] [] 21 = some ⟨9, [(.tmp 2)], c21_b, none⟩ := by kernel_rfl
/-! #### 62: need_made -/
def c62_l0 : SCode :=
  (.seq (.region [⟨(some 11), (.bin .lss 0 (.tmp 10) (.tmp 9)), none, false⟩] false) (.seq (.cond (.tmp 11) .skip (.exit 0)) (.seq (.block 1 (.seq (.region [⟨(some 12), (.indexAddr 2 (.tmp 8) (.tmp 10)), none, false⟩, ⟨(some 13), (.load true 2 (.tmp 12)), none, false⟩, ⟨(some 5), (.alloc 94 [(.int .i64 0), (.int .i64 0)]), none, false⟩, ⟨none, (.store 2 (.tmp 5) (.tmp 13)), none, false⟩] false) (.seq (.region [⟨(some 14), (.moveS 96 1 (.tmp 3)), none, false⟩, ⟨(some 15), (.len false (.tmp 14)), none, false⟩, ⟨(some 16), (.fieldAddr (.tmp 5) 0), none, false⟩, ⟨(some 17), (.load false 1 (.tmp 16)), none, false⟩, ⟨(some 18), (.callF (.val (.cst (.fn (.func 95) [] []))) 0 [(.tmp 17)]), none, false⟩, ⟨(some 19), (.bin .sub 0 (.tmp 15) (.tmp 18)), none, false⟩, ⟨(some 6), (.move (.tmp 19)), none, false⟩] false) (.seq (.seq (.region [⟨(some 20), (.load true 2 (.tmp 5)), none, false⟩, ⟨(some 21), (.callF (.val (.cst (.fn (.func 96) [] []))) 0 [(.tmp 20)]), none, false⟩, ⟨(some 22), (.un .not (.tmp 21)), none, false⟩, ⟨(some 23), (.move (.tmp 22)), none, false⟩, ⟨(some 24), (.move (.tmp 6)), (some (23, false)), false⟩, ⟨(some 25), (.bin .lss 0 (.tmp 24) (.cst (.int .i64 0))), (some (23, false)), false⟩, ⟨(some 26), (.pick (.tmp 23) (.cst (.bool true)) (.tmp 25)), none, false⟩] false) (.cond (.tmp 26) (.seq (.region [⟨(some 2), (.move (.cst .nilI)), none, false⟩] false) .ret) .skip)) (.seq (.region [⟨(some 27), (.load true 2 (.tmp 5)), none, false⟩, ⟨(some 28), (.build [(0, 2)] [(.int .i64 0), (.int .i64 0)] [(0, (.tmp 27))]), none, false⟩, ⟨(some 29), (.mkIfc 138 (.tmp 28)), none, false⟩, ⟨(some 7), (.move (.tmp 29)), none, false⟩] false) (.seq (.seq (.region [⟨(some 30), (.fieldAddr (.tmp 5) 0), none, false⟩, ⟨(some 31), (.load false 1 (.tmp 30)), none, false⟩] false) (.block 2 (.seq (.region [⟨(some 33), (.bin .eql 0 (.tmp 31) (.cst (.int .i64 3))), none, false⟩, ⟨(some 32), (.move (.tmp 33)), none, false⟩] false) (.cond (.tmp 32) (.region [⟨(some 34), (.moveS 96 1 (.tmp 3)), none, false⟩, ⟨(some 35), (.move (.tmp 6)), none, false⟩, ⟨(some 36), (.indexAddr 1 (.tmp 34) (.tmp 35)), none, false⟩, ⟨(some 37), (.load false 1 (.tmp 36)), none, false⟩, ⟨(some 38), (.build [(0, 1)] [.nilI] [(0, (.tmp 37))]), none, false⟩, ⟨(some 39), (.mkIfc 109 (.tmp 38)), none, false⟩, ⟨(some 7), (.move (.tmp 39)), none, false⟩] false) (.seq (.seq (.region [⟨(some 41), (.bin .eql 0 (.tmp 31) (.cst (.int .i64 4))), none, false⟩, ⟨(some 40), (.move (.tmp 41)), none, false⟩] false) (.cond (.tmp 40) .skip (.region [⟨(some 42), (.bin .eql 0 (.tmp 31) (.cst (.int .i64 5))), none, false⟩, ⟨(some 40), (.move (.tmp 42)), none, false⟩] false))) (.cond (.tmp 40) (.region [⟨(some 43), (.fieldAddr (.tmp 5) 0), none, false⟩, ⟨(some 44), (.load false 1 (.tmp 43)), none, false⟩, ⟨(some 45), (.bin .eql 0 (.tmp 44) (.cst (.int .i64 5))), none, false⟩, ⟨(some 46), (.moveS 96 1 (.tmp 3)), none, false⟩, ⟨(some 47), (.move (.tmp 6)), none, false⟩, ⟨(some 48), (.indexAddr 1 (.tmp 46) (.tmp 47)), none, false⟩, ⟨(some 49), (.load false 1 (.tmp 48)), none, false⟩, ⟨(some 50), (.moveS 96 1 (.tmp 3)), none, false⟩, ⟨(some 51), (.move (.tmp 6)), none, false⟩, ⟨(some 52), (.bin .add 0 (.tmp 51) (.cst (.int .i64 1))), none, false⟩, ⟨(some 53), (.indexAddr 1 (.tmp 50) (.tmp 52)), none, false⟩, ⟨(some 54), (.load false 1 (.tmp 53)), none, false⟩, ⟨(some 55), (.build [(0, 1), (1, 1), (2, 1)] [(.bool false), .nilI, .nilI] [(0, (.tmp 45)), (1, (.tmp 49)), (2, (.tmp 54))]), none, true⟩, ⟨(some 56), (.mkIfc 104 (.tmp 55)), none, true⟩, ⟨(some 7), (.move (.tmp 56)), none, true⟩] true) .skip)))))) (.region [⟨(some 57), (.moveS 96 1 (.tmp 3)), none, false⟩, ⟨(some 58), (.move (.tmp 6)), none, false⟩, ⟨(some 59), (.slice 1 (.tmp 57) none (some (.tmp 58)) none), none, false⟩, ⟨(some 60), (.move (.tmp 7)), none, false⟩, ⟨(some 61), (.buildSlice 96 1 1 [.nilI] [(0, (.tmp 60))]), none, false⟩, ⟨(some 62), (.append 96 1 16 (.tmp 59) (.tmp 61)), none, false⟩, ⟨(some 3), (.moveS 96 1 (.tmp 62)), none, false⟩] false))))))) (.region [⟨(some 63), (.bin .add 0 (.tmp 10) (.cst (.int .i64 1))), none, false⟩, ⟨(some 10), (.move (.tmp 63)), none, false⟩] false))))
def c62_b : SCode :=
  (.seq (.region [⟨(some 2), (.move (.cst .nilI)), none, false⟩] false) (.seq (.region [⟨(some 3), (.nilRow 96 1), none, false⟩] false) (.seq (.seq (.region [⟨(some 8), (.moveS 94 2 (.tmp 0)), none, false⟩, ⟨(some 9), (.len false (.tmp 8)), none, false⟩, ⟨(some 10), (.move (.cst (.int .i64 0))), none, false⟩] false) (.block 0 (.loop [3, 8, 9, 10] c62_l0))) (.seq (.seq (.region [⟨(some 64), (.moveS 96 1 (.tmp 3)), none, false⟩, ⟨(some 65), (.len false (.tmp 64)), none, false⟩, ⟨(some 66), (.bin .neq 0 (.tmp 65) (.cst (.int .i64 1))), none, false⟩] false) (.cond (.tmp 66) (.seq (.region [⟨(some 2), (.move (.cst .nilI)), none, false⟩] false) .ret) .skip)) (.seq (.region [⟨(some 67), (.moveS 96 1 (.tmp 3)), none, false⟩, ⟨(some 68), (.indexAddr 1 (.tmp 67) (.cst (.int .i64 0))), none, false⟩, ⟨(some 69), (.load false 1 (.tmp 68)), none, false⟩, ⟨(some 2), (.move (.tmp 69)), none, false⟩] false) .ret)))))
def c62_k0 : SCode :=
  (.seq (.block 0 (.loop [3, 8, 9, 10] c62_l0)) (.seq (.seq (.region [⟨(some 64), (.moveS 96 1 (.tmp 3)), none, false⟩, ⟨(some 65), (.len false (.tmp 64)), none, false⟩, ⟨(some 66), (.bin .neq 0 (.tmp 65) (.cst (.int .i64 1))), none, false⟩] false) (.cond (.tmp 66) (.seq (.region [⟨(some 2), (.move (.cst .nilI)), none, false⟩] false) .ret) .skip)) (.seq (.region [⟨(some 67), (.moveS 96 1 (.tmp 3)), none, false⟩, ⟨(some 68), (.indexAddr 1 (.tmp 67) (.cst (.int .i64 0))), none, false⟩, ⟨(some 69), (.load false 1 (.tmp 68)), none, false⟩, ⟨(some 2), (.move (.tmp 69)), none, false⟩] false) .ret)))
def c62 : SFun := ⟨70, [(.tmp 2)], c62_b, none⟩
theorem ok62 : cfun Go.Proofs.Try.prog [2000087, 2000105] [[3, 8, 9, 10]] 62 = some ⟨70, [(.tmp 2)], c62_b, none⟩ := by kernel_rfl
/-! #### 95: need_parts -/
def c95_b : SCode :=
  (.seq (.region [⟨(some 2), (.move (.cst (.int .i64 0))), none, false⟩] false) (.seq (.seq (.region [⟨(some 3), (.move (.tmp 0)), none, false⟩] false) (.block 0 (.seq (.region [⟨(some 5), (.bin .eql 0 (.tmp 3) (.cst (.int .i64 3))), none, false⟩, ⟨(some 4), (.move (.tmp 5)), none, false⟩] false) (.cond (.tmp 4) (.seq (.region [⟨(some 2), (.move (.cst (.int .i64 1))), none, false⟩] false) .ret) (.seq (.seq (.region [⟨(some 7), (.bin .eql 0 (.tmp 3) (.cst (.int .i64 4))), none, false⟩, ⟨(some 6), (.move (.tmp 7)), none, false⟩] false) (.cond (.tmp 6) .skip (.region [⟨(some 8), (.bin .eql 0 (.tmp 3) (.cst (.int .i64 5))), none, false⟩, ⟨(some 6), (.move (.tmp 8)), none, false⟩] false))) (.cond (.tmp 6) (.seq (.region [⟨(some 2), (.move (.cst (.int .i64 2))), none, false⟩] false) .ret) .skip)))))) (.seq (.region [⟨(some 2), (.move (.cst (.int .i64 0))), none, false⟩] false) .ret)))
def c95 : SFun := ⟨9, [(.tmp 2)], c95_b, none⟩
theorem ok95 : cfun Go.Proofs.Try.prog [2000087, 2000105] [] 95 = some ⟨9, [(.tmp 2)], c95_b, none⟩ := by kernel_rfl
/-! #### 96: need_may -/
def c96_b : SCode :=
  (.seq (.region [⟨(some 1), (.box 94 (.tmp 0)), none, false⟩, ⟨(some 2), (.move (.cst (.bool false))), none, false⟩] false) (.seq (.seq (.region [⟨(some 3), (.fieldAddr (.tmp 1) 0), none, false⟩, ⟨(some 4), (.load false 1 (.tmp 3)), none, false⟩, ⟨(some 5), (.bin .eql 0 (.tmp 4) (.cst (.int .i64 2))), none, false⟩] false) (.cond (.tmp 5) (.seq (.region [⟨(some 6), (.fieldAddr (.tmp 1) 1), none, false⟩, ⟨(some 7), (.load false 1 (.tmp 6)), none, false⟩, ⟨(some 8), (.bin .geq 0 (.tmp 7) (.cst (.int .i64 0))), none, false⟩, ⟨(some 9), (.move (.tmp 8)), none, false⟩, ⟨(some 10), (.fieldAddr (.tmp 1) 1), (some (9, true)), false⟩, ⟨(some 11), (.load false 1 (.tmp 10)), (some (9, true)), false⟩, ⟨(some 12), (.bin .lss 0 (.tmp 11) (.cst (.int .i64 16))), (some (9, true)), false⟩, ⟨(some 13), (.pick (.tmp 9) (.tmp 12) (.cst (.bool false))), none, false⟩, ⟨(some 2), (.move (.tmp 13)), none, false⟩] false) .ret) .skip)) (.seq (.region [⟨(some 14), (.fieldAddr (.tmp 1) 0), none, false⟩, ⟨(some 15), (.load false 1 (.tmp 14)), none, false⟩, ⟨(some 16), (.bin .geq 0 (.tmp 15) (.cst (.int .i64 1))), none, false⟩, ⟨(some 17), (.move (.tmp 16)), none, false⟩, ⟨(some 18), (.fieldAddr (.tmp 1) 0), (some (17, true)), false⟩, ⟨(some 19), (.load false 1 (.tmp 18)), (some (17, true)), false⟩, ⟨(some 20), (.bin .leq 0 (.tmp 19) (.cst (.int .i64 5))), (some (17, true)), false⟩, ⟨(some 21), (.pick (.tmp 17) (.tmp 20) (.cst (.bool false))), none, false⟩, ⟨(some 22), (.move (.tmp 21)), none, false⟩, ⟨(some 23), (.fieldAddr (.tmp 1) 1), (some (22, true)), false⟩, ⟨(some 24), (.load false 1 (.tmp 23)), (some (22, true)), false⟩, ⟨(some 25), (.bin .eql 0 (.tmp 24) (.cst (.int .i64 0))), (some (22, true)), false⟩, ⟨(some 26), (.pick (.tmp 22) (.tmp 25) (.cst (.bool false))), none, false⟩, ⟨(some 2), (.move (.tmp 26)), none, false⟩] false) .ret)))
def c96 : SFun := ⟨27, [(.tmp 2)], c96_b, none⟩
theorem ok96 : cfun Go.Proofs.Try.prog [2000087, 2000105] [] 96 = some ⟨27, [(.tmp 2)], c96_b, none⟩ := by kernel_rfl
/-! #### 97: flock_is -/
def c97_b : SCode :=
  (.seq (.region [⟨(some 2), (.move (.cst (.bool false))), none, false⟩] false) (.seq (.region [⟨(some 3), (.move (.tmp 0)), none, false⟩, ⟨(some 4), (.bin .geq 0 (.tmp 3) (.cst (.int .i64 0))), none, false⟩, ⟨(some 5), (.move (.tmp 4)), none, false⟩, ⟨(some 6), (.move (.tmp 0)), (some (5, true)), false⟩, ⟨(some 7), (.bin .lss 0 (.tmp 6) (.cst (.int .i64 64))), (some (5, true)), false⟩, ⟨(some 8), (.pick (.tmp 5) (.tmp 7) (.cst (.bool false))), none, false⟩, ⟨(some 2), (.move (.tmp 8)), none, false⟩] false) .ret))
def c97 : SFun := ⟨9, [(.tmp 2)], c97_b, none⟩
theorem ok97 : cfun Go.Proofs.Try.prog [2000087, 2000105] [] 97 = some ⟨9, [(.tmp 2)], c97_b, none⟩ := by kernel_rfl
/-! #### 134: need_pair_deep -/
def c134_b : SCode :=
  (.seq (.region [⟨(some 1), (.box 104 (.tmp 0)), none, false⟩, ⟨(some 2), (.move (.cst (.int .i64 0))), none, false⟩] false) (.seq (.region [⟨(some 3), (.fieldAddr (.tmp 1) 1), none, false⟩, ⟨(some 4), (.load false 1 (.tmp 3)), none, false⟩, ⟨(some 5), (.call (.inv [(104, 134), (109, 136), (138, 138)] (.tmp 4)) 0 []), none, false⟩, ⟨(some 6), (.fieldAddr (.tmp 1) 2), none, false⟩, ⟨(some 7), (.load false 1 (.tmp 6)), none, false⟩, ⟨(some 8), (.call (.inv [(104, 134), (109, 136), (138, 138)] (.tmp 7)) 0 []), none, true⟩, ⟨(some 9), (.minmax true [(.tmp 5), (.tmp 8)]), none, true⟩, ⟨(some 10), (.bin .add 0 (.tmp 9) (.cst (.int .i64 1))), none, true⟩, ⟨(some 2), (.move (.tmp 10)), none, true⟩] true) .ret))
def c134 : SFun := ⟨11, [(.tmp 2)], c134_b, none⟩
theorem ok134 : cfun Go.Proofs.Try.prog [2000087, 2000105] [] 134 = some ⟨11, [(.tmp 2)], c134_b, none⟩ := by kernel_rfl
/-! #### 135: need_pair_says -/
def c135_b : SCode :=
  (.seq (.region [⟨(some 2), (.box 104 (.tmp 0)), none, false⟩, ⟨(some 4), (.move (.cst (.bool false))), none, false⟩] false) (.seq (.seq (.region [⟨(some 5), (.fieldAddr (.tmp 2) 0), none, false⟩, ⟨(some 6), (.load false 1 (.tmp 5)), none, false⟩] false) (.cond (.tmp 6) (.seq (.region [⟨(some 7), (.fieldAddr (.tmp 2) 1), none, false⟩, ⟨(some 8), (.load false 1 (.tmp 7)), none, false⟩, ⟨(some 9), (.move (.tmp 1)), none, false⟩, ⟨(some 10), (.call (.inv [(104, 135), (109, 137), (138, 139)] (.tmp 8)) 0 [(.tmp 9)]), none, false⟩, ⟨(some 11), (.move (.tmp 10)), none, false⟩, ⟨(some 12), (.fieldAddr (.tmp 2) 2), (some (11, false)), false⟩, ⟨(some 13), (.load false 1 (.tmp 12)), (some (11, false)), false⟩, ⟨(some 14), (.move (.tmp 1)), (some (11, false)), false⟩, ⟨(some 15), (.call (.inv [(104, 135), (109, 137), (138, 139)] (.tmp 13)) 0 [(.tmp 14)]), (some (11, false)), false⟩, ⟨(some 16), (.pick (.tmp 11) (.cst (.bool true)) (.tmp 15)), none, false⟩, ⟨(some 4), (.move (.tmp 16)), none, false⟩] false) .ret) .skip)) (.seq (.region [⟨(some 17), (.fieldAddr (.tmp 2) 1), none, false⟩, ⟨(some 18), (.load false 1 (.tmp 17)), none, false⟩, ⟨(some 19), (.move (.tmp 1)), none, false⟩, ⟨(some 20), (.call (.inv [(104, 135), (109, 137), (138, 139)] (.tmp 18)) 0 [(.tmp 19)]), none, false⟩, ⟨(some 21), (.move (.tmp 20)), none, false⟩, ⟨(some 22), (.fieldAddr (.tmp 2) 2), (some (21, true)), false⟩, ⟨(some 23), (.load false 1 (.tmp 22)), (some (21, true)), false⟩, ⟨(some 24), (.move (.tmp 1)), (some (21, true)), false⟩, ⟨(some 25), (.call (.inv [(104, 135), (109, 137), (138, 139)] (.tmp 23)) 0 [(.tmp 24)]), (some (21, true)), false⟩, ⟨(some 26), (.pick (.tmp 21) (.tmp 25) (.cst (.bool false))), none, false⟩, ⟨(some 4), (.move (.tmp 26)), none, false⟩] false) .ret)))
def c135 : SFun := ⟨27, [(.tmp 4)], c135_b, none⟩
theorem ok135 : cfun Go.Proofs.Try.prog [2000087, 2000105] [] 135 = some ⟨27, [(.tmp 4)], c135_b, none⟩ := by kernel_rfl
/-! #### 136: need_turned_deep -/
def c136_b : SCode :=
  (.seq (.region [⟨(some 1), (.box 109 (.tmp 0)), none, false⟩, ⟨(some 2), (.move (.cst (.int .i64 0))), none, false⟩] false) (.seq (.region [⟨(some 3), (.fieldAddr (.tmp 1) 0), none, false⟩, ⟨(some 4), (.load false 1 (.tmp 3)), none, false⟩, ⟨(some 5), (.call (.inv [(104, 134), (109, 136), (138, 138)] (.tmp 4)) 0 []), none, false⟩, ⟨(some 6), (.bin .add 0 (.tmp 5) (.cst (.int .i64 1))), none, false⟩, ⟨(some 2), (.move (.tmp 6)), none, false⟩] false) .ret))
def c136 : SFun := ⟨7, [(.tmp 2)], c136_b, none⟩
theorem ok136 : cfun Go.Proofs.Try.prog [2000087, 2000105] [] 136 = some ⟨7, [(.tmp 2)], c136_b, none⟩ := by kernel_rfl
/-! #### 137: need_turned_says -/
def c137_b : SCode :=
  (.seq (.region [⟨(some 2), (.box 109 (.tmp 0)), none, false⟩, ⟨(some 4), (.move (.cst (.bool false))), none, false⟩] false) (.seq (.region [⟨(some 5), (.fieldAddr (.tmp 2) 0), none, false⟩, ⟨(some 6), (.load false 1 (.tmp 5)), none, false⟩, ⟨(some 7), (.move (.tmp 1)), none, false⟩, ⟨(some 8), (.call (.inv [(104, 135), (109, 137), (138, 139)] (.tmp 6)) 0 [(.tmp 7)]), none, false⟩, ⟨(some 9), (.un .not (.tmp 8)), none, false⟩, ⟨(some 4), (.move (.tmp 9)), none, false⟩] false) .ret))
def c137 : SFun := ⟨10, [(.tmp 4)], c137_b, none⟩
theorem ok137 : cfun Go.Proofs.Try.prog [2000087, 2000105] [] 137 = some ⟨10, [(.tmp 4)], c137_b, none⟩ := by kernel_rfl
/-! #### 138: need_leaf_deep -/
def c138_b : SCode :=
  (.seq (.region [⟨(some 1), (.box 138 (.tmp 0)), none, false⟩, ⟨(some 2), (.move (.cst (.int .i64 0))), none, false⟩] false) (.seq (.region [⟨(some 2), (.move (.cst (.int .i64 1))), none, false⟩] false) .ret))
def c138 : SFun := ⟨3, [(.tmp 2)], c138_b, none⟩
theorem ok138 : cfun Go.Proofs.Try.prog [2000087, 2000105] [] 138 = some ⟨3, [(.tmp 2)], c138_b, none⟩ := by kernel_rfl
/-! #### 139: need_leaf_says -/
def c139_b : SCode :=
  (.seq (.region [⟨(some 2), (.box 138 (.tmp 0)), none, false⟩, ⟨(some 4), (.move (.cst (.bool false))), none, false⟩] false) (.seq (.region [⟨(some 5), (.fieldAddr (.tmp 2) 0), none, false⟩, ⟨(some 6), (.fieldAddr (.tmp 5) 0), none, false⟩, ⟨(some 7), (.load false 1 (.tmp 6)), none, false⟩, ⟨(some 8), (.bin .eql 0 (.tmp 7) (.cst (.int .i64 1))), none, false⟩, ⟨(some 9), (.move (.tmp 8)), none, false⟩, ⟨(some 10), (.move (.tmp 1)), (some (9, false)), false⟩, ⟨(some 11), (.fieldAddr (.tmp 2) 0), (some (9, false)), false⟩, ⟨(some 12), (.fieldAddr (.tmp 11) 1), (some (9, false)), false⟩, ⟨(some 13), (.load false 1 (.tmp 12)), (some (9, false)), false⟩, ⟨(some 14), (.callF (.val (.cst (.fn (.func 140) [] []))) 0 [(.tmp 10), (.tmp 13)]), (some (9, false)), false⟩, ⟨(some 15), (.pick (.tmp 9) (.cst (.bool true)) (.tmp 14)), none, false⟩, ⟨(some 4), (.move (.tmp 15)), none, false⟩] false) .ret))
def c139 : SFun := ⟨16, [(.tmp 4)], c139_b, none⟩
theorem ok139 : cfun Go.Proofs.Try.prog [2000087, 2000105] [] 139 = some ⟨16, [(.tmp 4)], c139_b, none⟩ := by kernel_rfl
/-! #### 140: flock_Has -/
def c140_b : SCode :=
  (.seq (.region [⟨(some 4), (.move (.cst (.bool false))), none, false⟩] false) (.seq (.region [⟨(some 5), (.move (.tmp 1)), none, false⟩, ⟨(some 6), (.callF (.val (.cst (.fn (.func 97) [] []))) 0 [(.tmp 5)]), none, false⟩, ⟨(some 7), (.move (.tmp 6)), none, false⟩, ⟨(some 8), (.move (.tmp 0)), (some (7, true)), false⟩, ⟨(some 9), (.move (.tmp 1)), (some (7, true)), false⟩, ⟨(some 10), (.bin .shr 0 (.tmp 8) (.tmp 9)), (some (7, true)), false⟩, ⟨(some 11), (.bin .and 0 (.tmp 10) (.cst (.int .u64 1))), (some (7, true)), false⟩, ⟨(some 12), (.bin .eql 0 (.tmp 11) (.cst (.int .u64 1))), (some (7, true)), false⟩, ⟨(some 13), (.pick (.tmp 7) (.tmp 12) (.cst (.bool false))), none, false⟩, ⟨(some 4), (.move (.tmp 13)), none, false⟩] false) .ret))
def c140 : SFun := ⟨14, [(.tmp 4)], c140_b, none⟩
theorem ok140 : cfun Go.Proofs.Try.prog [2000087, 2000105] [] 140 = some ⟨14, [(.tmp 4)], c140_b, none⟩ := by kernel_rfl
def T : Nat → Option SFun
  | 3 => some c3
  | 12 => some c12
  | 13 => some c13
  | 14 => some c14
  | 15 => some c15
  | 16 => some c16
  | 20 => some c20
  | 21 => some c21
  | 62 => some c62
  | 95 => some c95
  | 96 => some c96
  | 97 => some c97
  | 134 => some c134
  | 135 => some c135
  | 136 => some c136
  | 137 => some c137
  | 138 => some c138
  | 139 => some c139
  | 140 => some c140
  | _ => none
theorem tok : TOk Go.Proofs.Try.prog T := by
  intro f s h
  unfold T at h
  split at h
  · cases h; exact .inl ⟨rfl, _, _, ok3⟩
  · cases h; exact .inl ⟨rfl, _, _, ok12⟩
  · cases h; exact .inl ⟨rfl, _, _, ok13⟩
  · cases h; exact .inl ⟨rfl, _, _, ok14⟩
  · cases h; exact .inl ⟨rfl, _, _, ok15⟩
  · cases h; exact .inl ⟨rfl, _, _, ok16⟩
  · cases h; exact .inl ⟨rfl, _, _, ok20⟩
  · cases h; exact .inl ⟨rfl, _, _, ok21⟩
  · cases h; exact .inl ⟨rfl, _, _, ok62⟩
  · cases h; exact .inl ⟨rfl, _, _, ok95⟩
  · cases h; exact .inl ⟨rfl, _, _, ok96⟩
  · cases h; exact .inl ⟨rfl, _, _, ok97⟩
  · cases h; exact .inl ⟨rfl, _, _, ok134⟩
  · cases h; exact .inl ⟨rfl, _, _, ok135⟩
  · cases h; exact .inl ⟨rfl, _, _, ok136⟩
  · cases h; exact .inl ⟨rfl, _, _, ok137⟩
  · cases h; exact .inl ⟨rfl, _, _, ok138⟩
  · cases h; exact .inl ⟨rfl, _, _, ok139⟩
  · cases h; exact .inl ⟨rfl, _, _, ok140⟩
  · cases h
@[simp] theorem T3 : T 3 = some c3 := rfl
@[simp] theorem T12 : T 12 = some c12 := rfl
@[simp] theorem T13 : T 13 = some c13 := rfl
@[simp] theorem T14 : T 14 = some c14 := rfl
@[simp] theorem T15 : T 15 = some c15 := rfl
@[simp] theorem T16 : T 16 = some c16 := rfl
@[simp] theorem T20 : T 20 = some c20 := rfl
@[simp] theorem T21 : T 21 = some c21 := rfl
@[simp] theorem T62 : T 62 = some c62 := rfl
@[simp] theorem T95 : T 95 = some c95 := rfl
@[simp] theorem T96 : T 96 = some c96 := rfl
@[simp] theorem T97 : T 97 = some c97 := rfl
@[simp] theorem T134 : T 134 = some c134 := rfl
@[simp] theorem T135 : T 135 = some c135 := rfl
@[simp] theorem T136 : T 136 = some c136 := rfl
@[simp] theorem T137 : T 137 = some c137 := rfl
@[simp] theorem T138 : T 138 = some c138 := rfl
@[simp] theorem T139 : T 139 = some c139 := rfl
@[simp] theorem T140 : T 140 = some c140 := rfl
end Go.Proofs.Ytnobgooojbppbab.TNJ
