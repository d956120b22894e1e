/- The code is the program's. Printed. -/
import Derived.Test.YteookcnimfaelaaM25
import Derived.Test.YteookcnimfaelaaRows
set_option linter.unusedVariables false
set_option linter.unusedSimpArgs false
namespace Go.Mw
open Go.Proofs
set_option maxRecDepth 100000
theorem ok_w04_PruneHollow : compF Try.prog f_w04_PruneHollow s_w04_PruneHollow = some (bare F_w04_PruneHollow.body, F_w04_PruneHollow.res, F_w04_PruneHollow.nt) := by kernel_rfl
theorem ok_w04_light : compF Try.prog f_w04_light s_w04_light = some (bare F_w04_light.body, F_w04_light.res, F_w04_light.nt) := by kernel_rfl
theorem ok_w04_awake : compF Try.prog f_w04_awake s_w04_awake = some (bare F_w04_awake.body, F_w04_awake.res, F_w04_awake.nt) := by kernel_rfl
theorem ok_r03_Is : compF Try.prog f_r03_Is s_r03_Is = some (bare F_r03_Is.body, F_r03_Is.res, F_r03_Is.nt) := by kernel_rfl
theorem ok_prune_Trim : compF Try.prog f_prune_Trim s_prune_Trim = some (bare F_prune_Trim.body, F_prune_Trim.res, F_prune_Trim.nt) := by kernel_rfl
theorem ok_r03_Copy : compF Try.prog f_r03_Copy s_r03_Copy = some (bare F_r03_Copy.body, F_r03_Copy.res, F_r03_Copy.nt) := by kernel_rfl
theorem ok_r01_SameInts : compF Try.prog f_r01_SameInts s_r01_SameInts = some (bare F_r01_SameInts.body, F_r01_SameInts.res, F_r01_SameInts.nt) := by kernel_rfl
theorem ok_r04_Hollow : compF Try.prog f_r04_Hollow s_r04_Hollow = some (bare F_r04_Hollow.body, F_r04_Hollow.res, F_r04_Hollow.nt) := by kernel_rfl
theorem ok_prune_Some : compF Try.prog f_prune_Some s_prune_Some = some (bare F_prune_Some.body, F_prune_Some.res, F_prune_Some.nt) := by kernel_rfl
theorem ok_r04_Places : compF Try.prog f_r04_Places s_r04_Places = some (bare F_r04_Places.body, F_r04_Places.res, F_r04_Places.nt) := by kernel_rfl
theorem ok_r04_IsLadder : compF Try.prog f_r04_IsLadder s_r04_IsLadder = some (bare F_r04_IsLadder.body, F_r04_IsLadder.res, F_r04_IsLadder.nt) := by kernel_rfl
theorem ok_prune_Hollow : compF Try.prog f_prune_Hollow s_prune_Hollow = some (bare F_prune_Hollow.body, F_prune_Hollow.res, F_prune_Hollow.nt) := by kernel_rfl
theorem ok_prune_Ladder : compF Try.prog f_prune_Ladder s_prune_Ladder = some (bare F_prune_Ladder.body, F_prune_Ladder.res, F_prune_Ladder.nt) := by kernel_rfl
theorem ok_prune_IsLadder : compF Try.prog f_prune_IsLadder s_prune_IsLadder = some (bare F_prune_IsLadder.body, F_prune_IsLadder.res, F_prune_IsLadder.nt) := by kernel_rfl
theorem ok_r03_Few : compF Try.prog f_r03_Few s_r03_Few = some (bare F_r03_Few.body, F_r03_Few.res, F_r03_Few.nt) := by kernel_rfl
theorem ok_w04_twigs : compF Try.prog f_w04_twigs s_w04_twigs = some (bare F_w04_twigs.body, F_w04_twigs.res, F_w04_twigs.nt) := by kernel_rfl
theorem ok_r01_Is : compF Try.prog f_r01_Is s_r01_Is = some (bare F_r01_Is.body, F_r01_Is.res, F_r01_Is.nt) := by kernel_rfl
theorem ok_r03_state : compF Try.prog f_r03_state s_r03_state = some (bare F_r03_state.body, F_r03_state.res, F_r03_state.nt) := by kernel_rfl
theorem ok_spec_Valid : compF Try.prog f_spec_Valid s_spec_Valid = some (bare F_spec_Valid.body, F_spec_Valid.res, F_spec_Valid.nt) := by kernel_rfl
theorem ok_prune_Trimmed : compF Try.prog f_prune_Trimmed s_prune_Trimmed = some (bare F_prune_Trimmed.body, F_prune_Trimmed.res, F_prune_Trimmed.nt) := by kernel_rfl
theorem ok_r04_allFall : compF Try.prog f_r04_allFall s_r04_allFall = some (bare F_r04_allFall.body, F_r04_allFall.res, F_r04_allFall.nt) := by kernel_rfl
theorem ok_prune_Witness : compF Try.prog f_prune_Witness s_prune_Witness = some (bare F_prune_Witness.body, F_prune_Witness.res, F_prune_Witness.nt) := by kernel_rfl
theorem ok_slices_SortZitit : compF Try.prog f_slices_SortZitit s_slices_SortZitit = some (bare F_slices_SortZitit.body, F_slices_SortZitit.res, F_slices_SortZitit.nt) := by kernel_rfl
theorem ok_prune_rungs : compF Try.prog f_prune_rungs s_prune_rungs = some (bare F_prune_rungs.body, F_prune_rungs.res, F_prune_rungs.nt) := by kernel_rfl
theorem ok_prune_Rests : compF Try.prog f_prune_Rests s_prune_Rests = some (bare F_prune_Rests.body, F_prune_Rests.res, F_prune_Rests.nt) := by kernel_rfl
theorem ok_r01_Name : compF Try.prog f_r01_Name s_r01_Name = some (bare F_r01_Name.body, F_r01_Name.res, F_r01_Name.nt) := by kernel_rfl
theorem ok_r01_Index : compF Try.prog f_r01_Index s_r01_Index = some (bare F_r01_Index.body, F_r01_Index.res, F_r01_Index.nt) := by kernel_rfl
theorem ok_r01_Rising : compF Try.prog f_r01_Rising s_r01_Rising = some (bare F_r01_Rising.body, F_r01_Rising.res, F_r01_Rising.nt) := by kernel_rfl
theorem ok_r01_Set : compF Try.prog f_r01_Set s_r01_Set = some (bare F_r01_Set.body, F_r01_Set.res, F_r01_Set.nt) := by kernel_rfl
theorem ok_r01_List : compF Try.prog f_r01_List s_r01_List = some (bare F_r01_List.body, F_r01_List.res, F_r01_List.nt) := by kernel_rfl
theorem ok_r04_falls : compF Try.prog f_r04_falls s_r04_falls = some (bare F_r04_falls.body, F_r04_falls.res, F_r04_falls.nt) := by kernel_rfl
theorem ok_r01_Has : compF Try.prog f_r01_Has s_r01_Has = some (bare F_r01_Has.body, F_r01_Has.res, F_r01_Has.nt) := by kernel_rfl
theorem ok_act_Valid : compF Try.prog f_act_Valid s_act_Valid = some (bare F_act_Valid.body, F_act_Valid.res, F_act_Valid.nt) := by kernel_rfl
theorem ok_slices_CloneZsgsg : compF Try.prog f_slices_CloneZsgsg s_slices_CloneZsgsg = some (bare F_slices_CloneZsgsg.body, F_slices_CloneZsgsg.res, F_slices_CloneZsgsg.nt) := by kernel_rfl
theorem ok_prune_Left : compF Try.prog f_prune_Left s_prune_Left = some (bare F_prune_Left.body, F_prune_Left.res, F_prune_Left.nt) := by kernel_rfl
theorem ok_spec_Nothing : compF Try.prog f_spec_Nothing s_spec_Nothing = some (bare F_spec_Nothing.body, F_spec_Nothing.res, F_spec_Nothing.nt) := by kernel_rfl
theorem ok_slices_RepeatZitit : compF Try.prog f_slices_RepeatZitit s_slices_RepeatZitit = some (bare F_slices_RepeatZitit.body, F_slices_RepeatZitit.res, F_slices_RepeatZitit.nt) := by kernel_rfl
theorem ok_act_In : compF Try.prog f_act_In s_act_In = some (bare F_act_In.body, F_act_In.res, F_act_In.nt) := by kernel_rfl
theorem ok_slices_ContainsZitit : compF Try.prog f_slices_ContainsZitit s_slices_ContainsZitit = some (bare F_slices_ContainsZitit.body, F_slices_ContainsZitit.res, F_slices_ContainsZitit.nt) := by kernel_rfl
theorem ok_slices_SortFuncZaiEeai : compF Try.prog f_slices_SortFuncZaiEeai s_slices_SortFuncZaiEeai = some (bare F_slices_SortFuncZaiEeai.body, F_slices_SortFuncZaiEeai.res, F_slices_SortFuncZaiEeai.nt) := by kernel_rfl
theorem ok_prune_Witness_1 : compF Try.prog f_prune_Witness_1 s_prune_Witness_1 = some (bare F_prune_Witness_1.body, F_prune_Witness_1.res, F_prune_Witness_1.nt) := by kernel_rfl
theorem ok_slices_pdqsortOrdered_int_ : compF Try.prog f_slices_pdqsortOrdered_int_ s_slices_pdqsortOrdered_int_ = some (bare F_slices_pdqsortOrdered_int_.body, F_slices_pdqsortOrdered_int_.res, F_slices_pdqsortOrdered_int_.nt) := by kernel_rfl
theorem ok_math_bits_Len : compF Try.prog f_math_bits_Len s_math_bits_Len = some (bare F_math_bits_Len.body, F_math_bits_Len.res, F_math_bits_Len.nt) := by kernel_rfl
theorem ok_prune_rungs_1 : compF Try.prog f_prune_rungs_1 s_prune_rungs_1 = some (bare F_prune_rungs_1.body, F_prune_rungs_1.res, F_prune_rungs_1.nt) := by kernel_rfl
theorem ok_r01_letter : compF Try.prog f_r01_letter s_r01_letter = some (bare F_r01_letter.body, F_r01_letter.res, F_r01_letter.nt) := by kernel_rfl
theorem ok_act_Name : compF Try.prog f_act_Name s_act_Name = some (bare F_act_Name.body, F_act_Name.res, F_act_Name.nt) := by kernel_rfl
theorem ok_slices_ContainsZsgsg : compF Try.prog f_slices_ContainsZsgsg s_slices_ContainsZsgsg = some (bare F_slices_ContainsZsgsg.body, F_slices_ContainsZsgsg.res, F_slices_ContainsZsgsg.nt) := by kernel_rfl
theorem ok_prune_Left_1 : compF Try.prog f_prune_Left_1 s_prune_Left_1 = some (bare F_prune_Left_1.body, F_prune_Left_1.res, F_prune_Left_1.nt) := by kernel_rfl
theorem ok_prune_Hollows : compF Try.prog f_prune_Hollows s_prune_Hollows = some (bare F_prune_Hollows.body, F_prune_Hollows.res, F_prune_Hollows.nt) := by kernel_rfl
theorem ok_math_bits_Mul : compF Try.prog f_math_bits_Mul s_math_bits_Mul = some (bare F_math_bits_Mul.body, F_math_bits_Mul.res, F_math_bits_Mul.nt) := by kernel_rfl
theorem ok_act_In_1 : compF Try.prog f_act_In_1 s_act_In_1 = some (bare F_act_In_1.body, F_act_In_1.res, F_act_In_1.nt) := by kernel_rfl
theorem ok_slices_IndexZitit : compF Try.prog f_slices_IndexZitit s_slices_IndexZitit = some (bare F_slices_IndexZitit.body, F_slices_IndexZitit.res, F_slices_IndexZitit.nt) := by kernel_rfl
theorem ok_slices_pdqsortCmpFunc_api_Edge_ : compF Try.prog f_slices_pdqsortCmpFunc_api_Edge_ s_slices_pdqsortCmpFunc_api_Edge_ = some (bare F_slices_pdqsortCmpFunc_api_Edge_.body, F_slices_pdqsortCmpFunc_api_Edge_.res, F_slices_pdqsortCmpFunc_api_Edge_.nt) := by kernel_rfl
theorem ok_slices_insertionSortOrdered_int_ : compF Try.prog f_slices_insertionSortOrdered_int_ s_slices_insertionSortOrdered_int_ = some (bare F_slices_insertionSortOrdered_int_.body, F_slices_insertionSortOrdered_int_.res, F_slices_insertionSortOrdered_int_.nt) := by kernel_rfl
theorem ok_slices_heapSortOrdered_int_ : compF Try.prog f_slices_heapSortOrdered_int_ s_slices_heapSortOrdered_int_ = some (bare F_slices_heapSortOrdered_int_.body, F_slices_heapSortOrdered_int_.res, F_slices_heapSortOrdered_int_.nt) := by kernel_rfl
theorem ok_slices_breakPatternsOrdered_int_ : compF Try.prog f_slices_breakPatternsOrdered_int_ s_slices_breakPatternsOrdered_int_ = some (bare F_slices_breakPatternsOrdered_int_.body, F_slices_breakPatternsOrdered_int_.res, F_slices_breakPatternsOrdered_int_.nt) := by kernel_rfl
theorem ok_slices_choosePivotOrdered_int_ : compF Try.prog f_slices_choosePivotOrdered_int_ s_slices_choosePivotOrdered_int_ = some (bare F_slices_choosePivotOrdered_int_.body, F_slices_choosePivotOrdered_int_.res, F_slices_choosePivotOrdered_int_.nt) := by kernel_rfl
theorem ok_slices_reverseRangeOrdered_int_ : compF Try.prog f_slices_reverseRangeOrdered_int_ s_slices_reverseRangeOrdered_int_ = some (bare F_slices_reverseRangeOrdered_int_.body, F_slices_reverseRangeOrdered_int_.res, F_slices_reverseRangeOrdered_int_.nt) := by kernel_rfl
theorem ok_slices_partialInsertionSortOrdered_int_ : compF Try.prog f_slices_partialInsertionSortOrdered_int_ s_slices_partialInsertionSortOrdered_int_ = some (bare F_slices_partialInsertionSortOrdered_int_.body, F_slices_partialInsertionSortOrdered_int_.res, F_slices_partialInsertionSortOrdered_int_.nt) := by kernel_rfl
theorem ok_cmp_Less_int_ : compF Try.prog f_cmp_Less_int_ s_cmp_Less_int_ = some (bare F_cmp_Less_int_.body, F_cmp_Less_int_.res, F_cmp_Less_int_.nt) := by kernel_rfl
theorem ok_slices_partitionEqualOrdered_int_ : compF Try.prog f_slices_partitionEqualOrdered_int_ s_slices_partitionEqualOrdered_int_ = some (bare F_slices_partitionEqualOrdered_int_.body, F_slices_partitionEqualOrdered_int_.res, F_slices_partitionEqualOrdered_int_.nt) := by kernel_rfl
theorem ok_slices_partitionOrdered_int_ : compF Try.prog f_slices_partitionOrdered_int_ s_slices_partitionOrdered_int_ = some (bare F_slices_partitionOrdered_int_.body, F_slices_partitionOrdered_int_.res, F_slices_partitionOrdered_int_.nt) := by kernel_rfl
theorem ok_math_bits_Len32 : compF Try.prog f_math_bits_Len32 s_math_bits_Len32 = some (bare F_math_bits_Len32.body, F_math_bits_Len32.res, F_math_bits_Len32.nt) := by kernel_rfl
theorem ok_math_bits_Len64 : compF Try.prog f_math_bits_Len64 s_math_bits_Len64 = some (bare F_math_bits_Len64.body, F_math_bits_Len64.res, F_math_bits_Len64.nt) := by kernel_rfl
theorem ok_act_letter : compF Try.prog f_act_letter s_act_letter = some (bare F_act_letter.body, F_act_letter.res, F_act_letter.nt) := by kernel_rfl
theorem ok_slices_IndexZsgsg : compF Try.prog f_slices_IndexZsgsg s_slices_IndexZsgsg = some (bare F_slices_IndexZsgsg.body, F_slices_IndexZsgsg.res, F_slices_IndexZsgsg.nt) := by kernel_rfl
theorem ok_math_bits_Mul32 : compF Try.prog f_math_bits_Mul32 s_math_bits_Mul32 = some (bare F_math_bits_Mul32.body, F_math_bits_Mul32.res, F_math_bits_Mul32.nt) := by kernel_rfl
theorem ok_math_bits_Mul64 : compF Try.prog f_math_bits_Mul64 s_math_bits_Mul64 = some (bare F_math_bits_Mul64.body, F_math_bits_Mul64.res, F_math_bits_Mul64.nt) := by kernel_rfl
theorem ok_slices_insertionSortCmpFunc_api_Edge_ : compF Try.prog f_slices_insertionSortCmpFunc_api_Edge_ s_slices_insertionSortCmpFunc_api_Edge_ = some (bare F_slices_insertionSortCmpFunc_api_Edge_.body, F_slices_insertionSortCmpFunc_api_Edge_.res, F_slices_insertionSortCmpFunc_api_Edge_.nt) := by kernel_rfl
theorem ok_slices_heapSortCmpFunc_api_Edge_ : compF Try.prog f_slices_heapSortCmpFunc_api_Edge_ s_slices_heapSortCmpFunc_api_Edge_ = some (bare F_slices_heapSortCmpFunc_api_Edge_.body, F_slices_heapSortCmpFunc_api_Edge_.res, F_slices_heapSortCmpFunc_api_Edge_.nt) := by kernel_rfl
theorem ok_slices_breakPatternsCmpFunc_api_Edge_ : compF Try.prog f_slices_breakPatternsCmpFunc_api_Edge_ s_slices_breakPatternsCmpFunc_api_Edge_ = some (bare F_slices_breakPatternsCmpFunc_api_Edge_.body, F_slices_breakPatternsCmpFunc_api_Edge_.res, F_slices_breakPatternsCmpFunc_api_Edge_.nt) := by kernel_rfl
theorem ok_slices_choosePivotCmpFunc_api_Edge_ : compF Try.prog f_slices_choosePivotCmpFunc_api_Edge_ s_slices_choosePivotCmpFunc_api_Edge_ = some (bare F_slices_choosePivotCmpFunc_api_Edge_.body, F_slices_choosePivotCmpFunc_api_Edge_.res, F_slices_choosePivotCmpFunc_api_Edge_.nt) := by kernel_rfl
theorem ok_slices_reverseRangeCmpFunc_api_Edge_ : compF Try.prog f_slices_reverseRangeCmpFunc_api_Edge_ s_slices_reverseRangeCmpFunc_api_Edge_ = some (bare F_slices_reverseRangeCmpFunc_api_Edge_.body, F_slices_reverseRangeCmpFunc_api_Edge_.res, F_slices_reverseRangeCmpFunc_api_Edge_.nt) := by kernel_rfl
theorem ok_slices_partialInsertionSortCmpFunc_api_Edge_ : compF Try.prog f_slices_partialInsertionSortCmpFunc_api_Edge_ s_slices_partialInsertionSortCmpFunc_api_Edge_ = some (bare F_slices_partialInsertionSortCmpFunc_api_Edge_.body, F_slices_partialInsertionSortCmpFunc_api_Edge_.res, F_slices_partialInsertionSortCmpFunc_api_Edge_.nt) := by kernel_rfl
theorem ok_slices_partitionEqualCmpFunc_api_Edge_ : compF Try.prog f_slices_partitionEqualCmpFunc_api_Edge_ s_slices_partitionEqualCmpFunc_api_Edge_ = some (bare F_slices_partitionEqualCmpFunc_api_Edge_.body, F_slices_partitionEqualCmpFunc_api_Edge_.res, F_slices_partitionEqualCmpFunc_api_Edge_.nt) := by kernel_rfl
theorem ok_slices_partitionCmpFunc_api_Edge_ : compF Try.prog f_slices_partitionCmpFunc_api_Edge_ s_slices_partitionCmpFunc_api_Edge_ = some (bare F_slices_partitionCmpFunc_api_Edge_.body, F_slices_partitionCmpFunc_api_Edge_.res, F_slices_partitionCmpFunc_api_Edge_.nt) := by kernel_rfl
theorem ok_slices_siftDownOrdered_int_ : compF Try.prog f_slices_siftDownOrdered_int_ s_slices_siftDownOrdered_int_ = some (bare F_slices_siftDownOrdered_int_.body, F_slices_siftDownOrdered_int_.res, F_slices_siftDownOrdered_int_.nt) := by kernel_rfl
theorem ok_slices_nextPowerOfTwo : compF Try.prog f_slices_nextPowerOfTwo s_slices_nextPowerOfTwo = some (bare F_slices_nextPowerOfTwo.body, F_slices_nextPowerOfTwo.res, F_slices_nextPowerOfTwo.nt) := by kernel_rfl
theorem ok___slices_xorshift__Next : compF Try.prog f___slices_xorshift__Next s___slices_xorshift__Next = some (bare F___slices_xorshift__Next.body, F___slices_xorshift__Next.res, F___slices_xorshift__Next.nt) := by kernel_rfl
theorem ok_slices_medianAdjacentOrdered_int_ : compF Try.prog f_slices_medianAdjacentOrdered_int_ s_slices_medianAdjacentOrdered_int_ = some (bare F_slices_medianAdjacentOrdered_int_.body, F_slices_medianAdjacentOrdered_int_.res, F_slices_medianAdjacentOrdered_int_.nt) := by kernel_rfl
theorem ok_slices_medianOrdered_int_ : compF Try.prog f_slices_medianOrdered_int_ s_slices_medianOrdered_int_ = some (bare F_slices_medianOrdered_int_.body, F_slices_medianOrdered_int_.res, F_slices_medianOrdered_int_.nt) := by kernel_rfl
theorem ok_cmp_isNaN_int_ : compF Try.prog f_cmp_isNaN_int_ s_cmp_isNaN_int_ = some (bare F_cmp_isNaN_int_.body, F_cmp_isNaN_int_.res, F_cmp_isNaN_int_.nt) := by kernel_rfl
theorem ok_slices_siftDownCmpFunc_api_Edge_ : compF Try.prog f_slices_siftDownCmpFunc_api_Edge_ s_slices_siftDownCmpFunc_api_Edge_ = some (bare F_slices_siftDownCmpFunc_api_Edge_.body, F_slices_siftDownCmpFunc_api_Edge_.res, F_slices_siftDownCmpFunc_api_Edge_.nt) := by kernel_rfl
theorem ok_slices_medianAdjacentCmpFunc_api_Edge_ : compF Try.prog f_slices_medianAdjacentCmpFunc_api_Edge_ s_slices_medianAdjacentCmpFunc_api_Edge_ = some (bare F_slices_medianAdjacentCmpFunc_api_Edge_.body, F_slices_medianAdjacentCmpFunc_api_Edge_.res, F_slices_medianAdjacentCmpFunc_api_Edge_.nt) := by kernel_rfl
theorem ok_slices_medianCmpFunc_api_Edge_ : compF Try.prog f_slices_medianCmpFunc_api_Edge_ s_slices_medianCmpFunc_api_Edge_ = some (bare F_slices_medianCmpFunc_api_Edge_.body, F_slices_medianCmpFunc_api_Edge_.res, F_slices_medianCmpFunc_api_Edge_.nt) := by kernel_rfl
theorem ok_slices_order2Ordered_int_ : compF Try.prog f_slices_order2Ordered_int_ s_slices_order2Ordered_int_ = some (bare F_slices_order2Ordered_int_.body, F_slices_order2Ordered_int_.res, F_slices_order2Ordered_int_.nt) := by kernel_rfl
theorem ok_slices_order2CmpFunc_api_Edge_ : compF Try.prog f_slices_order2CmpFunc_api_Edge_ s_slices_order2CmpFunc_api_Edge_ = some (bare F_slices_order2CmpFunc_api_Edge_.body, F_slices_order2CmpFunc_api_Edge_.res, F_slices_order2CmpFunc_api_Edge_.nt) := by kernel_rfl
theorem good : Good Try.prog G := by
 intro f F h
 unfold G at h
 split at h
 ·cases h; exact ⟨_, ok_w04_PruneHollow⟩
 ·cases h; exact ⟨_, ok_w04_light⟩
 ·cases h; exact ⟨_, ok_w04_awake⟩
 ·cases h; exact ⟨_, ok_r03_Is⟩
 ·cases h; exact ⟨_, ok_prune_Trim⟩
 ·cases h; exact ⟨_, ok_r03_Copy⟩
 ·cases h; exact ⟨_, ok_r01_SameInts⟩
 ·cases h; exact ⟨_, ok_r04_Hollow⟩
 ·cases h; exact ⟨_, ok_prune_Some⟩
 ·cases h; exact ⟨_, ok_r04_Places⟩
 ·cases h; exact ⟨_, ok_r04_IsLadder⟩
 ·cases h; exact ⟨_, ok_prune_Hollow⟩
 ·cases h; exact ⟨_, ok_prune_Ladder⟩
 ·cases h; exact ⟨_, ok_prune_IsLadder⟩
 ·cases h; exact ⟨_, ok_r03_Few⟩
 ·cases h; exact ⟨_, ok_w04_twigs⟩
 ·cases h; exact ⟨_, ok_r01_Is⟩
 ·cases h; exact ⟨_, ok_r03_state⟩
 ·cases h; exact ⟨_, ok_spec_Valid⟩
 ·cases h; exact ⟨_, ok_prune_Trimmed⟩
 ·cases h; exact ⟨_, ok_r04_allFall⟩
 ·cases h; exact ⟨_, ok_prune_Witness⟩
 ·cases h; exact ⟨_, ok_slices_SortZitit⟩
 ·cases h; exact ⟨_, ok_prune_rungs⟩
 ·cases h; exact ⟨_, ok_prune_Rests⟩
 ·cases h; exact ⟨_, ok_r01_Name⟩
 ·cases h; exact ⟨_, ok_r01_Index⟩
 ·cases h; exact ⟨_, ok_r01_Rising⟩
 ·cases h; exact ⟨_, ok_r01_Set⟩
 ·cases h; exact ⟨_, ok_r01_List⟩
 ·cases h; exact ⟨_, ok_r04_falls⟩
 ·cases h; exact ⟨_, ok_r01_Has⟩
 ·cases h; exact ⟨_, ok_act_Valid⟩
 ·cases h; exact ⟨_, ok_slices_CloneZsgsg⟩
 ·cases h; exact ⟨_, ok_prune_Left⟩
 ·cases h; exact ⟨_, ok_spec_Nothing⟩
 ·cases h; exact ⟨_, ok_slices_RepeatZitit⟩
 ·cases h; exact ⟨_, ok_act_In⟩
 ·cases h; exact ⟨_, ok_slices_ContainsZitit⟩
 ·cases h; exact ⟨_, ok_slices_SortFuncZaiEeai⟩
 ·cases h; exact ⟨_, ok_prune_Witness_1⟩
 ·cases h; exact ⟨_, ok_slices_pdqsortOrdered_int_⟩
 ·cases h; exact ⟨_, ok_math_bits_Len⟩
 ·cases h; exact ⟨_, ok_prune_rungs_1⟩
 ·cases h; exact ⟨_, ok_r01_letter⟩
 ·cases h; exact ⟨_, ok_act_Name⟩
 ·cases h; exact ⟨_, ok_slices_ContainsZsgsg⟩
 ·cases h; exact ⟨_, ok_prune_Left_1⟩
 ·cases h; exact ⟨_, ok_prune_Hollows⟩
 ·cases h; exact ⟨_, ok_math_bits_Mul⟩
 ·cases h; exact ⟨_, ok_act_In_1⟩
 ·cases h; exact ⟨_, ok_slices_IndexZitit⟩
 ·cases h; exact ⟨_, ok_slices_pdqsortCmpFunc_api_Edge_⟩
 ·cases h; exact ⟨_, ok_slices_insertionSortOrdered_int_⟩
 ·cases h; exact ⟨_, ok_slices_heapSortOrdered_int_⟩
 ·cases h; exact ⟨_, ok_slices_breakPatternsOrdered_int_⟩
 ·cases h; exact ⟨_, ok_slices_choosePivotOrdered_int_⟩
 ·cases h; exact ⟨_, ok_slices_reverseRangeOrdered_int_⟩
 ·cases h; exact ⟨_, ok_slices_partialInsertionSortOrdered_int_⟩
 ·cases h; exact ⟨_, ok_cmp_Less_int_⟩
 ·cases h; exact ⟨_, ok_slices_partitionEqualOrdered_int_⟩
 ·cases h; exact ⟨_, ok_slices_partitionOrdered_int_⟩
 ·cases h; exact ⟨_, ok_math_bits_Len32⟩
 ·cases h; exact ⟨_, ok_math_bits_Len64⟩
 ·cases h; exact ⟨_, ok_act_letter⟩
 ·cases h; exact ⟨_, ok_slices_IndexZsgsg⟩
 ·cases h; exact ⟨_, ok_math_bits_Mul32⟩
 ·cases h; exact ⟨_, ok_math_bits_Mul64⟩
 ·cases h; exact ⟨_, ok_slices_insertionSortCmpFunc_api_Edge_⟩
 ·cases h; exact ⟨_, ok_slices_heapSortCmpFunc_api_Edge_⟩
 ·cases h; exact ⟨_, ok_slices_breakPatternsCmpFunc_api_Edge_⟩
 ·cases h; exact ⟨_, ok_slices_choosePivotCmpFunc_api_Edge_⟩
 ·cases h; exact ⟨_, ok_slices_reverseRangeCmpFunc_api_Edge_⟩
 ·cases h; exact ⟨_, ok_slices_partialInsertionSortCmpFunc_api_Edge_⟩
 ·cases h; exact ⟨_, ok_slices_partitionEqualCmpFunc_api_Edge_⟩
 ·cases h; exact ⟨_, ok_slices_partitionCmpFunc_api_Edge_⟩
 ·cases h; exact ⟨_, ok_slices_siftDownOrdered_int_⟩
 ·cases h; exact ⟨_, ok_slices_nextPowerOfTwo⟩
 ·cases h; exact ⟨_, ok___slices_xorshift__Next⟩
 ·cases h; exact ⟨_, ok_slices_medianAdjacentOrdered_int_⟩
 ·cases h; exact ⟨_, ok_slices_medianOrdered_int_⟩
 ·cases h; exact ⟨_, ok_cmp_isNaN_int_⟩
 ·cases h; exact ⟨_, ok_slices_siftDownCmpFunc_api_Edge_⟩
 ·cases h; exact ⟨_, ok_slices_medianAdjacentCmpFunc_api_Edge_⟩
 ·cases h; exact ⟨_, ok_slices_medianCmpFunc_api_Edge_⟩
 ·cases h; exact ⟨_, ok_slices_order2Ordered_int_⟩
 ·cases h; exact ⟨_, ok_slices_order2CmpFunc_api_Edge_⟩
 ·cases h
end Go.Mw
