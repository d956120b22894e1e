/- The code is the program's. Printed. -/
import Derived.Test.YtlkjckdddfckeaaM26
import Derived.Test.YtlkjckdddfckeaaRows
set_option linter.unusedVariables false
set_option linter.unusedSimpArgs false
namespace Go.Mw
open Go.Proofs
set_option maxRecDepth 100000
theorem ok_w16_FamilyOf : compF Try.prog f_w16_FamilyOf s_w16_FamilyOf = some (bare F_w16_FamilyOf.body, F_w16_FamilyOf.res, F_w16_FamilyOf.nt) := by kernel_rfl
theorem ok_w16_awake : compF Try.prog f_w16_awake s_w16_awake = some (bare F_w16_awake.body, F_w16_awake.res, F_w16_awake.nt) := by kernel_rfl
theorem ok_r16_Is : compF Try.prog f_r16_Is s_r16_Is = some (bare F_r16_Is.body, F_r16_Is.res, F_r16_Is.nt) := by kernel_rfl
theorem ok_r01_SameStrings : compF Try.prog f_r01_SameStrings s_r01_SameStrings = some (bare F_r01_SameStrings.body, F_r01_SameStrings.res, F_r01_SameStrings.nt) := by kernel_rfl
theorem ok_family_Satisfied : compF Try.prog f_family_Satisfied s_family_Satisfied = some (bare F_family_Satisfied.body, F_family_Satisfied.res, F_family_Satisfied.nt) := by kernel_rfl
theorem ok_family_Full : compF Try.prog f_family_Full s_family_Full = some (bare F_family_Full.body, F_family_Full.res, F_family_Full.nt) := by kernel_rfl
theorem ok_r16_Product : compF Try.prog f_r16_Product s_r16_Product = some (bare F_r16_Product.body, F_r16_Product.res, F_r16_Product.nt) := by kernel_rfl
theorem ok_family_Product : compF Try.prog f_family_Product s_family_Product = some (bare F_family_Product.body, F_family_Product.res, F_family_Product.nt) := by kernel_rfl
theorem ok_r03_Same : compF Try.prog f_r03_Same s_r03_Same = some (bare F_r03_Same.body, F_r03_Same.res, F_r03_Same.nt) := by kernel_rfl
theorem ok_w16_short : compF Try.prog f_w16_short s_w16_short = some (bare F_w16_short.body, F_w16_short.res, F_w16_short.nt) := by kernel_rfl
theorem ok_r01_Is : compF Try.prog f_r01_Is s_r01_Is = some (bare F_r01_Is.body, F_r01_Is.res, F_r01_Is.nt) := by kernel_rfl
theorem ok_r03_Is : compF Try.prog f_r03_Is s_r03_Is = some (bare F_r03_Is.body, F_r03_Is.res, F_r03_Is.nt) := by kernel_rfl
theorem ok_r03_Copy : compF Try.prog f_r03_Copy s_r03_Copy = some (bare F_r03_Copy.body, F_r03_Copy.res, F_r03_Copy.nt) := by kernel_rfl
theorem ok_family_Of : compF Try.prog f_family_Of s_family_Of = some (bare F_family_Of.body, F_family_Of.res, F_family_Of.nt) := by kernel_rfl
theorem ok_r16_None : compF Try.prog f_r16_None s_r16_None = some (bare F_r16_None.body, F_r16_None.res, F_r16_None.nt) := by kernel_rfl
theorem ok_r05_Equal : compF Try.prog f_r05_Equal s_r05_Equal = some (bare F_r05_Equal.body, F_r05_Equal.res, F_r05_Equal.nt) := by kernel_rfl
theorem ok_w16_pair : compF Try.prog f_w16_pair s_w16_pair = some (bare F_w16_pair.body, F_w16_pair.res, F_w16_pair.nt) := by kernel_rfl
theorem ok_r01_SameInts : compF Try.prog f_r01_SameInts s_r01_SameInts = some (bare F_r01_SameInts.body, F_r01_SameInts.res, F_r01_SameInts.nt) := by kernel_rfl
theorem ok_r16_plan : compF Try.prog f_r16_plan s_r16_plan = some (bare F_r16_plan.body, F_r16_plan.res, F_r16_plan.nt) := by kernel_rfl
theorem ok_r04_Hollow : compF Try.prog f_r04_Hollow s_r04_Hollow = some (bare F_r04_Hollow.body, F_r04_Hollow.res, F_r04_Hollow.nt) := by kernel_rfl
theorem ok_system_Valid : compF Try.prog f_system_Valid s_system_Valid = some (bare F_system_Valid.body, F_system_Valid.res, F_system_Valid.nt) := by kernel_rfl
theorem ok_family_Valid : compF Try.prog f_family_Valid s_family_Valid = some (bare F_family_Valid.body, F_family_Valid.res, F_family_Valid.nt) := by kernel_rfl
theorem ok_slices_EqualZsgsg : compF Try.prog f_slices_EqualZsgsg s_slices_EqualZsgsg = some (bare F_slices_EqualZsgsg.body, F_slices_EqualZsgsg.res, F_slices_EqualZsgsg.nt) := by kernel_rfl
theorem ok_system_Offers : compF Try.prog f_system_Offers s_system_Offers = some (bare F_system_Offers.body, F_system_Offers.res, F_system_Offers.nt) := by kernel_rfl
theorem ok_family_which : compF Try.prog f_family_which s_family_which = some (bare F_family_which.body, F_family_which.res, F_family_which.nt) := by kernel_rfl
theorem ok_family_Full_1 : compF Try.prog f_family_Full_1 s_family_Full_1 = some (bare F_family_Full_1.body, F_family_Full_1.res, F_family_Full_1.nt) := by kernel_rfl
theorem ok_prune_Hollows : compF Try.prog f_prune_Hollows s_prune_Hollows = some (bare F_prune_Hollows.body, F_prune_Hollows.res, F_prune_Hollows.nt) := by kernel_rfl
theorem ok_family_single : compF Try.prog f_family_single s_family_single = some (bare F_family_single.body, F_family_single.res, F_family_single.nt) := by kernel_rfl
theorem ok_r16_chosen : compF Try.prog f_r16_chosen s_r16_chosen = some (bare F_r16_chosen.body, F_r16_chosen.res, F_r16_chosen.nt) := by kernel_rfl
theorem ok__family_products__has : compF Try.prog f__family_products__has s__family_products__has = some (bare F__family_products__has.body, F__family_products__has.res, F__family_products__has.nt) := by kernel_rfl
theorem ok_slices_CloneZsgsg : compF Try.prog f_slices_CloneZsgsg s_slices_CloneZsgsg = some (bare F_slices_CloneZsgsg.body, F_slices_CloneZsgsg.res, F_slices_CloneZsgsg.nt) := by kernel_rfl
theorem ok_r03_Few : compF Try.prog f_r03_Few s_r03_Few = some (bare F_r03_Few.body, F_r03_Few.res, F_r03_Few.nt) := by kernel_rfl
theorem ok_r01_Name : compF Try.prog f_r01_Name s_r01_Name = some (bare F_r01_Name.body, F_r01_Name.res, F_r01_Name.nt) := by kernel_rfl
theorem ok_r01_Index : compF Try.prog f_r01_Index s_r01_Index = some (bare F_r01_Index.body, F_r01_Index.res, F_r01_Index.nt) := by kernel_rfl
theorem ok_r03_state : compF Try.prog f_r03_state s_r03_state = some (bare F_r03_state.body, F_r03_state.res, F_r03_state.nt) := by kernel_rfl
theorem ok_act_Valid : compF Try.prog f_act_Valid s_act_Valid = some (bare F_act_Valid.body, F_act_Valid.res, F_act_Valid.nt) := by kernel_rfl
theorem ok_slices_ContainsFuncZaiScai : compF Try.prog f_slices_ContainsFuncZaiScai s_slices_ContainsFuncZaiScai = some (bare F_slices_ContainsFuncZaiScai.body, F_slices_ContainsFuncZaiScai.res, F_slices_ContainsFuncZaiScai.nt) := by kernel_rfl
theorem ok_family_Of_1 : compF Try.prog f_family_Of_1 s_family_Of_1 = some (bare F_family_Of_1.body, F_family_Of_1.res, F_family_Of_1.nt) := by kernel_rfl
theorem ok_spec_Valid : compF Try.prog f_spec_Valid s_spec_Valid = some (bare F_spec_Valid.body, F_spec_Valid.res, F_spec_Valid.nt) := by kernel_rfl
theorem ok_family_Of_2 : compF Try.prog f_family_Of_2 s_family_Of_2 = some (bare F_family_Of_2.body, F_family_Of_2.res, F_family_Of_2.nt) := by kernel_rfl
theorem ok_prune_Trimmed : compF Try.prog f_prune_Trimmed s_prune_Trimmed = some (bare F_prune_Trimmed.body, F_prune_Trimmed.res, F_prune_Trimmed.nt) := by kernel_rfl
theorem ok_r05_Refines : compF Try.prog f_r05_Refines s_r05_Refines = some (bare F_r05_Refines.body, F_r05_Refines.res, F_r05_Refines.nt) := by kernel_rfl
theorem ok_r16_choices : compF Try.prog f_r16_choices s_r16_choices = some (bare F_r16_choices.body, F_r16_choices.res, F_r16_choices.nt) := by kernel_rfl
theorem ok_r01_List : compF Try.prog f_r01_List s_r01_List = some (bare F_r01_List.body, F_r01_List.res, F_r01_List.nt) := by kernel_rfl
theorem ok_r04_allFall : compF Try.prog f_r04_allFall s_r04_allFall = some (bare F_r04_allFall.body, F_r04_allFall.res, F_r04_allFall.nt) := by kernel_rfl
theorem ok_system_order : compF Try.prog f_system_order s_system_order = some (bare F_system_order.body, F_system_order.res, F_system_order.nt) := by kernel_rfl
theorem ok_family_choices : compF Try.prog f_family_choices s_family_choices = some (bare F_family_choices.body, F_family_choices.res, F_family_choices.nt) := by kernel_rfl
theorem ok_family_Valid_1 : compF Try.prog f_family_Valid_1 s_family_Valid_1 = some (bare F_family_Valid_1.body, F_family_Valid_1.res, F_family_Valid_1.nt) := by kernel_rfl
theorem ok_act_Is : compF Try.prog f_act_Is s_act_Is = some (bare F_act_Is.body, F_act_Is.res, F_act_Is.nt) := by kernel_rfl
theorem ok_family_Valid_2 : compF Try.prog f_family_Valid_2 s_family_Valid_2 = some (bare F_family_Valid_2.body, F_family_Valid_2.res, F_family_Valid_2.nt) := by kernel_rfl
theorem ok_act_In : compF Try.prog f_act_In s_act_In = some (bare F_act_In.body, F_act_In.res, F_act_In.nt) := by kernel_rfl
theorem ok__family_products__with : compF Try.prog f__family_products__with s__family_products__with = some (bare F__family_products__with.body, F__family_products__with.res, F__family_products__with.nt) := by kernel_rfl
theorem ok_prune_rungs : compF Try.prog f_prune_rungs s_prune_rungs = some (bare F_prune_rungs.body, F_prune_rungs.res, F_prune_rungs.nt) := by kernel_rfl
theorem ok_family_chosen : compF Try.prog f_family_chosen s_family_chosen = some (bare F_family_chosen.body, F_family_chosen.res, F_family_chosen.nt) := by kernel_rfl
theorem ok_r01_Has : compF Try.prog f_r01_Has s_r01_Has = some (bare F_r01_Has.body, F_r01_Has.res, F_r01_Has.nt) := by kernel_rfl
theorem ok_r01_letter : compF Try.prog f_r01_letter s_r01_letter = some (bare F_r01_letter.body, F_r01_letter.res, F_r01_letter.nt) := by kernel_rfl
theorem ok_r01_Rising : compF Try.prog f_r01_Rising s_r01_Rising = some (bare F_r01_Rising.body, F_r01_Rising.res, F_r01_Rising.nt) := by kernel_rfl
theorem ok_r01_Set : compF Try.prog f_r01_Set s_r01_Set = some (bare F_r01_Set.body, F_r01_Set.res, F_r01_Set.nt) := by kernel_rfl
theorem ok_act_Name : compF Try.prog f_act_Name s_act_Name = some (bare F_act_Name.body, F_act_Name.res, F_act_Name.nt) := by kernel_rfl
theorem ok_slices_ContainsZsgsg : compF Try.prog f_slices_ContainsZsgsg s_slices_ContainsZsgsg = some (bare F_slices_ContainsZsgsg.body, F_slices_ContainsZsgsg.res, F_slices_ContainsZsgsg.nt) := by kernel_rfl
theorem ok_slices_IndexFuncZaiScai : compF Try.prog f_slices_IndexFuncZaiScai s_slices_IndexFuncZaiScai = some (bare F_slices_IndexFuncZaiScai.body, F_slices_IndexFuncZaiScai.res, F_slices_IndexFuncZaiScai.nt) := by kernel_rfl
theorem ok_prune_Left : compF Try.prog f_prune_Left s_prune_Left = some (bare F_prune_Left.body, F_prune_Left.res, F_prune_Left.nt) := by kernel_rfl
theorem ok_spec_Nothing : compF Try.prog f_spec_Nothing s_spec_Nothing = some (bare F_spec_Nothing.body, F_spec_Nothing.res, F_spec_Nothing.nt) := by kernel_rfl
theorem ok_slices_RepeatZitit : compF Try.prog f_slices_RepeatZitit s_slices_RepeatZitit = some (bare F_slices_RepeatZitit.body, F_slices_RepeatZitit.res, F_slices_RepeatZitit.nt) := by kernel_rfl
theorem ok_r05_Depth : compF Try.prog f_r05_Depth s_r05_Depth = some (bare F_r05_Depth.body, F_r05_Depth.res, F_r05_Depth.nt) := by kernel_rfl
theorem ok_r04_falls : compF Try.prog f_r04_falls s_r04_falls = some (bare F_r04_falls.body, F_r04_falls.res, F_r04_falls.nt) := by kernel_rfl
theorem ok_act_In_1 : compF Try.prog f_act_In_1 s_act_In_1 = some (bare F_act_In_1.body, F_act_In_1.res, F_act_In_1.nt) := by kernel_rfl
theorem ok_prune_rungs_1 : compF Try.prog f_prune_rungs_1 s_prune_rungs_1 = some (bare F_prune_rungs_1.body, F_prune_rungs_1.res, F_prune_rungs_1.nt) := by kernel_rfl
theorem ok_slices_IndexFuncZaiCeai : compF Try.prog f_slices_IndexFuncZaiCeai s_slices_IndexFuncZaiCeai = some (bare F_slices_IndexFuncZaiCeai.body, F_slices_IndexFuncZaiCeai.res, F_slices_IndexFuncZaiCeai.nt) := by kernel_rfl
theorem ok_family_chosen_1 : compF Try.prog f_family_chosen_1 s_family_chosen_1 = some (bare F_family_chosen_1.body, F_family_chosen_1.res, F_family_chosen_1.nt) := by kernel_rfl
theorem ok_act_letter : compF Try.prog f_act_letter s_act_letter = some (bare F_act_letter.body, F_act_letter.res, F_act_letter.nt) := by kernel_rfl
theorem ok_slices_IndexZsgsg : compF Try.prog f_slices_IndexZsgsg s_slices_IndexZsgsg = some (bare F_slices_IndexZsgsg.body, F_slices_IndexZsgsg.res, F_slices_IndexZsgsg.nt) := by kernel_rfl
theorem ok_prune_Left_1 : compF Try.prog f_prune_Left_1 s_prune_Left_1 = some (bare F_prune_Left_1.body, F_prune_Left_1.res, F_prune_Left_1.nt) := by kernel_rfl
theorem ok_math_bits_Mul : compF Try.prog f_math_bits_Mul s_math_bits_Mul = some (bare F_math_bits_Mul.body, F_math_bits_Mul.res, F_math_bits_Mul.nt) := by kernel_rfl
theorem ok_r04_Trim : compF Try.prog f_r04_Trim s_r04_Trim = some (bare F_r04_Trim.body, F_r04_Trim.res, F_r04_Trim.nt) := by kernel_rfl
theorem ok_r05_parts : compF Try.prog f_r05_parts s_r05_parts = some (bare F_r05_parts.body, F_r05_parts.res, F_r05_parts.nt) := by kernel_rfl
theorem ok_math_bits_Mul32 : compF Try.prog f_math_bits_Mul32 s_math_bits_Mul32 = some (bare F_math_bits_Mul32.body, F_math_bits_Mul32.res, F_math_bits_Mul32.nt) := by kernel_rfl
theorem ok_math_bits_Mul64 : compF Try.prog f_math_bits_Mul64 s_math_bits_Mul64 = some (bare F_math_bits_Mul64.body, F_math_bits_Mul64.res, F_math_bits_Mul64.nt) := by kernel_rfl
theorem ok_r03_Nothing : compF Try.prog f_r03_Nothing s_r03_Nothing = some (bare F_r03_Nothing.body, F_r03_Nothing.res, F_r03_Nothing.nt) := by kernel_rfl
theorem ok_r04_Solid : compF Try.prog f_r04_Solid s_r04_Solid = some (bare F_r04_Solid.body, F_r04_Solid.res, F_r04_Solid.nt) := by kernel_rfl
theorem ok_r04_Order : compF Try.prog f_r04_Order s_r04_Order = some (bare F_r04_Order.body, F_r04_Order.res, F_r04_Order.nt) := by kernel_rfl
theorem ok_r01_In : compF Try.prog f_r01_In s_r01_In = some (bare F_r01_In.body, F_r01_In.res, F_r01_In.nt) := by kernel_rfl
theorem good : Good Try.prog G := by
 intro f F h
 unfold G at h
 split at h
 ·cases h; exact ⟨_, ok_w16_FamilyOf⟩
 ·cases h; exact ⟨_, ok_w16_awake⟩
 ·cases h; exact ⟨_, ok_r16_Is⟩
 ·cases h; exact ⟨_, ok_r01_SameStrings⟩
 ·cases h; exact ⟨_, ok_family_Satisfied⟩
 ·cases h; exact ⟨_, ok_family_Full⟩
 ·cases h; exact ⟨_, ok_r16_Product⟩
 ·cases h; exact ⟨_, ok_family_Product⟩
 ·cases h; exact ⟨_, ok_r03_Same⟩
 ·cases h; exact ⟨_, ok_w16_short⟩
 ·cases h; exact ⟨_, ok_r01_Is⟩
 ·cases h; exact ⟨_, ok_r03_Is⟩
 ·cases h; exact ⟨_, ok_r03_Copy⟩
 ·cases h; exact ⟨_, ok_family_Of⟩
 ·cases h; exact ⟨_, ok_r16_None⟩
 ·cases h; exact ⟨_, ok_r05_Equal⟩
 ·cases h; exact ⟨_, ok_w16_pair⟩
 ·cases h; exact ⟨_, ok_r01_SameInts⟩
 ·cases h; exact ⟨_, ok_r16_plan⟩
 ·cases h; exact ⟨_, ok_r04_Hollow⟩
 ·cases h; exact ⟨_, ok_system_Valid⟩
 ·cases h; exact ⟨_, ok_family_Valid⟩
 ·cases h; exact ⟨_, ok_slices_EqualZsgsg⟩
 ·cases h; exact ⟨_, ok_system_Offers⟩
 ·cases h; exact ⟨_, ok_family_which⟩
 ·cases h; exact ⟨_, ok_family_Full_1⟩
 ·cases h; exact ⟨_, ok_prune_Hollows⟩
 ·cases h; exact ⟨_, ok_family_single⟩
 ·cases h; exact ⟨_, ok_r16_chosen⟩
 ·cases h; exact ⟨_, ok__family_products__has⟩
 ·cases h; exact ⟨_, ok_slices_CloneZsgsg⟩
 ·cases h; exact ⟨_, ok_r03_Few⟩
 ·cases h; exact ⟨_, ok_r01_Name⟩
 ·cases h; exact ⟨_, ok_r01_Index⟩
 ·cases h; exact ⟨_, ok_r03_state⟩
 ·cases h; exact ⟨_, ok_act_Valid⟩
 ·cases h; exact ⟨_, ok_slices_ContainsFuncZaiScai⟩
 ·cases h; exact ⟨_, ok_family_Of_1⟩
 ·cases h; exact ⟨_, ok_spec_Valid⟩
 ·cases h; exact ⟨_, ok_family_Of_2⟩
 ·cases h; exact ⟨_, ok_prune_Trimmed⟩
 ·cases h; exact ⟨_, ok_r05_Refines⟩
 ·cases h; exact ⟨_, ok_r16_choices⟩
 ·cases h; exact ⟨_, ok_r01_List⟩
 ·cases h; exact ⟨_, ok_r04_allFall⟩
 ·cases h; exact ⟨_, ok_system_order⟩
 ·cases h; exact ⟨_, ok_family_choices⟩
 ·cases h; exact ⟨_, ok_family_Valid_1⟩
 ·cases h; exact ⟨_, ok_act_Is⟩
 ·cases h; exact ⟨_, ok_family_Valid_2⟩
 ·cases h; exact ⟨_, ok_act_In⟩
 ·cases h; exact ⟨_, ok__family_products__with⟩
 ·cases h; exact ⟨_, ok_prune_rungs⟩
 ·cases h; exact ⟨_, ok_family_chosen⟩
 ·cases h; exact ⟨_, ok_r01_Has⟩
 ·cases h; exact ⟨_, ok_r01_letter⟩
 ·cases h; exact ⟨_, ok_r01_Rising⟩
 ·cases h; exact ⟨_, ok_r01_Set⟩
 ·cases h; exact ⟨_, ok_act_Name⟩
 ·cases h; exact ⟨_, ok_slices_ContainsZsgsg⟩
 ·cases h; exact ⟨_, ok_slices_IndexFuncZaiScai⟩
 ·cases h; exact ⟨_, ok_prune_Left⟩
 ·cases h; exact ⟨_, ok_spec_Nothing⟩
 ·cases h; exact ⟨_, ok_slices_RepeatZitit⟩
 ·cases h; exact ⟨_, ok_r05_Depth⟩
 ·cases h; exact ⟨_, ok_r04_falls⟩
 ·cases h; exact ⟨_, ok_act_In_1⟩
 ·cases h; exact ⟨_, ok_prune_rungs_1⟩
 ·cases h; exact ⟨_, ok_slices_IndexFuncZaiCeai⟩
 ·cases h; exact ⟨_, ok_family_chosen_1⟩
 ·cases h; exact ⟨_, ok_act_letter⟩
 ·cases h; exact ⟨_, ok_slices_IndexZsgsg⟩
 ·cases h; exact ⟨_, ok_prune_Left_1⟩
 ·cases h; exact ⟨_, ok_math_bits_Mul⟩
 ·cases h; exact ⟨_, ok_r04_Trim⟩
 ·cases h; exact ⟨_, ok_r05_parts⟩
 ·cases h; exact ⟨_, ok_math_bits_Mul32⟩
 ·cases h; exact ⟨_, ok_math_bits_Mul64⟩
 ·cases h; exact ⟨_, ok_r03_Nothing⟩
 ·cases h; exact ⟨_, ok_r04_Solid⟩
 ·cases h; exact ⟨_, ok_r04_Order⟩
 ·cases h; exact ⟨_, ok_r01_In⟩
 ·cases h
end Go.Mw
