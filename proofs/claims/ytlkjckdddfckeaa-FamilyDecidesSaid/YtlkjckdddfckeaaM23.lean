/- The code is the program's. Printed. -/
import Derived.Test.YtlkjckdddfckeaaM22
import Derived.Test.YtlkjckdddfckeaaRows
namespace Go.Mw
open Go.Proofs
set_option maxRecDepth 100000
theorem ok_makeweightlaw16_FamilyDecides : compF Try.prog f_makeweightlaw16_FamilyDecides s_makeweightlaw16_FamilyDecides = some (bare F_makeweightlaw16_FamilyDecides.body, F_makeweightlaw16_FamilyDecides.res, F_makeweightlaw16_FamilyDecides.nt) := by kernel_rfl
theorem ok_makeweightlaw16_few : compF Try.prog f_makeweightlaw16_few s_makeweightlaw16_few = some (bare F_makeweightlaw16_few.body, F_makeweightlaw16_few.res, F_makeweightlaw16_few.nt) := by kernel_rfl
theorem ok_makeweightlaw16_light : compF Try.prog f_makeweightlaw16_light s_makeweightlaw16_light = some (bare F_makeweightlaw16_light.body, F_makeweightlaw16_light.res, F_makeweightlaw16_light.nt) := by kernel_rfl
theorem ok_makeweightlaw16_awake : compF Try.prog f_makeweightlaw16_awake s_makeweightlaw16_awake = some (bare F_makeweightlaw16_awake.body, F_makeweightlaw16_awake.res, F_makeweightlaw16_awake.nt) := by kernel_rfl
theorem ok_makeweightref16_Is : compF Try.prog f_makeweightref16_Is s_makeweightref16_Is = some (bare F_makeweightref16_Is.body, F_makeweightref16_Is.res, F_makeweightref16_Is.nt) := by kernel_rfl
theorem ok_makeweightref16_Full : compF Try.prog f_makeweightref16_Full s_makeweightref16_Full = some (bare F_makeweightref16_Full.body, F_makeweightref16_Full.res, F_makeweightref16_Full.nt) := by kernel_rfl
theorem ok_makeweightref02_Is : compF Try.prog f_makeweightref02_Is s_makeweightref02_Is = some (bare F_makeweightref02_Is.body, F_makeweightref02_Is.res, F_makeweightref02_Is.nt) := by kernel_rfl
theorem ok_makeweightref01_SameStrings : compF Try.prog f_makeweightref01_SameStrings s_makeweightref01_SameStrings = some (bare F_makeweightref01_SameStrings.body, F_makeweightref01_SameStrings.res, F_makeweightref01_SameStrings.nt) := by kernel_rfl
theorem ok_makeweightref16_Satisfied : compF Try.prog f_makeweightref16_Satisfied s_makeweightref16_Satisfied = some (bare F_makeweightref16_Satisfied.body, F_makeweightref16_Satisfied.res, F_makeweightref16_Satisfied.nt) := by kernel_rfl
theorem ok_family_Satisfied : compF Try.prog f_family_Satisfied s_family_Satisfied = some (bare F_family_Satisfied.body, F_family_Satisfied.res, F_family_Satisfied.nt) := by kernel_rfl
theorem ok_makeweightref02_Copy : compF Try.prog f_makeweightref02_Copy s_makeweightref02_Copy = some (bare F_makeweightref02_Copy.body, F_makeweightref02_Copy.res, F_makeweightref02_Copy.nt) := by kernel_rfl
theorem ok_makeweightref16_Copy : compF Try.prog f_makeweightref16_Copy s_makeweightref16_Copy = some (bare F_makeweightref16_Copy.body, F_makeweightref16_Copy.res, F_makeweightref16_Copy.nt) := by kernel_rfl
theorem ok_family_Full : compF Try.prog f_family_Full s_family_Full = some (bare F_family_Full.body, F_family_Full.res, F_family_Full.nt) := by kernel_rfl
theorem ok_makeweightref16_Product : compF Try.prog f_makeweightref16_Product s_makeweightref16_Product = some (bare F_makeweightref16_Product.body, F_makeweightref16_Product.res, F_makeweightref16_Product.nt) := by kernel_rfl
theorem ok_family_Product : compF Try.prog f_family_Product s_family_Product = some (bare F_family_Product.body, F_family_Product.res, F_family_Product.nt) := by kernel_rfl
theorem ok_makeweightref01_Is : compF Try.prog f_makeweightref01_Is s_makeweightref01_Is = some (bare F_makeweightref01_Is.body, F_makeweightref01_Is.res, F_makeweightref01_Is.nt) := by kernel_rfl
theorem ok_makeweightref02_Few : compF Try.prog f_makeweightref02_Few s_makeweightref02_Few = some (bare F_makeweightref02_Few.body, F_makeweightref02_Few.res, F_makeweightref02_Few.nt) := by kernel_rfl
theorem ok_makeweightref16_Few : compF Try.prog f_makeweightref16_Few s_makeweightref16_Few = some (bare F_makeweightref16_Few.body, F_makeweightref16_Few.res, F_makeweightref16_Few.nt) := by kernel_rfl
theorem ok_makeweightlaw16_pair : compF Try.prog f_makeweightlaw16_pair s_makeweightlaw16_pair = some (bare F_makeweightlaw16_pair.body, F_makeweightlaw16_pair.res, F_makeweightlaw16_pair.nt) := by kernel_rfl
theorem ok_makeweightref01_SameInts : compF Try.prog f_makeweightref01_SameInts s_makeweightref01_SameInts = some (bare F_makeweightref01_SameInts.body, F_makeweightref01_SameInts.res, F_makeweightref01_SameInts.nt) := by kernel_rfl
theorem ok_makeweightref16_plan : compF Try.prog f_makeweightref16_plan s_makeweightref16_plan = some (bare F_makeweightref16_plan.body, F_makeweightref16_plan.res, F_makeweightref16_plan.nt) := by kernel_rfl
theorem ok_makeweightref04_Hollow : compF Try.prog f_makeweightref04_Hollow s_makeweightref04_Hollow = some (bare F_makeweightref04_Hollow.body, F_makeweightref04_Hollow.res, F_makeweightref04_Hollow.nt) := by kernel_rfl
theorem ok_makeweightref02_before : compF Try.prog f_makeweightref02_before s_makeweightref02_before = some (bare F_makeweightref02_before.body, F_makeweightref02_before.res, F_makeweightref02_before.nt) := by kernel_rfl
theorem ok_makeweightref03_Satisfies : compF Try.prog f_makeweightref03_Satisfies s_makeweightref03_Satisfies = some (bare F_makeweightref03_Satisfies.body, F_makeweightref03_Satisfies.res, F_makeweightref03_Satisfies.nt) := by kernel_rfl
theorem ok_system_Valid : compF Try.prog f_system_Valid s_system_Valid = some (bare F_system_Valid.body, F_system_Valid.res, F_system_Valid.nt) := by kernel_rfl
theorem ok_family_Valid : compF Try.prog f_family_Valid s_family_Valid = some (bare F_family_Valid.body, F_family_Valid.res, F_family_Valid.nt) := by kernel_rfl
theorem ok_slices_Equal___string_string_ : compF Try.prog f_slices_Equal___string_string_ s_slices_Equal___string_string_ = some (bare F_slices_Equal___string_string_.body, F_slices_Equal___string_string_.res, F_slices_Equal___string_string_.nt) := by kernel_rfl
theorem ok_system_Offers : compF Try.prog f_system_Offers s_system_Offers = some (bare F_system_Offers.body, F_system_Offers.res, F_system_Offers.nt) := by kernel_rfl
theorem ok_family_which : compF Try.prog f_family_which s_family_which = some (bare F_family_which.body, F_family_which.res, F_family_which.nt) := by kernel_rfl
theorem ok_family_Full_1 : compF Try.prog f_family_Full_1 s_family_Full_1 = some (bare F_family_Full_1.body, F_family_Full_1.res, F_family_Full_1.nt) := by kernel_rfl
theorem ok_prune_Hollows : compF Try.prog f_prune_Hollows s_prune_Hollows = some (bare F_prune_Hollows.body, F_prune_Hollows.res, F_prune_Hollows.nt) := by kernel_rfl
theorem ok_family_single : compF Try.prog f_family_single s_family_single = some (bare F_family_single.body, F_family_single.res, F_family_single.nt) := by kernel_rfl
theorem ok_makeweightref16_chosen : compF Try.prog f_makeweightref16_chosen s_makeweightref16_chosen = some (bare F_makeweightref16_chosen.body, F_makeweightref16_chosen.res, F_makeweightref16_chosen.nt) := by kernel_rfl
theorem ok__family_products__has : compF Try.prog f__family_products__has s__family_products__has = some (bare F__family_products__has.body, F__family_products__has.res, F__family_products__has.nt) := by kernel_rfl
theorem ok_slices_Clone___string_string_ : compF Try.prog f_slices_Clone___string_string_ s_slices_Clone___string_string_ = some (bare F_slices_Clone___string_string_.body, F_slices_Clone___string_string_.res, F_slices_Clone___string_string_.nt) := by kernel_rfl
theorem ok_makeweightref01_Name : compF Try.prog f_makeweightref01_Name s_makeweightref01_Name = some (bare F_makeweightref01_Name.body, F_makeweightref01_Name.res, F_makeweightref01_Name.nt) := by kernel_rfl
theorem ok_makeweightref01_Index : compF Try.prog f_makeweightref01_Index s_makeweightref01_Index = some (bare F_makeweightref01_Index.body, F_makeweightref01_Index.res, F_makeweightref01_Index.nt) := by kernel_rfl
theorem ok_act_Valid : compF Try.prog f_act_Valid s_act_Valid = some (bare F_act_Valid.body, F_act_Valid.res, F_act_Valid.nt) := by kernel_rfl
theorem ok_makeweightref16_choices : compF Try.prog f_makeweightref16_choices s_makeweightref16_choices = some (bare F_makeweightref16_choices.body, F_makeweightref16_choices.res, F_makeweightref16_choices.nt) := by kernel_rfl
theorem ok_makeweightref01_List : compF Try.prog f_makeweightref01_List s_makeweightref01_List = some (bare F_makeweightref01_List.body, F_makeweightref01_List.res, F_makeweightref01_List.nt) := by kernel_rfl
theorem ok_makeweightref04_allFall : compF Try.prog f_makeweightref04_allFall s_makeweightref04_allFall = some (bare F_makeweightref04_allFall.body, F_makeweightref04_allFall.res, F_makeweightref04_allFall.nt) := by kernel_rfl
theorem ok_makeweightref03_Reach : compF Try.prog f_makeweightref03_Reach s_makeweightref03_Reach = some (bare F_makeweightref03_Reach.body, F_makeweightref03_Reach.res, F_makeweightref03_Reach.nt) := by kernel_rfl
theorem ok_system_order : compF Try.prog f_system_order s_system_order = some (bare F_system_order.body, F_system_order.res, F_system_order.nt) := by kernel_rfl
theorem ok_family_choices : compF Try.prog f_family_choices s_family_choices = some (bare F_family_choices.body, F_family_choices.res, F_family_choices.nt) := by kernel_rfl
theorem ok_family_Valid_1 : compF Try.prog f_family_Valid_1 s_family_Valid_1 = some (bare F_family_Valid_1.body, F_family_Valid_1.res, F_family_Valid_1.nt) := by kernel_rfl
theorem ok_act_Is : compF Try.prog f_act_Is s_act_Is = some (bare F_act_Is.body, F_act_Is.res, F_act_Is.nt) := by kernel_rfl
theorem ok_family_Valid_2 : compF Try.prog f_family_Valid_2 s_family_Valid_2 = some (bare F_family_Valid_2.body, F_family_Valid_2.res, F_family_Valid_2.nt) := by kernel_rfl
theorem ok_act_In : compF Try.prog f_act_In s_act_In = some (bare F_act_In.body, F_act_In.res, F_act_In.nt) := by kernel_rfl
theorem ok__family_products__with : compF Try.prog f__family_products__with s__family_products__with = some (bare F__family_products__with.body, F__family_products__with.res, F__family_products__with.nt) := by kernel_rfl
theorem ok_prune_rungs : compF Try.prog f_prune_rungs s_prune_rungs = some (bare F_prune_rungs.body, F_prune_rungs.res, F_prune_rungs.nt) := by kernel_rfl
theorem ok_family_chosen : compF Try.prog f_family_chosen s_family_chosen = some (bare F_family_chosen.body, F_family_chosen.res, F_family_chosen.nt) := by kernel_rfl
theorem ok_makeweightref01_Has : compF Try.prog f_makeweightref01_Has s_makeweightref01_Has = some (bare F_makeweightref01_Has.body, F_makeweightref01_Has.res, F_makeweightref01_Has.nt) := by kernel_rfl
theorem ok_makeweightref01_letter : compF Try.prog f_makeweightref01_letter s_makeweightref01_letter = some (bare F_makeweightref01_letter.body, F_makeweightref01_letter.res, F_makeweightref01_letter.nt) := by kernel_rfl
theorem ok_act_Name : compF Try.prog f_act_Name s_act_Name = some (bare F_act_Name.body, F_act_Name.res, F_act_Name.nt) := by kernel_rfl
theorem ok_slices_Contains___string_string_ : compF Try.prog f_slices_Contains___string_string_ s_slices_Contains___string_string_ = some (bare F_slices_Contains___string_string_.body, F_slices_Contains___string_string_.res, F_slices_Contains___string_string_.nt) := by kernel_rfl
theorem ok_makeweightref04_falls : compF Try.prog f_makeweightref04_falls s_makeweightref04_falls = some (bare F_makeweightref04_falls.body, F_makeweightref04_falls.res, F_makeweightref04_falls.nt) := by kernel_rfl
theorem ok_makeweightref03_good : compF Try.prog f_makeweightref03_good s_makeweightref03_good = some (bare F_makeweightref03_good.body, F_makeweightref03_good.res, F_makeweightref03_good.nt) := by kernel_rfl
theorem ok_act_In_1 : compF Try.prog f_act_In_1 s_act_In_1 = some (bare F_act_In_1.body, F_act_In_1.res, F_act_In_1.nt) := by kernel_rfl
theorem ok_prune_rungs_1 : compF Try.prog f_prune_rungs_1 s_prune_rungs_1 = some (bare F_prune_rungs_1.body, F_prune_rungs_1.res, F_prune_rungs_1.nt) := by kernel_rfl
theorem ok_slices_IndexFunc___api_Choice_api_Choice_ : compF Try.prog f_slices_IndexFunc___api_Choice_api_Choice_ s_slices_IndexFunc___api_Choice_api_Choice_ = some (bare F_slices_IndexFunc___api_Choice_api_Choice_.body, F_slices_IndexFunc___api_Choice_api_Choice_.res, F_slices_IndexFunc___api_Choice_api_Choice_.nt) := by kernel_rfl
theorem ok_family_chosen_1 : compF Try.prog f_family_chosen_1 s_family_chosen_1 = some (bare F_family_chosen_1.body, F_family_chosen_1.res, F_family_chosen_1.nt) := by kernel_rfl
theorem ok_act_letter : compF Try.prog f_act_letter s_act_letter = some (bare F_act_letter.body, F_act_letter.res, F_act_letter.nt) := by kernel_rfl
theorem ok_slices_Index___string_string_ : compF Try.prog f_slices_Index___string_string_ s_slices_Index___string_string_ = some (bare F_slices_Index___string_string_.body, F_slices_Index___string_string_.res, F_slices_Index___string_string_.nt) := by kernel_rfl
theorem ok_makeweightref03_Accepts : compF Try.prog f_makeweightref03_Accepts s_makeweightref03_Accepts = some (bare F_makeweightref03_Accepts.body, F_makeweightref03_Accepts.res, F_makeweightref03_Accepts.nt) := by kernel_rfl
theorem ok_makeweightref02_Offer : compF Try.prog f_makeweightref02_Offer s_makeweightref02_Offer = some (bare F_makeweightref02_Offer.body, F_makeweightref02_Offer.res, F_makeweightref02_Offer.nt) := by kernel_rfl
theorem ok_makeweightref01_In : compF Try.prog f_makeweightref01_In s_makeweightref01_In = some (bare F_makeweightref01_In.body, F_makeweightref01_In.res, F_makeweightref01_In.nt) := by kernel_rfl
theorem good : Good Try.prog G := by
  intro f F h
  unfold G at h
  split at h
  · cases h; exact ⟨_, ok_makeweightlaw16_FamilyDecides⟩
  · cases h; exact ⟨_, ok_makeweightlaw16_few⟩
  · cases h; exact ⟨_, ok_makeweightlaw16_light⟩
  · cases h; exact ⟨_, ok_makeweightlaw16_awake⟩
  · cases h; exact ⟨_, ok_makeweightref16_Is⟩
  · cases h; exact ⟨_, ok_makeweightref16_Full⟩
  · cases h; exact ⟨_, ok_makeweightref02_Is⟩
  · cases h; exact ⟨_, ok_makeweightref01_SameStrings⟩
  · cases h; exact ⟨_, ok_makeweightref16_Satisfied⟩
  · cases h; exact ⟨_, ok_family_Satisfied⟩
  · cases h; exact ⟨_, ok_makeweightref02_Copy⟩
  · cases h; exact ⟨_, ok_makeweightref16_Copy⟩
  · cases h; exact ⟨_, ok_family_Full⟩
  · cases h; exact ⟨_, ok_makeweightref16_Product⟩
  · cases h; exact ⟨_, ok_family_Product⟩
  · cases h; exact ⟨_, ok_makeweightref01_Is⟩
  · cases h; exact ⟨_, ok_makeweightref02_Few⟩
  · cases h; exact ⟨_, ok_makeweightref16_Few⟩
  · cases h; exact ⟨_, ok_makeweightlaw16_pair⟩
  · cases h; exact ⟨_, ok_makeweightref01_SameInts⟩
  · cases h; exact ⟨_, ok_makeweightref16_plan⟩
  · cases h; exact ⟨_, ok_makeweightref04_Hollow⟩
  · cases h; exact ⟨_, ok_makeweightref02_before⟩
  · cases h; exact ⟨_, ok_makeweightref03_Satisfies⟩
  · cases h; exact ⟨_, ok_system_Valid⟩
  · cases h; exact ⟨_, ok_family_Valid⟩
  · cases h; exact ⟨_, ok_slices_Equal___string_string_⟩
  · cases h; exact ⟨_, ok_system_Offers⟩
  · cases h; exact ⟨_, ok_family_which⟩
  · cases h; exact ⟨_, ok_family_Full_1⟩
  · cases h; exact ⟨_, ok_prune_Hollows⟩
  · cases h; exact ⟨_, ok_family_single⟩
  · cases h; exact ⟨_, ok_makeweightref16_chosen⟩
  · cases h; exact ⟨_, ok__family_products__has⟩
  · cases h; exact ⟨_, ok_slices_Clone___string_string_⟩
  · cases h; exact ⟨_, ok_makeweightref01_Name⟩
  · cases h; exact ⟨_, ok_makeweightref01_Index⟩
  · cases h; exact ⟨_, ok_act_Valid⟩
  · cases h; exact ⟨_, ok_makeweightref16_choices⟩
  · cases h; exact ⟨_, ok_makeweightref01_List⟩
  · cases h; exact ⟨_, ok_makeweightref04_allFall⟩
  · cases h; exact ⟨_, ok_makeweightref03_Reach⟩
  · cases h; exact ⟨_, ok_system_order⟩
  · cases h; exact ⟨_, ok_family_choices⟩
  · cases h; exact ⟨_, ok_family_Valid_1⟩
  · cases h; exact ⟨_, ok_act_Is⟩
  · cases h; exact ⟨_, ok_family_Valid_2⟩
  · cases h; exact ⟨_, ok_act_In⟩
  · cases h; exact ⟨_, ok__family_products__with⟩
  · cases h; exact ⟨_, ok_prune_rungs⟩
  · cases h; exact ⟨_, ok_family_chosen⟩
  · cases h; exact ⟨_, ok_makeweightref01_Has⟩
  · cases h; exact ⟨_, ok_makeweightref01_letter⟩
  · cases h; exact ⟨_, ok_act_Name⟩
  · cases h; exact ⟨_, ok_slices_Contains___string_string_⟩
  · cases h; exact ⟨_, ok_makeweightref04_falls⟩
  · cases h; exact ⟨_, ok_makeweightref03_good⟩
  · cases h; exact ⟨_, ok_act_In_1⟩
  · cases h; exact ⟨_, ok_prune_rungs_1⟩
  · cases h; exact ⟨_, ok_slices_IndexFunc___api_Choice_api_Choice_⟩
  · cases h; exact ⟨_, ok_family_chosen_1⟩
  · cases h; exact ⟨_, ok_act_letter⟩
  · cases h; exact ⟨_, ok_slices_Index___string_string_⟩
  · cases h; exact ⟨_, ok_makeweightref03_Accepts⟩
  · cases h; exact ⟨_, ok_makeweightref02_Offer⟩
  · cases h; exact ⟨_, ok_makeweightref01_In⟩
  · cases h
end Go.Mw
