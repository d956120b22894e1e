/- The code, with hints. Printed by Gen. -/
import Derived.Test.YtlkjckdddfckeaaM15
namespace Go.Mw
set_option maxRecDepth 100000
abbrev f_makeweightlaw16_FamilyDecides : FuncId := 3
abbrev f_makeweightlaw16_few : FuncId := 8
abbrev f_makeweightlaw16_light : FuncId := 9
abbrev f_makeweightlaw16_awake : FuncId := 10
abbrev f_makeweightref16_Is : FuncId := 11
abbrev f_makeweightref16_Full : FuncId := 12
abbrev f_makeweightref02_Is : FuncId := 13
abbrev f_makeweightref01_SameStrings : FuncId := 14
abbrev f_makeweightref16_Satisfied : FuncId := 15
abbrev f_family_Satisfied : FuncId := 16
abbrev f_makeweightref02_Copy : FuncId := 17
abbrev f_makeweightref16_Copy : FuncId := 18
abbrev f_family_Full : FuncId := 19
abbrev f_makeweightref16_Product : FuncId := 20
abbrev f_family_Product : FuncId := 22
abbrev f_makeweightref01_Is : FuncId := 28
abbrev f_makeweightref02_Few : FuncId := 34
abbrev f_makeweightref16_Few : FuncId := 35
abbrev f_makeweightlaw16_pair : FuncId := 36
abbrev f_makeweightref01_SameInts : FuncId := 37
abbrev f_makeweightref16_plan : FuncId := 38
abbrev f_makeweightref04_Hollow : FuncId := 39
abbrev f_makeweightref02_before : FuncId := 40
abbrev f_makeweightref03_Satisfies : FuncId := 41
abbrev f_system_Valid : FuncId := 42
abbrev f_family_Valid : FuncId := 43
abbrev f_slices_Equal___string_string_ : FuncId := 44
abbrev f_system_Offers : FuncId := 45
abbrev f_family_which : FuncId := 46
abbrev f_family_Full_1 : FuncId := 47
abbrev f_prune_Hollows : FuncId := 48
abbrev f_family_single : FuncId := 49
abbrev f_makeweightref16_chosen : FuncId := 50
abbrev f__family_products__has : FuncId := 56
abbrev f_slices_Clone___string_string_ : FuncId := 57
abbrev f_makeweightref01_Name : FuncId := 60
abbrev f_makeweightref01_Index : FuncId := 61
abbrev f_act_Valid : FuncId := 63
abbrev f_makeweightref16_choices : FuncId := 70
abbrev f_makeweightref01_List : FuncId := 71
abbrev f_makeweightref04_allFall : FuncId := 72
abbrev f_makeweightref03_Reach : FuncId := 73
abbrev f_system_order : FuncId := 74
abbrev f_family_choices : FuncId := 75
abbrev f_family_Valid_1 : FuncId := 76
abbrev f_act_Is : FuncId := 77
abbrev f_family_Valid_2 : FuncId := 78
abbrev f_act_In : FuncId := 79
abbrev f__family_products__with : FuncId := 80
abbrev f_prune_rungs : FuncId := 81
abbrev f_family_chosen : FuncId := 82
abbrev f_makeweightref01_Has : FuncId := 83
abbrev f_makeweightref01_letter : FuncId := 85
abbrev f_act_Name : FuncId := 88
abbrev f_slices_Contains___string_string_ : FuncId := 89
abbrev f_makeweightref04_falls : FuncId := 95
abbrev f_makeweightref03_good : FuncId := 96
abbrev f_act_In_1 : FuncId := 97
abbrev f_prune_rungs_1 : FuncId := 98
abbrev f_slices_IndexFunc___api_Choice_api_Choice_ : FuncId := 99
abbrev f_family_chosen_1 : FuncId := 100
abbrev f_act_letter : FuncId := 101
abbrev f_slices_Index___string_string_ : FuncId := 102
abbrev f_makeweightref03_Accepts : FuncId := 107
abbrev f_makeweightref02_Offer : FuncId := 108
abbrev f_makeweightref01_In : FuncId := 114

def c_makeweightlaw16_FamilyDecides : C :=
 .seq (.reg [⟨some 2, .box 0 2 (.t 0), none⟩,
    ⟨some 3, .box 1 3 (.t 1), none⟩,
    ⟨some 4, .mov (.c (.bool false)), none⟩])
 (.seq (.seq (.reg [⟨some 13, .ld true 2 (.t 2), none⟩,
    ⟨some 14, .call f_makeweightlaw16_few [(.t 13)] [], none⟩,
    ⟨some 15, .un .not (.t 14), none⟩,
    ⟨some 16, .mov (.t 15), none⟩,
    ⟨some 17, .ld true 3 (.t 3), some (16, false)⟩,
    ⟨some 18, .call f_makeweightlaw16_light [(.t 17)] [], some (16, false)⟩,
    ⟨some 19, .un .not (.t 18), some (16, false)⟩,
    ⟨some 20, .pick (.t 16) (.c (.bool true)) (.t 19), none⟩])
 (.cond (.t 20) (.seq (.reg [⟨some 21, .call f_makeweightlaw16_awake [] [], none⟩,
    ⟨some 4, .mov (.t 21), none⟩])
  (.ret)) (.skip)))
 (.seq (.reg [⟨some 5, .mov (.c (.int .i64 0)), none⟩,
    ⟨some 6, .mov (.c (.int .i64 0)), none⟩,
    ⟨some 7, .mov (.c (.int .i64 0)), none⟩,
    ⟨some 8, .mov (.c (.int .i64 0)), none⟩])
 (.seq (.seq (.reg [⟨some 22, .ld true 3 (.t 3), none⟩,
    ⟨some 23, .call f_makeweightref16_Is [(.t 22)] [], none⟩,
    ⟨some 24, .un .not (.t 23), none⟩])
 (.cond (.t 24) (.reg [⟨some 5, .mov (.c (.int .i64 160)), none⟩,
    ⟨some 6, .mov (.c (.int .i64 160)), none⟩]) (.reg [⟨some 25, .ld true 3 (.t 3), none⟩,
    ⟨some 26, .call f_makeweightref16_Full [(.t 25)] [], none⟩,
    ⟨some 8, .mov (.t 26), none⟩])))
 (.seq (.blk 0 (.seq (.reg [⟨some 28, .ld true 2 (.t 2), none⟩,
    ⟨some 29, .call f_makeweightref02_Is [(.t 28)] [], none⟩,
    ⟨some 30, .un .not (.t 29), none⟩,
    ⟨some 27, .mov (.t 30), none⟩])
  (.cond (.t 27) (.reg [⟨some 5, .mov (.c (.int .i64 20)), none⟩]) (.seq (.reg [⟨some 32, .mov (.t 5), none⟩,
    ⟨some 33, .bin .eql (.t 32) (.c (.int .i64 0)), none⟩,
    ⟨some 34, .mov (.t 33), none⟩,
    ⟨some 35, .fad 0 (.t 2), some (34, true)⟩,
    ⟨some 36, .ld false 1 (.t 35), some (34, true)⟩,
    ⟨some 37, .fad 0 (.t 3), some (34, true)⟩,
    ⟨some 38, .ld false 1 (.t 37), some (34, true)⟩,
    ⟨some 39, .call f_makeweightref01_SameStrings [(.t 36), (.t 38)] [], some (34, true)⟩,
    ⟨some 40, .un .not (.t 39), some (34, true)⟩,
    ⟨some 41, .pick (.t 34) (.t 40) (.c (.bool false)), none⟩,
    ⟨some 31, .mov (.t 41), none⟩])
   (.cond (.t 31) (.reg [⟨some 5, .mov (.c (.int .i64 10)), none⟩]) (.seq (.reg [⟨some 43, .mov (.t 5), none⟩,
    ⟨some 44, .bin .eql (.t 43) (.c (.int .i64 0)), none⟩,
    ⟨some 42, .mov (.t 44), none⟩])
    (.cond (.t 42) (.reg [⟨some 45, .ld true 2 (.t 2), none⟩,
    ⟨some 46, .ld true 3 (.t 3), none⟩,
    ⟨some 47, .call f_makeweightref16_Satisfied [(.t 45), (.t 46)] [], none⟩,
    ⟨some 7, .mov (.t 47), none⟩]) (.skip))))))))
 (.seq (.drw [⟨some 49, .ld true 2 (.t 2), none⟩,
    ⟨some 50, .call f_makeweightref02_Copy [(.t 49)] [], none⟩,
    ⟨some 51, .ld true 3 (.t 3), none⟩,
    ⟨some 52, .call f_makeweightref16_Copy [(.t 51)] [], none⟩,
    ⟨some 53, .call f_family_Satisfied [(.t 50), (.t 52)] [], none⟩,
    ⟨some 48, .mov (.t 53), none⟩,
    ⟨some 54, .ext (.t 48) 0, none⟩,
    ⟨some 55, .ext (.t 48) 1, none⟩,
    ⟨some 9, .mov (.t 54), none⟩,
    ⟨some 10, .mov (.t 55), none⟩] [(1, 2)])
 (.seq (.reg [⟨some 57, .ld true 3 (.t 3), none⟩,
    ⟨some 58, .call f_makeweightref16_Copy [(.t 57)] [], none⟩,
    ⟨some 59, .call f_family_Full [(.t 58)] [], none⟩,
    ⟨some 56, .mov (.t 59), none⟩,
    ⟨some 60, .ext (.t 56) 0, none⟩,
    ⟨some 61, .ext (.t 56) 1, none⟩,
    ⟨some 11, .mov (.t 60), none⟩,
    ⟨some 12, .mov (.t 61), none⟩])
 (.seq (.reg [⟨some 62, .mov (.t 10), none⟩,
    ⟨some 63, .mov (.t 5), none⟩,
    ⟨some 64, .bin .eql (.t 62) (.t 63), none⟩,
    ⟨some 65, .mov (.t 64), none⟩,
    ⟨some 66, .mov (.t 9), some (65, true)⟩,
    ⟨some 67, .mov (.t 7), some (65, true)⟩,
    ⟨some 68, .bin .eql (.t 66) (.t 67), some (65, true)⟩,
    ⟨some 69, .pick (.t 65) (.t 68) (.c (.bool false)), none⟩,
    ⟨some 70, .mov (.t 69), none⟩,
    ⟨some 71, .mov (.t 12), some (70, true)⟩,
    ⟨some 72, .mov (.t 6), some (70, true)⟩,
    ⟨some 73, .bin .eql (.t 71) (.t 72), some (70, true)⟩,
    ⟨some 74, .pick (.t 70) (.t 73) (.c (.bool false)), none⟩,
    ⟨some 75, .mov (.t 74), none⟩,
    ⟨some 76, .mov (.t 11), some (75, true)⟩,
    ⟨some 77, .mov (.t 8), some (75, true)⟩,
    ⟨some 78, .bin .eql (.t 76) (.t 77), some (75, true)⟩,
    ⟨some 79, .pick (.t 75) (.t 78) (.c (.bool false)), none⟩,
    ⟨some 80, .mov (.t 79), none⟩,
    ⟨some 81, .call f_makeweightlaw16_awake [] [], some (80, true)⟩,
    ⟨some 82, .pick (.t 80) (.t 81) (.c (.bool false)), none⟩,
    ⟨some 4, .mov (.t 82), none⟩])
 (.ret))))))))
def s_makeweightlaw16_FamilyDecides : List Nat := [2, 3]
def F_makeweightlaw16_FamilyDecides : IF := ⟨2, 83, 2, c_makeweightlaw16_FamilyDecides, [(4, none)], true, false, false⟩

def c_makeweightlaw16_few : C :=
 .seq (.reg [⟨some 1, .box 0 2 (.t 0), none⟩,
    ⟨some 2, .mov (.c (.bool false)), none⟩])
 (.seq (.reg [⟨some 3, .fad 1 (.t 1), none⟩,
    ⟨some 4, .ld false 1 (.t 3), none⟩,
    ⟨some 5, .lenl (.t 4), none⟩,
    ⟨some 6, .bin .leq (.t 5) (.c (.int .i64 30)), none⟩,
    ⟨some 7, .mov (.t 6), none⟩,
    ⟨some 8, .ld true 2 (.t 1), some (7, true)⟩,
    ⟨some 9, .call f_makeweightref02_Few [(.t 8), (.c (.int .i64 700))] [], some (7, true)⟩,
    ⟨some 10, .pick (.t 7) (.t 9) (.c (.bool false)), none⟩,
    ⟨some 2, .mov (.t 10), none⟩])
 (.ret))
def s_makeweightlaw16_few : List Nat := [1]
def F_makeweightlaw16_few : IF := ⟨1, 11, 1, c_makeweightlaw16_few, [(2, none)], true, false, false⟩

def c_makeweightlaw16_light : C :=
 .seq (.reg [⟨some 1, .box 0 3 (.t 0), none⟩,
    ⟨some 2, .mov (.c (.bool false)), none⟩])
 (.seq (.reg [⟨some 3, .fad 2 (.t 1), none⟩,
    ⟨some 4, .ld false 1 (.t 3), none⟩,
    ⟨some 5, .lenl (.t 4), none⟩,
    ⟨some 6, .bin .leq (.t 5) (.c (.int .i64 20)), none⟩,
    ⟨some 7, .mov (.t 6), none⟩,
    ⟨some 8, .ld true 3 (.t 1), some (7, true)⟩,
    ⟨some 9, .call f_makeweightref16_Few [(.t 8), (.c (.int .i64 1000))] [], some (7, true)⟩,
    ⟨some 10, .pick (.t 7) (.t 9) (.c (.bool false)), none⟩,
    ⟨some 2, .mov (.t 10), none⟩])
 (.ret))
def s_makeweightlaw16_light : List Nat := [1]
def F_makeweightlaw16_light : IF := ⟨1, 11, 1, c_makeweightlaw16_light, [(2, none)], true, false, false⟩

def c_makeweightlaw16_awake : C :=
 .seq (.reg [⟨some 0, .mov (.c (.bool false)), none⟩])
 (.seq (.reg [⟨some 8, .bsl 0 1 1 [(.c (.str ⟨#[97]⟩))], none⟩,
    ⟨some 9, .bsl 1 1 1 [(.c .nils)], none⟩,
    ⟨some 10, .bld [.nils, .nils] [(0, 1, (.t 8)), (1, 1, (.t 9))], none⟩,
    ⟨some 11, .call f_makeweightlaw16_pair [] [], none⟩,
    ⟨some 12, .call f_family_Satisfied [(.t 10), (.t 11)] [], none⟩,
    ⟨some 7, .mov (.t 12), none⟩,
    ⟨some 13, .ext (.t 7) 0, none⟩,
    ⟨some 14, .ext (.t 7) 1, none⟩,
    ⟨some 1, .mov (.t 13), none⟩,
    ⟨some 2, .mov (.t 14), none⟩])
 (.seq (.reg [⟨some 16, .call f_makeweightlaw16_pair [] [], none⟩,
    ⟨some 17, .call f_family_Full [(.t 16)] [], none⟩,
    ⟨some 15, .mov (.t 17), none⟩,
    ⟨some 18, .ext (.t 15) 0, none⟩,
    ⟨some 19, .ext (.t 15) 1, none⟩,
    ⟨some 3, .mov (.t 18), none⟩,
    ⟨some 4, .mov (.t 19), none⟩])
 (.seq (.reg [⟨some 21, .call f_makeweightlaw16_pair [] [], none⟩,
    ⟨some 22, .call f_family_Product [(.t 21), (.c (.int .i64 1))] [], none⟩,
    ⟨some 20, .mov (.t 22), none⟩,
    ⟨some 23, .ext (.t 20) 0, none⟩,
    ⟨some 24, .ext (.t 20) 1, none⟩,
    ⟨some 5, .alc 2 2 (.agg [.nils, .nils]), none⟩,
    ⟨none, .sto 2 (.t 5) (.t 23), none⟩,
    ⟨some 6, .mov (.t 24), none⟩])
 (.seq (.reg [⟨some 25, .mov (.t 2), none⟩,
    ⟨some 26, .bin .eql (.t 25) (.c (.int .i64 0)), none⟩,
    ⟨some 27, .mov (.t 26), none⟩,
    ⟨some 28, .mov (.t 1), some (27, true)⟩,
    ⟨some 29, .bin .eql (.t 28) (.c (.int .i64 1)), some (27, true)⟩,
    ⟨some 30, .pick (.t 27) (.t 29) (.c (.bool false)), none⟩,
    ⟨some 31, .mov (.t 30), none⟩,
    ⟨some 32, .mov (.t 4), some (31, true)⟩,
    ⟨some 33, .bin .eql (.t 32) (.c (.int .i64 0)), some (31, true)⟩,
    ⟨some 34, .pick (.t 31) (.t 33) (.c (.bool false)), none⟩,
    ⟨some 35, .mov (.t 34), none⟩,
    ⟨some 36, .mov (.t 3), some (35, true)⟩,
    ⟨some 37, .bin .eql (.t 36) (.c (.int .i64 3)), some (35, true)⟩,
    ⟨some 38, .pick (.t 35) (.t 37) (.c (.bool false)), none⟩,
    ⟨some 39, .mov (.t 38), none⟩,
    ⟨some 40, .mov (.t 6), some (39, true)⟩,
    ⟨some 41, .bin .eql (.t 40) (.c (.int .i64 0)), some (39, true)⟩,
    ⟨some 42, .pick (.t 39) (.t 41) (.c (.bool false)), none⟩,
    ⟨some 43, .mov (.t 42), none⟩,
    ⟨some 44, .fad 1 (.t 5), some (43, true)⟩,
    ⟨some 45, .ld false 1 (.t 44), some (43, true)⟩,
    ⟨some 46, .lenl (.t 45), some (43, true)⟩,
    ⟨some 47, .bin .eql (.t 46) (.c (.int .i64 1)), some (43, true)⟩,
    ⟨some 48, .pick (.t 43) (.t 47) (.c (.bool false)), none⟩,
    ⟨some 49, .mov (.t 48), none⟩,
    ⟨some 50, .fad 1 (.t 5), some (49, true)⟩,
    ⟨some 51, .ld false 1 (.t 50), some (49, true)⟩,
    ⟨some 52, .iad 2 (.t 51) (.c (.int .i64 0)), some (49, true)⟩,
    ⟨some 53, .fad 0 (.t 52), some (49, true)⟩,
    ⟨some 54, .ld false 1 (.t 53), some (49, true)⟩,
    ⟨some 55, .bsl 3 1 1 [(.c (.int .i64 1))], some (49, true)⟩,
    ⟨some 56, .call f_makeweightref01_SameInts [(.t 54), (.t 55)] [], some (49, true)⟩,
    ⟨some 57, .pick (.t 49) (.t 56) (.c (.bool false)), none⟩,
    ⟨some 0, .mov (.t 57), none⟩])
 (.ret)))))
def s_makeweightlaw16_awake : List Nat := [8, 9, 5, 55]
def F_makeweightlaw16_awake : IF := ⟨0, 58, 4, c_makeweightlaw16_awake, [(0, none)], true, false, false⟩

def l_makeweightref16_Is_0 : C :=
 .loop (rest 50 [1, 32, 33, 34]) [1] (.seq (.reg [⟨some 35, .bin .lss (.t 34) (.t 33), none⟩])
 (.seq (.cond (.t 35) (.skip) (.exit 0))
 (.seq (.blk 1 (.seq (.reg [⟨some 36, .iad 2 (.t 32) (.t 34), none⟩,
    ⟨some 37, .ld true 2 (.t 36), none⟩,
    ⟨some 4, .alc 1 2 (.agg [.nils, .nils]), none⟩,
    ⟨none, .sto 2 (.t 4) (.t 37), none⟩])
  (.seq (.reg [⟨some 38, .ld true 2 (.t 4), none⟩,
    ⟨some 39, .fad 0 (.t 1), none⟩,
    ⟨some 40, .ld false 1 (.t 39), none⟩,
    ⟨some 41, .lenl (.t 40), none⟩,
    ⟨some 42, .fad 2 (.t 1), none⟩,
    ⟨some 43, .ld false 1 (.t 42), none⟩,
    ⟨some 44, .lenl (.t 43), none⟩,
    ⟨some 45, .fad 1 (.t 1), none⟩,
    ⟨some 46, .ld false 1 (.t 45), none⟩,
    ⟨some 47, .call f_makeweightref16_plan [(.t 38), (.t 41), (.t 44), (.t 46)] [], none⟩,
    ⟨some 48, .un .not (.t 47), none⟩])
  (.cond (.t 48) (.seq (.reg [⟨some 2, .mov (.c (.bool false)), none⟩])
   (.ret)) (.skip)))))
 (.reg [⟨some 49, .bin .add (.t 34) (.c (.int .i64 1)), none⟩,
    ⟨some 34, .mov (.t 49), none⟩]))))
def c_makeweightref16_Is : C :=
 .seq (.reg [⟨some 1, .box 0 3 (.t 0), none⟩,
    ⟨some 2, .mov (.c (.bool false)), none⟩])
 (.seq (.seq (.reg [⟨some 5, .fad 0 (.t 1), none⟩,
    ⟨some 6, .ld false 1 (.t 5), none⟩,
    ⟨some 7, .call f_makeweightref01_Is [(.t 6)] [], none⟩,
    ⟨some 8, .un .not (.t 7), none⟩,
    ⟨some 9, .mov (.t 8), none⟩,
    ⟨some 10, .fad 1 (.t 1), some (9, false)⟩,
    ⟨some 11, .ld false 1 (.t 10), some (9, false)⟩,
    ⟨some 12, .bin .lss (.t 11) (.c (.int .i64 1)), some (9, false)⟩,
    ⟨some 13, .pick (.t 9) (.c (.bool true)) (.t 12), none⟩,
    ⟨some 14, .mov (.t 13), none⟩,
    ⟨some 15, .fad 1 (.t 1), some (14, false)⟩,
    ⟨some 16, .ld false 1 (.t 15), some (14, false)⟩,
    ⟨some 17, .bin .gtr (.t 16) (.c (.int .i64 32)), some (14, false)⟩,
    ⟨some 18, .pick (.t 14) (.c (.bool true)) (.t 17), none⟩,
    ⟨some 19, .mov (.t 18), none⟩,
    ⟨some 20, .fad 2 (.t 1), some (19, false)⟩,
    ⟨some 21, .ld false 1 (.t 20), some (19, false)⟩,
    ⟨some 22, .lenl (.t 21), some (19, false)⟩,
    ⟨some 23, .bin .lss (.t 22) (.c (.int .i64 1)), some (19, false)⟩,
    ⟨some 24, .pick (.t 19) (.c (.bool true)) (.t 23), none⟩,
    ⟨some 25, .mov (.t 24), none⟩,
    ⟨some 26, .fad 2 (.t 1), some (25, false)⟩,
    ⟨some 27, .ld false 1 (.t 26), some (25, false)⟩,
    ⟨some 28, .lenl (.t 27), some (25, false)⟩,
    ⟨some 29, .bin .gtr (.t 28) (.c (.int .i64 500)), some (25, false)⟩,
    ⟨some 30, .pick (.t 25) (.c (.bool true)) (.t 29), none⟩])
 (.cond (.t 30) (.seq (.reg [⟨some 2, .mov (.c (.bool false)), none⟩])
  (.ret)) (.skip)))
 (.seq (.seq (.reg [⟨some 31, .fad 2 (.t 1), none⟩,
    ⟨some 32, .ld false 1 (.t 31), none⟩,
    ⟨some 33, .lenl (.t 32), none⟩,
    ⟨some 34, .mov (.c (.int .i64 0)), none⟩])
 (.blk 0 (l_makeweightref16_Is_0)))
 (.seq (.reg [⟨some 2, .mov (.c (.bool true)), none⟩])
 (.ret))))
def s_makeweightref16_Is : List Nat := [1, 4]
def F_makeweightref16_Is : IF := ⟨1, 50, 2, c_makeweightref16_Is, [(2, none)], true, false, false⟩

def l_makeweightref16_Full_0 : C :=
 .loop (rest 23 [1, 3, 6, 7]) [] (.seq (.reg [⟨some 8, .bin .lss (.t 7) (.t 6), none⟩])
 (.seq (.cond (.t 8) (.skip) (.exit 0))
 (.seq (.blk 1 (.seq (.reg [⟨some 9, .mov (.t 7), none⟩,
    ⟨some 4, .mov (.t 9), none⟩])
  (.seq (.reg [⟨some 10, .ld true 3 (.t 1), none⟩,
    ⟨some 11, .mov (.t 4), none⟩,
    ⟨some 12, .call f_makeweightref16_Product [(.t 10), (.t 11)] [], none⟩,
    ⟨some 13, .call f_makeweightref04_Hollow [(.t 12)] [], none⟩,
    ⟨some 14, .iad 1 (.t 13) (.c (.int .i64 0)), none⟩,
    ⟨some 15, .ld false 1 (.t 14), none⟩,
    ⟨some 16, .un .not (.t 15), none⟩])
  (.cond (.t 16) (.reg [⟨some 17, .mov (.t 3), none⟩,
    ⟨some 18, .mov (.t 4), none⟩,
    ⟨some 19, .bin .shl (.c (.int .i64 1)) (.t 18), none⟩,
    ⟨some 20, .bin .or (.t 17) (.t 19), none⟩,
    ⟨some 3, .mov (.t 20), none⟩]) (.skip)))))
 (.reg [⟨some 21, .bin .add (.t 7) (.c (.int .i64 1)), none⟩,
    ⟨some 7, .mov (.t 21), none⟩]))))
def c_makeweightref16_Full : C :=
 .seq (.reg [⟨some 1, .box 0 3 (.t 0), none⟩,
    ⟨some 2, .mov (.c (.int .i64 0)), none⟩])
 (.seq (.reg [⟨some 3, .mov (.c (.int .i64 0)), none⟩])
 (.seq (.seq (.reg [⟨some 5, .fad 1 (.t 1), none⟩,
    ⟨some 6, .ld false 1 (.t 5), none⟩,
    ⟨some 7, .mov (.c (.int .i64 0)), none⟩])
 (.blk 0 (l_makeweightref16_Full_0)))
 (.seq (.reg [⟨some 22, .mov (.t 3), none⟩,
    ⟨some 2, .mov (.t 22), none⟩])
 (.ret))))
def s_makeweightref16_Full : List Nat := [1]
def F_makeweightref16_Full : IF := ⟨1, 23, 1, c_makeweightref16_Full, [(2, none)], true, false, false⟩

def l_makeweightref02_Is_2 : C :=
 .loop (rest 84 [1, 3, 5, 25, 26, 27, 35, 36, 37]) [1] (.seq (.reg [⟨some 38, .bin .lss (.t 37) (.t 36), none⟩])
 (.seq (.cond (.t 38) (.skip) (.exit 2))
 (.seq (.blk 3 (.seq (.reg [⟨some 39, .mov (.t 37), none⟩,
    ⟨some 40, .iad 2 (.t 35) (.t 37), none⟩,
    ⟨some 41, .ld true 2 (.t 40), none⟩,
    ⟨some 7, .alc 1 2 (.agg [(.int .i64 0), (.int .i64 0)]), none⟩,
    ⟨some 6, .mov (.t 39), none⟩,
    ⟨none, .sto 2 (.t 7) (.t 41), none⟩])
  (.seq (.drw [⟨some 42, .fad 0 (.t 7), none⟩,
    ⟨some 43, .ld false 1 (.t 42), none⟩,
    ⟨some 44, .bin .lss (.t 43) (.c (.int .i64 0)), none⟩,
    ⟨some 45, .mov (.t 44), none⟩,
    ⟨some 46, .fad 0 (.t 7), some (45, false)⟩,
    ⟨some 47, .ld false 1 (.t 46), some (45, false)⟩,
    ⟨some 48, .fad 0 (.t 1), some (45, false)⟩,
    ⟨some 49, .ld false 1 (.t 48), some (45, false)⟩,
    ⟨some 50, .lenl (.t 49), some (45, false)⟩,
    ⟨some 51, .bin .geq (.t 47) (.t 50), some (45, false)⟩,
    ⟨some 52, .pick (.t 45) (.c (.bool true)) (.t 51), none⟩,
    ⟨some 53, .mov (.t 52), none⟩,
    ⟨some 54, .fad 1 (.t 7), some (53, false)⟩,
    ⟨some 55, .ld false 1 (.t 54), some (53, false)⟩,
    ⟨some 56, .bin .lss (.t 55) (.c (.int .i64 0)), some (53, false)⟩,
    ⟨some 57, .pick (.t 53) (.c (.bool true)) (.t 56), none⟩,
    ⟨some 58, .mov (.t 57), none⟩,
    ⟨some 59, .fad 1 (.t 7), some (58, false)⟩,
    ⟨some 60, .ld false 1 (.t 59), some (58, false)⟩,
    ⟨some 61, .fad 1 (.t 1), some (58, false)⟩,
    ⟨some 62, .ld false 1 (.t 61), some (58, false)⟩,
    ⟨some 63, .lenl (.t 62), some (58, false)⟩,
    ⟨some 64, .bin .geq (.t 60) (.t 63), some (58, false)⟩,
    ⟨some 65, .pick (.t 58) (.c (.bool true)) (.t 64), none⟩,
    ⟨some 66, .mov (.t 65), none⟩,
    ⟨some 67, .mov (.t 6), some (66, false)⟩,
    ⟨some 68, .bin .gtr (.t 67) (.c (.int .i64 0)), some (66, false)⟩,
    ⟨some 69, .mov (.t 68), some (66, false)⟩,
    ⟨some 70, .mov (.t 5), some (69, true)⟩,
    ⟨some 71, .mov (.t 6), some (69, true)⟩,
    ⟨some 72, .bin .sub (.t 71) (.c (.int .i64 1)), some (69, true)⟩,
    ⟨some 73, .iad 2 (.t 70) (.t 72), some (69, true)⟩,
    ⟨some 74, .ld true 2 (.t 73), some (69, true)⟩,
    ⟨some 75, .ld true 2 (.t 7), some (69, true)⟩,
    ⟨some 76, .call f_makeweightref02_before [(.t 74), (.t 75)] [], some (69, true)⟩,
    ⟨some 77, .un .not (.t 76), some (69, true)⟩,
    ⟨some 78, .pick (.t 69) (.t 77) (.c (.bool false)), some (66, false)⟩,
    ⟨some 79, .pick (.t 66) (.c (.bool true)) (.t 78), none⟩] [])
  (.cond (.t 79) (.seq (.reg [⟨some 2, .mov (.c (.bool false)), none⟩])
   (.ret)) (.skip)))))
 (.reg [⟨some 80, .bin .add (.t 37) (.c (.int .i64 1)), none⟩,
    ⟨some 37, .mov (.t 80), none⟩]))))
def l_makeweightref02_Is_0 : C :=
 .loop (rest 84 [1, 3, 25, 26, 27]) [1] (.seq (.reg [⟨some 28, .bin .lss (.t 27) (.t 26), none⟩])
 (.seq (.cond (.t 28) (.skip) (.exit 0))
 (.seq (.blk 1 (.seq (.reg [⟨some 29, .iad 1 (.t 25) (.t 27), none⟩,
    ⟨some 30, .ld false 1 (.t 29), none⟩,
    ⟨some 5, .mov (.t 30), none⟩])
  (.seq (.reg [⟨some 31, .mov (.t 3), none⟩,
    ⟨some 32, .mov (.t 5), none⟩,
    ⟨some 33, .lenl (.t 32), none⟩,
    ⟨some 34, .bin .add (.t 31) (.t 33), none⟩,
    ⟨some 3, .mov (.t 34), none⟩])
  (.seq (.reg [⟨some 35, .mov (.t 5), none⟩,
    ⟨some 36, .lenl (.t 35), none⟩,
    ⟨some 37, .mov (.c (.int .i64 0)), none⟩])
  (.blk 2 (l_makeweightref02_Is_2))))))
 (.reg [⟨some 81, .bin .add (.t 27) (.c (.int .i64 1)), none⟩,
    ⟨some 27, .mov (.t 81), none⟩]))))
def c_makeweightref02_Is : C :=
 .seq (.reg [⟨some 1, .box 0 2 (.t 0), none⟩,
    ⟨some 2, .mov (.c (.bool false)), none⟩])
 (.seq (.seq (.reg [⟨some 8, .fad 0 (.t 1), none⟩,
    ⟨some 9, .ld false 1 (.t 8), none⟩,
    ⟨some 10, .call f_makeweightref01_Is [(.t 9)] [], none⟩,
    ⟨some 11, .un .not (.t 10), none⟩,
    ⟨some 12, .mov (.t 11), none⟩,
    ⟨some 13, .fad 1 (.t 1), some (12, false)⟩,
    ⟨some 14, .ld false 1 (.t 13), some (12, false)⟩,
    ⟨some 15, .lenl (.t 14), some (12, false)⟩,
    ⟨some 16, .bin .lss (.t 15) (.c (.int .i64 1)), some (12, false)⟩,
    ⟨some 17, .pick (.t 12) (.c (.bool true)) (.t 16), none⟩,
    ⟨some 18, .mov (.t 17), none⟩,
    ⟨some 19, .fad 1 (.t 1), some (18, false)⟩,
    ⟨some 20, .ld false 1 (.t 19), some (18, false)⟩,
    ⟨some 21, .lenl (.t 20), some (18, false)⟩,
    ⟨some 22, .bin .gtr (.t 21) (.c (.int .i64 5000)), some (18, false)⟩,
    ⟨some 23, .pick (.t 18) (.c (.bool true)) (.t 22), none⟩])
 (.cond (.t 23) (.seq (.reg [⟨some 2, .mov (.c (.bool false)), none⟩])
  (.ret)) (.skip)))
 (.seq (.reg [⟨some 3, .mov (.c (.int .i64 0)), none⟩])
 (.seq (.seq (.reg [⟨some 24, .fad 1 (.t 1), none⟩,
    ⟨some 25, .ld false 1 (.t 24), none⟩,
    ⟨some 26, .lenl (.t 25), none⟩,
    ⟨some 27, .mov (.c (.int .i64 0)), none⟩])
 (.blk 0 (l_makeweightref02_Is_0)))
 (.seq (.reg [⟨some 82, .mov (.t 3), none⟩,
    ⟨some 83, .bin .leq (.t 82) (.c (.int .i64 400000)), none⟩,
    ⟨some 2, .mov (.t 83), none⟩])
 (.ret)))))
def s_makeweightref02_Is : List Nat := [1, 7]
def F_makeweightref02_Is : IF := ⟨1, 84, 2, c_makeweightref02_Is, [(2, none)], true, false, false⟩

def l_makeweightref01_SameStrings_0 : C :=
 .loop (rest 26 [1, 12, 13, 14]) [] (.seq (.reg [⟨some 15, .bin .lss (.t 14) (.t 13), none⟩])
 (.seq (.cond (.t 15) (.skip) (.exit 0))
 (.seq (.blk 1 (.seq (.reg [⟨some 16, .mov (.t 14), none⟩,
    ⟨some 17, .iad 1 (.t 12) (.t 14), none⟩,
    ⟨some 18, .ld false 1 (.t 17), none⟩,
    ⟨some 5, .mov (.t 16), none⟩,
    ⟨some 6, .mov (.t 18), none⟩])
  (.seq (.reg [⟨some 19, .mov (.t 6), none⟩,
    ⟨some 20, .mov (.t 1), none⟩,
    ⟨some 21, .mov (.t 5), none⟩,
    ⟨some 22, .iad 1 (.t 20) (.t 21), none⟩,
    ⟨some 23, .ld false 1 (.t 22), none⟩,
    ⟨some 24, .bin .neq (.t 19) (.t 23), none⟩])
  (.cond (.t 24) (.seq (.reg [⟨some 4, .mov (.c (.bool false)), none⟩])
   (.ret)) (.skip)))))
 (.reg [⟨some 25, .bin .add (.t 14) (.c (.int .i64 1)), none⟩,
    ⟨some 14, .mov (.t 25), none⟩]))))
def c_makeweightref01_SameStrings : C :=
 .seq (.reg [⟨some 4, .mov (.c (.bool false)), none⟩])
 (.seq (.seq (.reg [⟨some 7, .mov (.t 0), none⟩,
    ⟨some 8, .lenl (.t 7), none⟩,
    ⟨some 9, .mov (.t 1), none⟩,
    ⟨some 10, .lenl (.t 9), none⟩,
    ⟨some 11, .bin .neq (.t 8) (.t 10), none⟩])
 (.cond (.t 11) (.seq (.reg [⟨some 4, .mov (.c (.bool false)), none⟩])
  (.ret)) (.skip)))
 (.seq (.seq (.reg [⟨some 12, .mov (.t 0), none⟩,
    ⟨some 13, .lenl (.t 12), none⟩,
    ⟨some 14, .mov (.c (.int .i64 0)), none⟩])
 (.blk 0 (l_makeweightref01_SameStrings_0)))
 (.seq (.reg [⟨some 4, .mov (.c (.bool true)), none⟩])
 (.ret))))
def s_makeweightref01_SameStrings : List Nat := []
def F_makeweightref01_SameStrings : IF := ⟨2, 26, 0, c_makeweightref01_SameStrings, [(4, none)], true, false, false⟩

def l_makeweightref16_Satisfied_0 : C :=
 .loop (rest 23 [2, 3, 5, 8, 9]) [] (.seq (.reg [⟨some 10, .bin .lss (.t 9) (.t 8), none⟩])
 (.seq (.cond (.t 10) (.skip) (.exit 0))
 (.seq (.blk 1 (.seq (.reg [⟨some 11, .mov (.t 9), none⟩,
    ⟨some 6, .mov (.t 11), none⟩])
  (.seq (.drw [⟨some 12, .ld true 2 (.t 2), none⟩,
    ⟨some 13, .ld true 3 (.t 3), none⟩,
    ⟨some 14, .mov (.t 6), none⟩,
    ⟨some 15, .call f_makeweightref16_Product [(.t 13), (.t 14)] [], none⟩,
    ⟨some 16, .call f_makeweightref03_Satisfies [(.t 12), (.t 15)] [], none⟩] [(0, 3)])
  (.cond (.t 16) (.reg [⟨some 17, .mov (.t 5), none⟩,
    ⟨some 18, .mov (.t 6), none⟩,
    ⟨some 19, .bin .shl (.c (.int .i64 1)) (.t 18), none⟩,
    ⟨some 20, .bin .or (.t 17) (.t 19), none⟩,
    ⟨some 5, .mov (.t 20), none⟩]) (.skip)))))
 (.reg [⟨some 21, .bin .add (.t 9) (.c (.int .i64 1)), none⟩,
    ⟨some 9, .mov (.t 21), none⟩]))))
def c_makeweightref16_Satisfied : C :=
 .seq (.reg [⟨some 2, .box 0 2 (.t 0), none⟩,
    ⟨some 3, .box 1 3 (.t 1), none⟩,
    ⟨some 4, .mov (.c (.int .i64 0)), none⟩])
 (.seq (.reg [⟨some 5, .mov (.c (.int .i64 0)), none⟩])
 (.seq (.seq (.reg [⟨some 7, .fad 1 (.t 3), none⟩,
    ⟨some 8, .ld false 1 (.t 7), none⟩,
    ⟨some 9, .mov (.c (.int .i64 0)), none⟩])
 (.blk 0 (l_makeweightref16_Satisfied_0)))
 (.seq (.reg [⟨some 22, .mov (.t 5), none⟩,
    ⟨some 4, .mov (.t 22), none⟩])
 (.ret))))
def s_makeweightref16_Satisfied : List Nat := [2, 3]
def F_makeweightref16_Satisfied : IF := ⟨2, 23, 2, c_makeweightref16_Satisfied, [(4, none)], true, false, false⟩

def l_family_Satisfied_3 : C :=
 .loop (rest 152 [2, 3, 6, 7, 8, 9, 10, 11, 12, 13, 75, 76, 77]) [5] (.seq (.reg [⟨some 78, .bin .lss (.t 77) (.t 76), none⟩])
 (.seq (.cond (.t 78) (.skip) (.exit 3))
 (.seq (.blk 4 (.seq (.reg [⟨some 79, .iad 2 (.t 75) (.t 77), none⟩,
    ⟨some 80, .ld true 2 (.t 79), none⟩,
    ⟨some 15, .alc 5 2 (.agg [(.int .i64 0), (.int .i64 0)]), none⟩,
    ⟨none, .sto 2 (.t 15) (.t 80), none⟩])
  (.seq (.reg [⟨some 81, .fad 0 (.t 15), none⟩,
    ⟨some 82, .ld false 1 (.t 81), none⟩,
    ⟨some 83, .mov (.t 12), none⟩,
    ⟨some 84, .bin .eql (.t 82) (.t 83), none⟩])
  (.cond (.t 84) (.reg [⟨some 85, .fad 1 (.t 15), none⟩,
    ⟨some 86, .ld false 1 (.t 85), none⟩,
    ⟨some 13, .mov (.t 86), none⟩]) (.skip)))))
 (.reg [⟨some 87, .bin .add (.t 77) (.c (.int .i64 1)), none⟩,
    ⟨some 77, .mov (.t 87), none⟩]))))
def l_family_Satisfied_7 : C :=
 .loop (rest 152 [2, 3, 6, 7, 8, 9, 10, 11, 17, 101, 102, 103, 117, 118, 119]) [7, 8, 9] (.seq (.reg [⟨some 120, .bin .lss (.t 119) (.t 118), none⟩])
 (.seq (.cond (.t 120) (.skip) (.exit 7))
 (.seq (.blk 8 (.seq (.reg [⟨some 121, .iad 2 (.t 117) (.t 119), none⟩,
    ⟨some 122, .ld true 2 (.t 121), none⟩,
    ⟨some 19, .alc 7 2 (.agg [(.int .i64 0), (.int .i64 0)]), none⟩,
    ⟨none, .sto 2 (.t 19) (.t 122), none⟩])
  (.seq (.reg [⟨some 123, .fad 1 (.t 17), none⟩,
    ⟨some 124, .ld false 1 (.t 123), none⟩,
    ⟨some 125, .fad 0 (.t 19), none⟩,
    ⟨some 126, .ld false 1 (.t 125), none⟩,
    ⟨some 127, .bld [(.int .i64 0), (.int .i64 0)] [(0, 1, (.t 124)), (1, 1, (.t 126))], none⟩,
    ⟨some 20, .alc 8 2 (.agg [(.int .i64 0), (.int .i64 0)]), none⟩,
    ⟨none, .sto 2 (.t 20) (.t 127), none⟩])
  (.seq (.drw [⟨some 128, .mov (.t 11), none⟩,
    ⟨some 129, .fad 1 (.t 19), none⟩,
    ⟨some 130, .ld false 1 (.t 129), none⟩,
    ⟨some 131, .bin .and (.t 128) (.t 130), none⟩,
    ⟨some 132, .mov (.t 7), none⟩,
    ⟨some 133, .ld true 2 (.t 20), none⟩,
    ⟨some 134, .lok (true, [1, 1]) (.int .i64 0) false (.t 132) (.t 133), none⟩,
    ⟨some 135, .bin .andNot (.t 131) (.t 134), none⟩,
    ⟨some 21, .mov (.t 135), none⟩] [])
  (.seq (.reg [⟨some 136, .mov (.t 21), none⟩,
    ⟨some 137, .bin .neq (.t 136) (.c (.int .i64 0)), none⟩])
  (.cond (.t 137) (.seq (.drw [⟨some 138, .mov (.t 7), none⟩,
    ⟨some 139, .ld true 2 (.t 20), none⟩,
    ⟨some 140, .lok (true, [1, 1]) (.int .i64 0) false (.t 138) (.t 139), none⟩,
    ⟨some 141, .mov (.t 21), none⟩,
    ⟨some 142, .bin .or (.t 140) (.t 141), none⟩,
    ⟨some 143, .men (true, [1, 1]) (.int .i64 0) (.t 138) (.t 139), none⟩,
    ⟨some 144, .ext (.t 143) 1, none⟩,
    ⟨none, .est (.t 138) (.t 144) (.t 142), none⟩] [])
   (.reg [⟨some 145, .mov (.t 8), none⟩,
    ⟨some 146, .ld true 2 (.t 20), none⟩,
    ⟨some 147, .bsl 9 2 1 [(.t 146)], none⟩,
    ⟨some 148, .app 10 2 16 (.t 145) (.t 147), none⟩,
    ⟨some 8, .mov (.t 148), none⟩])) (.skip)))))))
 (.reg [⟨some 149, .bin .add (.t 119) (.c (.int .i64 1)), none⟩,
    ⟨some 119, .mov (.t 149), none⟩]))))
def l_family_Satisfied_5 : C :=
 .loop (rest 152 [2, 3, 6, 7, 8, 9, 10, 11, 101, 102, 103]) [6, 7, 8, 9] (.seq (.reg [⟨some 104, .bin .lss (.t 103) (.t 102), none⟩])
 (.seq (.cond (.t 104) (.skip) (.exit 5))
 (.seq (.blk 6 (.seq (.reg [⟨some 105, .iad 2 (.t 101) (.t 103), none⟩,
    ⟨some 106, .ld true 2 (.t 105), none⟩,
    ⟨some 17, .alc 6 2 (.agg [(.int .i64 0), (.int .i64 0)]), none⟩,
    ⟨none, .sto 2 (.t 17) (.t 106), none⟩])
  (.seq (.drw [⟨some 107, .fad 2 (.t 3), none⟩,
    ⟨some 108, .ld false 1 (.t 107), none⟩,
    ⟨some 109, .iaa 2 1 (.t 10) (.c (.int .i64 1)), none⟩,
    ⟨some 110, .ld false 1 (.t 109), none⟩,
    ⟨some 111, .iad 2 (.t 108) (.t 110), none⟩,
    ⟨some 112, .fad 1 (.t 111), none⟩,
    ⟨some 113, .ld false 1 (.t 112), none⟩,
    ⟨some 114, .fad 0 (.t 17), none⟩,
    ⟨some 115, .ld false 1 (.t 114), none⟩,
    ⟨some 116, .iad 1 (.t 113) (.t 115), none⟩,
    ⟨some 117, .ld false 1 (.t 116), none⟩,
    ⟨some 118, .lenl (.t 117), none⟩,
    ⟨some 119, .mov (.c (.int .i64 0)), none⟩] [])
  (.blk 7 (l_family_Satisfied_7)))))
 (.reg [⟨some 150, .bin .add (.t 103) (.c (.int .i64 1)), none⟩,
    ⟨some 103, .mov (.t 150), none⟩]))))
def l_family_Satisfied_1 : C :=
 .loop (rest 152 [2, 3, 6, 7, 8, 9]) [4, 5, 6, 7, 8, 9] (.mvt 8 10 (.seq (.seq (.reg [⟨some 47, .mov (.t 9), none⟩,
    ⟨some 48, .mov (.t 8), none⟩,
    ⟨some 49, .lenl (.t 48), none⟩,
    ⟨some 50, .bin .lss (.t 47) (.t 49), none⟩])
 (.cond (.t 50) (.skip) (.exit 1)))
 (.seq (.blk 2 (.seq (.reg [⟨some 53, .mov (.t 8), none⟩,
    ⟨some 54, .mov (.t 9), none⟩,
    ⟨some 55, .iad 2 (.t 53) (.t 54), none⟩,
    ⟨some 56, .ld true 2 (.t 55), none⟩,
    ⟨some 10, .alc 4 2 (.agg [(.int .i64 0), (.int .i64 0)]), none⟩,
    ⟨none, .sto 2 (.t 10) (.t 56), none⟩])
  (.seq (.drw [⟨some 57, .mov (.t 7), none⟩,
    ⟨some 58, .ld true 2 (.t 10), none⟩,
    ⟨some 59, .lok (true, [1, 1]) (.int .i64 0) false (.t 57) (.t 58), none⟩,
    ⟨some 60, .mov (.t 6), none⟩,
    ⟨some 61, .bin .and (.t 59) (.t 60), none⟩,
    ⟨some 62, .fad 1 (.t 2), none⟩,
    ⟨some 63, .ld false 1 (.t 62), none⟩,
    ⟨some 64, .iaa 2 1 (.t 10) (.c (.int .i64 0)), none⟩,
    ⟨some 65, .ld false 1 (.t 64), none⟩,
    ⟨some 66, .iad 1 (.t 63) (.t 65), none⟩,
    ⟨some 67, .ld false 1 (.t 66), none⟩,
    ⟨some 68, .call f_system_Offers [(.t 67)] [], none⟩,
    ⟨some 11, .mov (.t 61), none⟩,
    ⟨some 12, .mov (.t 68), none⟩] [(1, 11), (2, 11)])
  (.seq (.reg [⟨some 13, .mov (.c (.int .i64 0)), none⟩])
  (.seq (.seq (.reg [⟨some 69, .fad 2 (.t 3), none⟩,
    ⟨some 70, .ld false 1 (.t 69), none⟩,
    ⟨some 71, .iaa 2 1 (.t 10) (.c (.int .i64 1)), none⟩,
    ⟨some 72, .ld false 1 (.t 71), none⟩,
    ⟨some 73, .iad 2 (.t 70) (.t 72), none⟩,
    ⟨some 74, .fad 0 (.t 73), none⟩,
    ⟨some 75, .ld false 1 (.t 74), none⟩,
    ⟨some 76, .lenl (.t 75), none⟩,
    ⟨some 77, .mov (.c (.int .i64 0)), none⟩])
  (.blk 3 (l_family_Satisfied_3)))
  (.seq (.reg [⟨some 88, .mov (.t 6), none⟩,
    ⟨some 89, .mov (.t 11), none⟩,
    ⟨some 90, .mov (.t 13), none⟩,
    ⟨some 91, .bin .andNot (.t 89) (.t 90), none⟩,
    ⟨some 92, .bin .andNot (.t 88) (.t 91), none⟩,
    ⟨some 6, .mov (.t 92), none⟩])
  (.seq (.reg [⟨some 93, .mov (.t 11), none⟩,
    ⟨some 94, .mov (.t 13), none⟩,
    ⟨some 95, .bin .and (.t 93) (.t 94), none⟩,
    ⟨some 11, .mov (.t 95), none⟩])
  (.seq (.reg [⟨some 96, .fad 1 (.t 2), none⟩,
    ⟨some 97, .ld false 1 (.t 96), none⟩,
    ⟨some 98, .iaa 2 1 (.t 10) (.c (.int .i64 0)), none⟩,
    ⟨some 99, .ld false 1 (.t 98), none⟩,
    ⟨some 100, .iad 1 (.t 97) (.t 99), none⟩,
    ⟨some 101, .ld false 1 (.t 100), none⟩,
    ⟨some 102, .lenl (.t 101), none⟩,
    ⟨some 103, .mov (.c (.int .i64 0)), none⟩])
  (.blk 5 (l_family_Satisfied_5))))))))))
 (.reg [⟨some 51, .mov (.t 9), none⟩,
    ⟨some 52, .bin .add (.t 51) (.c (.int .i64 1)), none⟩,
    ⟨some 9, .mov (.t 52), none⟩]))))
def c_family_Satisfied : C :=
 .seq (.reg [⟨some 2, .box 0 2 (.t 0), none⟩,
    ⟨some 3, .box 1 3 (.t 1), none⟩,
    ⟨some 4, .mov (.c (.int .i64 0)), none⟩,
    ⟨some 5, .mov (.c (.int .i64 0)), none⟩])
 (.seq (.blk 0 (.seq (.reg [⟨some 23, .ld true 2 (.t 2), none⟩,
    ⟨some 24, .call f_system_Valid [(.t 23)] [], none⟩,
    ⟨some 25, .un .not (.t 24), none⟩,
    ⟨some 22, .mov (.t 25), none⟩])
  (.cond (.t 22) (.seq (.reg [⟨some 4, .mov (.c (.int .i64 0)), none⟩,
    ⟨some 5, .mov (.c (.int .i64 20)), none⟩])
   (.ret)) (.seq (.reg [⟨some 27, .ld true 3 (.t 3), none⟩,
    ⟨some 28, .call f_family_Valid [(.t 27)] [], none⟩,
    ⟨some 29, .un .not (.t 28), none⟩,
    ⟨some 26, .mov (.t 29), none⟩])
   (.cond (.t 26) (.seq (.reg [⟨some 4, .mov (.c (.int .i64 0)), none⟩,
    ⟨some 5, .mov (.c (.int .i64 160)), none⟩])
    (.ret)) (.seq (.reg [⟨some 31, .fad 0 (.t 2), none⟩,
    ⟨some 32, .ld false 1 (.t 31), none⟩,
    ⟨some 33, .fad 0 (.t 3), none⟩,
    ⟨some 34, .ld false 1 (.t 33), none⟩,
    ⟨some 35, .call f_slices_Equal___string_string_ [(.t 32), (.t 34)] [], none⟩,
    ⟨some 36, .un .not (.t 35), none⟩,
    ⟨some 30, .mov (.t 36), none⟩])
    (.cond (.t 30) (.seq (.reg [⟨some 4, .mov (.c (.int .i64 0)), none⟩,
    ⟨some 5, .mov (.c (.int .i64 10)), none⟩])
     (.ret)) (.skip))))))))
 (.seq (.reg [⟨some 37, .fad 1 (.t 3), none⟩,
    ⟨some 38, .ld false 1 (.t 37), none⟩,
    ⟨some 39, .bin .shl (.c (.int .i64 1)) (.t 38), none⟩,
    ⟨some 40, .bin .sub (.t 39) (.c (.int .i64 1)), none⟩,
    ⟨some 6, .mov (.t 40), none⟩])
 (.seq (.reg [⟨some 41, .mkm 2, none⟩,
    ⟨some 42, .bld [(.int .i64 0), (.int .i64 0)] [], none⟩,
    ⟨some 43, .mov (.t 6), none⟩,
    ⟨none, .mup (true, [1, 1]) (.t 41) (.t 42) (.t 43), none⟩,
    ⟨some 44, .mov (.t 41), none⟩,
    ⟨some 7, .mov (.t 44), none⟩])
 (.seq (.reg [⟨some 45, .bld [(.int .i64 0), (.int .i64 0)] [], none⟩,
    ⟨some 46, .bsl 3 2 1 [(.t 45)], none⟩,
    ⟨some 8, .mov (.t 46), none⟩])
 (.seq (.seq (.reg [⟨some 9, .mov (.c (.int .i64 0)), none⟩])
 (.blk 1 (l_family_Satisfied_1)))
 (.seq (.reg [⟨some 151, .mov (.t 6), none⟩,
    ⟨some 4, .mov (.t 151), none⟩,
    ⟨some 5, .mov (.c (.int .i64 0)), none⟩])
 (.ret)))))))
def s_family_Satisfied : List Nat := [2, 3, 41, 46, 10, 15, 17, 19, 20, 147, 148]
def F_family_Satisfied : IF := ⟨2, 152, 11, c_family_Satisfied, [(4, none), (5, none)], true, false, false⟩

def l_makeweightref02_Copy_0 : C :=
 .loop (rest 26 [2, 3, 11, 12, 13]) [4, 5, 6] (.seq (.reg [⟨some 14, .bin .lss (.t 13) (.t 12), none⟩])
 (.seq (.cond (.t 14) (.skip) (.exit 0))
 (.seq (.blk 1 (.seq (.reg [⟨some 15, .iad 1 (.t 11) (.t 13), none⟩,
    ⟨some 16, .ld false 1 (.t 15), none⟩,
    ⟨some 5, .mov (.t 16), none⟩])
  (.drw [⟨some 17, .fad 1 (.t 3), none⟩,
    ⟨some 18, .ld false 1 (.t 17), none⟩,
    ⟨some 19, .mov (.t 5), none⟩,
    ⟨some 20, .app 4 2 16 (.c .nils) (.t 19), none⟩,
    ⟨some 21, .bsl 5 1 1 [(.t 20)], none⟩,
    ⟨some 22, .app 6 1 24 (.t 18) (.t 21), none⟩,
    ⟨some 23, .fad 1 (.t 3), none⟩,
    ⟨none, .sto 1 (.t 23) (.t 22), none⟩] [(0, 3), (1, 3), (0, 4), (1, 4)])))
 (.reg [⟨some 24, .bin .add (.t 13) (.c (.int .i64 1)), none⟩,
    ⟨some 13, .mov (.t 24), none⟩]))))
def c_makeweightref02_Copy : C :=
 .seq (.reg [⟨some 1, .box 0 2 (.t 0), none⟩,
    ⟨some 2, .alc 1 2 (.agg [.nils, .nils]), none⟩])
 (.seq (.reg [⟨some 6, .fad 0 (.t 1), none⟩,
    ⟨some 7, .ld false 1 (.t 6), none⟩,
    ⟨some 8, .app 2 1 16 (.c .nils) (.t 7), none⟩,
    ⟨some 9, .bld [.nils, .nils] [(0, 1, (.t 8))], none⟩,
    ⟨some 3, .alc 3 2 (.agg [.nils, .nils]), none⟩,
    ⟨none, .sto 2 (.t 3) (.t 9), none⟩])
 (.seq (.seq (.reg [⟨some 10, .fad 1 (.t 1), none⟩,
    ⟨some 11, .ld false 1 (.t 10), none⟩,
    ⟨some 12, .lenl (.t 11), none⟩,
    ⟨some 13, .mov (.c (.int .i64 0)), none⟩])
 (.blk 0 (l_makeweightref02_Copy_0)))
 (.seq (.reg [⟨some 25, .ld true 2 (.t 3), none⟩,
    ⟨none, .sto 2 (.t 2) (.t 25), none⟩])
 (.ret))))
def s_makeweightref02_Copy : List Nat := [1, 2, 8, 3, 20, 21, 22]
def F_makeweightref02_Copy : IF := ⟨1, 26, 7, c_makeweightref02_Copy, [(2, some (true, 2))], true, false, false⟩

def l_makeweightref16_Copy_2 : C :=
 .loop (rest 49 [2, 3, 6, 16, 17, 18, 27, 28, 29]) [7, 8, 9] (.seq (.reg [⟨some 30, .bin .lss (.t 29) (.t 28), none⟩])
 (.seq (.cond (.t 30) (.skip) (.exit 2))
 (.seq (.blk 3 (.seq (.reg [⟨some 31, .iad 1 (.t 27) (.t 29), none⟩,
    ⟨some 32, .ld false 1 (.t 31), none⟩,
    ⟨some 8, .mov (.t 32), none⟩])
  (.drw [⟨some 33, .fad 1 (.t 6), none⟩,
    ⟨some 34, .ld false 1 (.t 33), none⟩,
    ⟨some 35, .mov (.t 8), none⟩,
    ⟨some 36, .app 7 2 16 (.c .nils) (.t 35), none⟩,
    ⟨some 37, .bsl 8 1 1 [(.t 36)], none⟩,
    ⟨some 38, .app 9 1 24 (.t 34) (.t 37), none⟩,
    ⟨some 39, .fad 1 (.t 6), none⟩,
    ⟨none, .sto 1 (.t 39) (.t 38), none⟩] [(0, 3), (1, 3), (0, 4), (1, 4)])))
 (.reg [⟨some 40, .bin .add (.t 29) (.c (.int .i64 1)), none⟩,
    ⟨some 29, .mov (.t 40), none⟩]))))
def l_makeweightref16_Copy_0 : C :=
 .loop (rest 49 [2, 3, 16, 17, 18]) [4, 5, 6, 7, 8, 9, 10, 11] (.seq (.reg [⟨some 19, .bin .lss (.t 18) (.t 17), none⟩])
 (.seq (.cond (.t 19) (.skip) (.exit 0))
 (.seq (.blk 1 (.seq (.reg [⟨some 20, .iad 2 (.t 16) (.t 18), none⟩,
    ⟨some 21, .ld true 2 (.t 20), none⟩,
    ⟨some 5, .alc 4 2 (.agg [.nils, .nils]), none⟩,
    ⟨none, .sto 2 (.t 5) (.t 21), none⟩])
  (.seq (.reg [⟨some 22, .fad 0 (.t 5), none⟩,
    ⟨some 23, .ld false 1 (.t 22), none⟩,
    ⟨some 24, .app 5 2 16 (.c .nils) (.t 23), none⟩,
    ⟨some 25, .bld [.nils, .nils] [(0, 1, (.t 24))], none⟩,
    ⟨some 6, .alc 6 2 (.agg [.nils, .nils]), none⟩,
    ⟨none, .sto 2 (.t 6) (.t 25), none⟩])
  (.seq (.seq (.reg [⟨some 26, .fad 1 (.t 5), none⟩,
    ⟨some 27, .ld false 1 (.t 26), none⟩,
    ⟨some 28, .lenl (.t 27), none⟩,
    ⟨some 29, .mov (.c (.int .i64 0)), none⟩])
  (.blk 2 (l_makeweightref16_Copy_2)))
  (.reg [⟨some 41, .fad 2 (.t 3), none⟩,
    ⟨some 42, .ld false 1 (.t 41), none⟩,
    ⟨some 43, .ld true 2 (.t 6), none⟩,
    ⟨some 44, .bsl 10 2 1 [(.t 43)], none⟩,
    ⟨some 45, .app 11 2 48 (.t 42) (.t 44), none⟩,
    ⟨some 46, .fad 2 (.t 3), none⟩,
    ⟨none, .sto 1 (.t 46) (.t 45), none⟩])))))
 (.reg [⟨some 47, .bin .add (.t 18) (.c (.int .i64 1)), none⟩,
    ⟨some 18, .mov (.t 47), none⟩]))))
def c_makeweightref16_Copy : C :=
 .seq (.reg [⟨some 1, .box 0 3 (.t 0), none⟩,
    ⟨some 2, .alc 1 3 (.agg [.nils, (.int .i64 0), .nils]), none⟩])
 (.seq (.drw [⟨some 9, .fad 0 (.t 1), none⟩,
    ⟨some 10, .ld false 1 (.t 9), none⟩,
    ⟨some 11, .app 2 1 16 (.c .nils) (.t 10), none⟩,
    ⟨some 12, .fad 1 (.t 1), none⟩,
    ⟨some 13, .ld false 1 (.t 12), none⟩,
    ⟨some 14, .bld [.nils, (.int .i64 0), .nils] [(0, 1, (.t 11)), (1, 1, (.t 13))], none⟩,
    ⟨some 3, .alc 3 3 (.agg [.nils, (.int .i64 0), .nils]), none⟩,
    ⟨none, .sto 3 (.t 3) (.t 14), none⟩] [(2, 3), (2, 4), (0, 6), (1, 6), (2, 6), (3, 6), (4, 6), (5, 6)])
 (.seq (.seq (.reg [⟨some 15, .fad 2 (.t 1), none⟩,
    ⟨some 16, .ld false 1 (.t 15), none⟩,
    ⟨some 17, .lenl (.t 16), none⟩,
    ⟨some 18, .mov (.c (.int .i64 0)), none⟩])
 (.blk 0 (l_makeweightref16_Copy_0)))
 (.seq (.reg [⟨some 48, .ld true 3 (.t 3), none⟩,
    ⟨none, .sto 3 (.t 2) (.t 48), none⟩])
 (.ret))))
def s_makeweightref16_Copy : List Nat := [1, 2, 11, 3, 5, 24, 6, 36, 37, 38, 44, 45]
def F_makeweightref16_Copy : IF := ⟨1, 49, 12, c_makeweightref16_Copy, [(2, some (true, 3))], true, false, false⟩

def c_family_Full : C :=
 .seq (.reg [⟨some 1, .box 0 3 (.t 0), none⟩,
    ⟨some 2, .mov (.c (.int .i64 0)), none⟩,
    ⟨some 3, .mov (.c (.int .i64 0)), none⟩])
 (.seq (.seq (.reg [⟨some 4, .ld true 3 (.t 1), none⟩,
    ⟨some 5, .call f_family_Valid [(.t 4)] [], none⟩,
    ⟨some 6, .un .not (.t 5), none⟩])
 (.cond (.t 6) (.seq (.reg [⟨some 2, .mov (.c (.int .i64 0)), none⟩,
    ⟨some 3, .mov (.c (.int .i64 160)), none⟩])
  (.ret)) (.skip)))
 (.seq (.reg [⟨some 7, .fad 1 (.t 1), none⟩,
    ⟨some 8, .ld false 1 (.t 7), none⟩,
    ⟨some 9, .mkf f_family_Full_1 [(.t 1)], none⟩,
    ⟨some 10, .call f_family_which [(.t 8), (.t 9)] [], none⟩,
    ⟨some 2, .mov (.t 10), none⟩,
    ⟨some 3, .mov (.c (.int .i64 0)), none⟩])
 (.ret)))
def s_family_Full : List Nat := [1]
def F_family_Full : IF := ⟨1, 11, 1, c_family_Full, [(2, none), (3, none)], true, false, false⟩

def l_makeweightref16_Product_2 : C :=
 .loop (rest 60 [1, 4, 5, 8, 18, 19, 20, 30, 31, 32]) [6, 7] (.seq (.reg [⟨some 33, .bin .lss (.t 32) (.t 31), none⟩])
 (.seq (.cond (.t 33) (.skip) (.exit 2))
 (.seq (.blk 3 (.seq (.reg [⟨some 34, .iad 1 (.t 30) (.t 32), none⟩,
    ⟨some 35, .ld false 1 (.t 34), none⟩,
    ⟨some 10, .mov (.t 35), none⟩])
  (.seq (.reg [⟨some 11, .mov (.c (.int .i64 (-1))), none⟩])
  (.seq (.seq (.reg [⟨some 36, .mov (.t 10), none⟩,
    ⟨some 37, .mov (.t 1), none⟩,
    ⟨some 38, .call f_makeweightref16_chosen [(.t 36), (.t 37)] [], none⟩,
    ⟨some 12, .mov (.t 38), none⟩])
  (.seq (.reg [⟨some 39, .mov (.t 12), none⟩,
    ⟨some 40, .lenl (.t 39), none⟩,
    ⟨some 41, .bin .gtr (.t 40) (.c (.int .i64 0)), none⟩])
  (.cond (.t 41) (.reg [⟨some 42, .mov (.t 12), none⟩,
    ⟨some 43, .iad 1 (.t 42) (.c (.int .i64 0)), none⟩,
    ⟨some 44, .ld false 1 (.t 43), none⟩,
    ⟨some 11, .mov (.t 44), none⟩]) (.skip))))
  (.reg [⟨some 45, .fad 1 (.t 8), none⟩,
    ⟨some 46, .ld false 1 (.t 45), none⟩,
    ⟨some 47, .mov (.t 11), none⟩,
    ⟨some 48, .bsl 6 1 1 [(.t 47)], none⟩,
    ⟨some 49, .app 7 1 8 (.t 46) (.t 48), none⟩,
    ⟨some 50, .fad 1 (.t 8), none⟩,
    ⟨none, .sto 1 (.t 50) (.t 49), none⟩])))))
 (.reg [⟨some 51, .bin .add (.t 32) (.c (.int .i64 1)), none⟩,
    ⟨some 32, .mov (.t 51), none⟩]))))
def l_makeweightref16_Product_0 : C :=
 .loop (rest 60 [1, 4, 5, 18, 19, 20]) [4, 5, 6, 7, 8, 9] (.seq (.reg [⟨some 21, .bin .lss (.t 20) (.t 19), none⟩])
 (.seq (.cond (.t 21) (.skip) (.exit 0))
 (.seq (.blk 1 (.seq (.reg [⟨some 22, .iad 2 (.t 18) (.t 20), none⟩,
    ⟨some 23, .ld true 2 (.t 22), none⟩,
    ⟨some 7, .alc 4 2 (.agg [.nils, .nils]), none⟩,
    ⟨none, .sto 2 (.t 7) (.t 23), none⟩])
  (.seq (.reg [⟨some 24, .fad 0 (.t 7), none⟩,
    ⟨some 25, .ld false 1 (.t 24), none⟩,
    ⟨some 26, .mov (.t 1), none⟩,
    ⟨some 27, .call f_makeweightref16_chosen [(.t 25), (.t 26)] [], none⟩,
    ⟨some 28, .bld [.nils, .nils] [(0, 1, (.t 27))], none⟩,
    ⟨some 8, .alc 5 2 (.agg [.nils, .nils]), none⟩,
    ⟨none, .sto 2 (.t 8) (.t 28), none⟩])
  (.seq (.seq (.reg [⟨some 29, .fad 1 (.t 7), none⟩,
    ⟨some 30, .ld false 1 (.t 29), none⟩,
    ⟨some 31, .lenl (.t 30), none⟩,
    ⟨some 32, .mov (.c (.int .i64 0)), none⟩])
  (.blk 2 (l_makeweightref16_Product_2)))
  (.reg [⟨some 52, .fad 1 (.t 5), none⟩,
    ⟨some 53, .ld false 1 (.t 52), none⟩,
    ⟨some 54, .ld true 2 (.t 8), none⟩,
    ⟨some 55, .bsl 8 2 1 [(.t 54)], none⟩,
    ⟨some 56, .app 9 2 48 (.t 53) (.t 55), none⟩,
    ⟨some 57, .fad 1 (.t 5), none⟩,
    ⟨none, .sto 1 (.t 57) (.t 56), none⟩])))))
 (.reg [⟨some 58, .bin .add (.t 20) (.c (.int .i64 1)), none⟩,
    ⟨some 20, .mov (.t 58), none⟩]))))
def c_makeweightref16_Product : C :=
 .seq (.reg [⟨some 2, .box 0 3 (.t 0), none⟩,
    ⟨some 4, .alc 1 2 (.agg [.nils, .nils]), none⟩])
 (.seq (.reg [⟨some 13, .fad 0 (.t 2), none⟩,
    ⟨some 14, .ld false 1 (.t 13), none⟩,
    ⟨some 15, .app 2 1 16 (.c .nils) (.t 14), none⟩,
    ⟨some 16, .bld [.nils, .nils] [(0, 1, (.t 15))], none⟩,
    ⟨some 5, .alc 3 2 (.agg [.nils, .nils]), none⟩,
    ⟨none, .sto 2 (.t 5) (.t 16), none⟩])
 (.seq (.seq (.reg [⟨some 17, .fad 2 (.t 2), none⟩,
    ⟨some 18, .ld false 1 (.t 17), none⟩,
    ⟨some 19, .lenl (.t 18), none⟩,
    ⟨some 20, .mov (.c (.int .i64 0)), none⟩])
 (.blk 0 (l_makeweightref16_Product_0)))
 (.seq (.reg [⟨some 59, .ld true 2 (.t 5), none⟩,
    ⟨none, .sto 2 (.t 4) (.t 59), none⟩])
 (.ret))))
def s_makeweightref16_Product : List Nat := [2, 4, 15, 5, 7, 8, 48, 49, 55, 56]
def F_makeweightref16_Product : IF := ⟨2, 60, 10, c_makeweightref16_Product, [(4, some (true, 2))], true, false, false⟩

def c_family_Product : C :=
 .seq (.reg [⟨some 2, .box 0 3 (.t 0), none⟩,
    ⟨some 4, .alc 1 2 (.agg [.nils, .nils]), none⟩,
    ⟨some 5, .mov (.c (.int .i64 0)), none⟩])
 (.seq (.blk 0 (.seq (.reg [⟨some 7, .ld true 3 (.t 2), none⟩,
    ⟨some 8, .call f_family_Valid [(.t 7)] [], none⟩,
    ⟨some 9, .un .not (.t 8), none⟩,
    ⟨some 6, .mov (.t 9), none⟩])
  (.cond (.t 6) (.seq (.reg [⟨some 10, .bld [.nils, .nils] [], none⟩,
    ⟨none, .sto 2 (.t 4) (.t 10), none⟩,
    ⟨some 5, .mov (.c (.int .i64 160)), none⟩])
   (.ret)) (.seq (.reg [⟨some 12, .mov (.t 1), none⟩,
    ⟨some 13, .bin .lss (.t 12) (.c (.int .i64 0)), none⟩,
    ⟨some 14, .mov (.t 13), none⟩,
    ⟨some 15, .mov (.t 1), some (14, false)⟩,
    ⟨some 16, .fad 1 (.t 2), some (14, false)⟩,
    ⟨some 17, .ld false 1 (.t 16), some (14, false)⟩,
    ⟨some 18, .bin .geq (.t 15) (.t 17), some (14, false)⟩,
    ⟨some 19, .pick (.t 14) (.c (.bool true)) (.t 18), none⟩,
    ⟨some 11, .mov (.t 19), none⟩])
   (.cond (.t 11) (.seq (.reg [⟨some 20, .bld [.nils, .nils] [], none⟩,
    ⟨none, .sto 2 (.t 4) (.t 20), none⟩,
    ⟨some 5, .mov (.c (.int .i64 1)), none⟩])
    (.ret)) (.skip))))))
 (.seq (.reg [⟨some 21, .ld true 3 (.t 2), none⟩,
    ⟨some 22, .mov (.t 1), none⟩,
    ⟨some 23, .call f_family_single [(.t 21), (.t 22)] [], none⟩,
    ⟨none, .sto 2 (.t 4) (.t 23), none⟩,
    ⟨some 5, .mov (.c (.int .i64 0)), none⟩])
 (.ret)))
def s_family_Product : List Nat := [2, 4]
def F_family_Product : IF := ⟨2, 24, 2, c_family_Product, [(4, some (true, 2)), (5, none)], true, false, false⟩

def l_makeweightref01_Is_0 : C :=
 .loop (rest 26 [0, 8, 9, 10]) [] (.seq (.reg [⟨some 11, .bin .lss (.t 10) (.t 9), none⟩])
 (.seq (.cond (.t 11) (.skip) (.exit 0))
 (.seq (.blk 1 (.seq (.reg [⟨some 12, .mov (.t 10), none⟩,
    ⟨some 13, .iad 1 (.t 8) (.t 10), none⟩,
    ⟨some 14, .ld false 1 (.t 13), none⟩,
    ⟨some 3, .mov (.t 12), none⟩,
    ⟨some 4, .mov (.t 14), none⟩])
  (.seq (.reg [⟨some 15, .mov (.t 4), none⟩,
    ⟨some 16, .call f_makeweightref01_Name [(.t 15)] [], none⟩,
    ⟨some 17, .un .not (.t 16), none⟩,
    ⟨some 18, .mov (.t 17), none⟩,
    ⟨some 19, .mov (.t 0), some (18, false)⟩,
    ⟨some 20, .mov (.t 4), some (18, false)⟩,
    ⟨some 21, .call f_makeweightref01_Index [(.t 19), (.t 20)] [], some (18, false)⟩,
    ⟨some 22, .mov (.t 3), some (18, false)⟩,
    ⟨some 23, .bin .neq (.t 21) (.t 22), some (18, false)⟩,
    ⟨some 24, .pick (.t 18) (.c (.bool true)) (.t 23), none⟩])
  (.cond (.t 24) (.seq (.reg [⟨some 2, .mov (.c (.bool false)), none⟩])
   (.ret)) (.skip)))))
 (.reg [⟨some 25, .bin .add (.t 10) (.c (.int .i64 1)), none⟩,
    ⟨some 10, .mov (.t 25), none⟩]))))
def c_makeweightref01_Is : C :=
 .seq (.reg [⟨some 2, .mov (.c (.bool false)), none⟩])
 (.seq (.seq (.reg [⟨some 5, .mov (.t 0), none⟩,
    ⟨some 6, .lenl (.t 5), none⟩,
    ⟨some 7, .bin .gtr (.t 6) (.c (.int .i64 8)), none⟩])
 (.cond (.t 7) (.seq (.reg [⟨some 2, .mov (.c (.bool false)), none⟩])
  (.ret)) (.skip)))
 (.seq (.seq (.reg [⟨some 8, .mov (.t 0), none⟩,
    ⟨some 9, .lenl (.t 8), none⟩,
    ⟨some 10, .mov (.c (.int .i64 0)), none⟩])
 (.blk 0 (l_makeweightref01_Is_0)))
 (.seq (.reg [⟨some 2, .mov (.c (.bool true)), none⟩])
 (.ret))))
def s_makeweightref01_Is : List Nat := []
def F_makeweightref01_Is : IF := ⟨1, 26, 0, c_makeweightref01_Is, [(2, none)], true, false, false⟩

def l_makeweightref02_Few_0 : C :=
 .loop (rest 37 [1, 2, 5, 6]) [] (.seq (.seq (.reg [⟨some 14, .mov (.t 6), none⟩,
    ⟨some 15, .fad 1 (.t 2), none⟩,
    ⟨some 16, .ld false 1 (.t 15), none⟩,
    ⟨some 17, .lenl (.t 16), none⟩,
    ⟨some 18, .bin .lss (.t 14) (.t 17), none⟩,
    ⟨some 19, .mov (.t 18), none⟩,
    ⟨some 20, .mov (.t 5), some (19, true)⟩,
    ⟨some 21, .mov (.t 1), some (19, true)⟩,
    ⟨some 22, .bin .leq (.t 20) (.t 21), some (19, true)⟩,
    ⟨some 23, .pick (.t 19) (.t 22) (.c (.bool false)), none⟩])
 (.cond (.t 23) (.skip) (.exit 0)))
 (.seq (.blk 1 (.reg [⟨some 26, .mov (.t 5), none⟩,
    ⟨some 27, .fad 1 (.t 2), none⟩,
    ⟨some 28, .ld false 1 (.t 27), none⟩,
    ⟨some 29, .mov (.t 6), none⟩,
    ⟨some 30, .iad 1 (.t 28) (.t 29), none⟩,
    ⟨some 31, .ld false 1 (.t 30), none⟩,
    ⟨some 32, .lenl (.t 31), none⟩,
    ⟨some 33, .bin .add (.t 26) (.t 32), none⟩,
    ⟨some 5, .mov (.t 33), none⟩]))
 (.reg [⟨some 24, .mov (.t 6), none⟩,
    ⟨some 25, .bin .add (.t 24) (.c (.int .i64 1)), none⟩,
    ⟨some 6, .mov (.t 25), none⟩])))
def c_makeweightref02_Few : C :=
 .seq (.reg [⟨some 2, .box 0 2 (.t 0), none⟩,
    ⟨some 4, .mov (.c (.bool false)), none⟩])
 (.seq (.reg [⟨some 7, .fad 0 (.t 2), none⟩,
    ⟨some 8, .ld false 1 (.t 7), none⟩,
    ⟨some 9, .lenl (.t 8), none⟩,
    ⟨some 10, .fad 1 (.t 2), none⟩,
    ⟨some 11, .ld false 1 (.t 10), none⟩,
    ⟨some 12, .lenl (.t 11), none⟩,
    ⟨some 13, .bin .add (.t 9) (.t 12), none⟩,
    ⟨some 5, .mov (.t 13), none⟩])
 (.seq (.seq (.reg [⟨some 6, .mov (.c (.int .i64 0)), none⟩])
 (.blk 0 (l_makeweightref02_Few_0)))
 (.seq (.reg [⟨some 34, .mov (.t 5), none⟩,
    ⟨some 35, .mov (.t 1), none⟩,
    ⟨some 36, .bin .leq (.t 34) (.t 35), none⟩,
    ⟨some 4, .mov (.t 36), none⟩])
 (.ret))))
def s_makeweightref02_Few : List Nat := [2]
def F_makeweightref02_Few : IF := ⟨2, 37, 1, c_makeweightref02_Few, [(4, none)], true, false, false⟩

def l_makeweightref16_Few_2 : C :=
 .loop (rest 75 [1, 2, 5, 6, 7]) [] (.seq (.seq (.reg [⟨some 44, .mov (.t 7), none⟩,
    ⟨some 45, .fad 2 (.t 2), none⟩,
    ⟨some 46, .ld false 1 (.t 45), none⟩,
    ⟨some 47, .mov (.t 6), none⟩,
    ⟨some 48, .iad 2 (.t 46) (.t 47), none⟩,
    ⟨some 49, .fad 1 (.t 48), none⟩,
    ⟨some 50, .ld false 1 (.t 49), none⟩,
    ⟨some 51, .lenl (.t 50), none⟩,
    ⟨some 52, .bin .lss (.t 44) (.t 51), none⟩,
    ⟨some 53, .mov (.t 52), none⟩,
    ⟨some 54, .mov (.t 5), some (53, true)⟩,
    ⟨some 55, .mov (.t 1), some (53, true)⟩,
    ⟨some 56, .bin .leq (.t 54) (.t 55), some (53, true)⟩,
    ⟨some 57, .pick (.t 53) (.t 56) (.c (.bool false)), none⟩])
 (.cond (.t 57) (.skip) (.exit 2)))
 (.seq (.blk 3 (.reg [⟨some 60, .mov (.t 5), none⟩,
    ⟨some 61, .fad 2 (.t 2), none⟩,
    ⟨some 62, .ld false 1 (.t 61), none⟩,
    ⟨some 63, .mov (.t 6), none⟩,
    ⟨some 64, .iad 2 (.t 62) (.t 63), none⟩,
    ⟨some 65, .fad 1 (.t 64), none⟩,
    ⟨some 66, .ld false 1 (.t 65), none⟩,
    ⟨some 67, .mov (.t 7), none⟩,
    ⟨some 68, .iad 1 (.t 66) (.t 67), none⟩,
    ⟨some 69, .ld false 1 (.t 68), none⟩,
    ⟨some 70, .lenl (.t 69), none⟩,
    ⟨some 71, .bin .add (.t 60) (.t 70), none⟩,
    ⟨some 5, .mov (.t 71), none⟩]))
 (.reg [⟨some 58, .mov (.t 7), none⟩,
    ⟨some 59, .bin .add (.t 58) (.c (.int .i64 1)), none⟩,
    ⟨some 7, .mov (.t 59), none⟩])))
def l_makeweightref16_Few_0 : C :=
 .loop (rest 75 [1, 2, 5, 6]) [] (.seq (.seq (.reg [⟨some 15, .mov (.t 6), none⟩,
    ⟨some 16, .fad 2 (.t 2), none⟩,
    ⟨some 17, .ld false 1 (.t 16), none⟩,
    ⟨some 18, .lenl (.t 17), none⟩,
    ⟨some 19, .bin .lss (.t 15) (.t 18), none⟩,
    ⟨some 20, .mov (.t 19), none⟩,
    ⟨some 21, .mov (.t 5), some (20, true)⟩,
    ⟨some 22, .mov (.t 1), some (20, true)⟩,
    ⟨some 23, .bin .leq (.t 21) (.t 22), some (20, true)⟩,
    ⟨some 24, .pick (.t 20) (.t 23) (.c (.bool false)), none⟩])
 (.cond (.t 24) (.skip) (.exit 0)))
 (.seq (.blk 1 (.seq (.drw [⟨some 27, .mov (.t 5), none⟩,
    ⟨some 28, .fad 2 (.t 2), none⟩,
    ⟨some 29, .ld false 1 (.t 28), none⟩,
    ⟨some 30, .mov (.t 6), none⟩,
    ⟨some 31, .iad 2 (.t 29) (.t 30), none⟩,
    ⟨some 32, .fad 0 (.t 31), none⟩,
    ⟨some 33, .ld false 1 (.t 32), none⟩,
    ⟨some 34, .lenl (.t 33), none⟩,
    ⟨some 35, .fad 2 (.t 2), none⟩,
    ⟨some 36, .ld false 1 (.t 35), none⟩,
    ⟨some 37, .mov (.t 6), none⟩,
    ⟨some 38, .iad 2 (.t 36) (.t 37), none⟩,
    ⟨some 39, .fad 1 (.t 38), none⟩,
    ⟨some 40, .ld false 1 (.t 39), none⟩,
    ⟨some 41, .lenl (.t 40), none⟩,
    ⟨some 42, .bin .add (.t 34) (.t 41), none⟩,
    ⟨some 43, .bin .add (.t 27) (.t 42), none⟩,
    ⟨some 5, .mov (.t 43), none⟩] [])
  (.seq (.reg [⟨some 7, .mov (.c (.int .i64 0)), none⟩])
  (.blk 2 (l_makeweightref16_Few_2)))))
 (.reg [⟨some 25, .mov (.t 6), none⟩,
    ⟨some 26, .bin .add (.t 25) (.c (.int .i64 1)), none⟩,
    ⟨some 6, .mov (.t 26), none⟩])))
def c_makeweightref16_Few : C :=
 .seq (.reg [⟨some 2, .box 0 3 (.t 0), none⟩,
    ⟨some 4, .mov (.c (.bool false)), none⟩])
 (.seq (.reg [⟨some 8, .fad 0 (.t 2), none⟩,
    ⟨some 9, .ld false 1 (.t 8), none⟩,
    ⟨some 10, .lenl (.t 9), none⟩,
    ⟨some 11, .fad 2 (.t 2), none⟩,
    ⟨some 12, .ld false 1 (.t 11), none⟩,
    ⟨some 13, .lenl (.t 12), none⟩,
    ⟨some 14, .bin .add (.t 10) (.t 13), none⟩,
    ⟨some 5, .mov (.t 14), none⟩])
 (.seq (.seq (.reg [⟨some 6, .mov (.c (.int .i64 0)), none⟩])
 (.blk 0 (l_makeweightref16_Few_0)))
 (.seq (.reg [⟨some 72, .mov (.t 5), none⟩,
    ⟨some 73, .mov (.t 1), none⟩,
    ⟨some 74, .bin .leq (.t 72) (.t 73), none⟩,
    ⟨some 4, .mov (.t 74), none⟩])
 (.ret))))
def s_makeweightref16_Few : List Nat := [2]
def F_makeweightref16_Few : IF := ⟨2, 75, 1, c_makeweightref16_Few, [(4, none)], true, false, false⟩

def c_makeweightlaw16_pair : C :=
 .seq (.reg [⟨some 0, .alc 0 3 (.agg [.nils, (.int .i64 0), .nils]), none⟩])
 (.seq (.reg [⟨some 1, .bsl 1 1 1 [(.c (.str ⟨#[97]⟩))], none⟩,
    ⟨some 2, .bld [(.int .i64 0), (.int .i64 0)] [(0, 1, (.c (.int .i64 0))), (1, 1, (.c (.int .i64 1)))], none⟩,
    ⟨some 3, .bld [(.int .i64 0), (.int .i64 0)] [(0, 1, (.c (.int .i64 1))), (1, 1, (.c (.int .i64 3)))], none⟩,
    ⟨some 4, .bsl 2 2 2 [(.t 2), (.t 3)], none⟩,
    ⟨some 5, .bld [(.int .i64 0), (.int .i64 0)] [(0, 1, (.c (.int .i64 0))), (1, 1, (.c (.int .i64 3)))], none⟩,
    ⟨some 6, .bsl 3 2 1 [(.t 5)], none⟩,
    ⟨some 7, .bsl 4 1 1 [(.t 6)], none⟩,
    ⟨some 8, .bld [.nils, .nils] [(0, 1, (.t 4)), (1, 1, (.t 7))], none⟩,
    ⟨some 9, .bsl 5 2 1 [(.t 8)], none⟩,
    ⟨some 10, .bld [.nils, (.int .i64 0), .nils] [(0, 1, (.t 1)), (1, 1, (.c (.int .i64 2))), (2, 1, (.t 9))], none⟩,
    ⟨none, .sto 3 (.t 0) (.t 10), none⟩])
 (.ret))
def s_makeweightlaw16_pair : List Nat := [0, 1, 4, 6, 7, 9]
def F_makeweightlaw16_pair : IF := ⟨0, 11, 6, c_makeweightlaw16_pair, [(0, some (true, 3))], true, false, false⟩

def l_makeweightref01_SameInts_0 : C :=
 .loop (rest 26 [1, 12, 13, 14]) [] (.seq (.reg [⟨some 15, .bin .lss (.t 14) (.t 13), none⟩])
 (.seq (.cond (.t 15) (.skip) (.exit 0))
 (.seq (.blk 1 (.seq (.reg [⟨some 16, .mov (.t 14), none⟩,
    ⟨some 17, .iad 1 (.t 12) (.t 14), none⟩,
    ⟨some 18, .ld false 1 (.t 17), none⟩,
    ⟨some 5, .mov (.t 16), none⟩,
    ⟨some 6, .mov (.t 18), none⟩])
  (.seq (.reg [⟨some 19, .mov (.t 6), none⟩,
    ⟨some 20, .mov (.t 1), none⟩,
    ⟨some 21, .mov (.t 5), none⟩,
    ⟨some 22, .iad 1 (.t 20) (.t 21), none⟩,
    ⟨some 23, .ld false 1 (.t 22), none⟩,
    ⟨some 24, .bin .neq (.t 19) (.t 23), none⟩])
  (.cond (.t 24) (.seq (.reg [⟨some 4, .mov (.c (.bool false)), none⟩])
   (.ret)) (.skip)))))
 (.reg [⟨some 25, .bin .add (.t 14) (.c (.int .i64 1)), none⟩,
    ⟨some 14, .mov (.t 25), none⟩]))))
def c_makeweightref01_SameInts : C :=
 .seq (.reg [⟨some 4, .mov (.c (.bool false)), none⟩])
 (.seq (.seq (.reg [⟨some 7, .mov (.t 0), none⟩,
    ⟨some 8, .lenl (.t 7), none⟩,
    ⟨some 9, .mov (.t 1), none⟩,
    ⟨some 10, .lenl (.t 9), none⟩,
    ⟨some 11, .bin .neq (.t 8) (.t 10), none⟩])
 (.cond (.t 11) (.seq (.reg [⟨some 4, .mov (.c (.bool false)), none⟩])
  (.ret)) (.skip)))
 (.seq (.seq (.reg [⟨some 12, .mov (.t 0), none⟩,
    ⟨some 13, .lenl (.t 12), none⟩,
    ⟨some 14, .mov (.c (.int .i64 0)), none⟩])
 (.blk 0 (l_makeweightref01_SameInts_0)))
 (.seq (.reg [⟨some 4, .mov (.c (.bool true)), none⟩])
 (.ret))))
def s_makeweightref01_SameInts : List Nat := []
def F_makeweightref01_SameInts : IF := ⟨2, 26, 0, c_makeweightref01_SameInts, [(4, none)], true, false, false⟩

def l_makeweightref16_plan_2 : C :=
 .loop (rest 92 [1, 2, 3, 4, 9, 12, 34, 35, 36, 45, 46, 47]) [1] (.seq (.reg [⟨some 48, .bin .lss (.t 47) (.t 46), none⟩])
 (.seq (.cond (.t 48) (.skip) (.exit 2))
 (.seq (.blk 3 (.seq (.reg [⟨some 49, .iad 2 (.t 45) (.t 47), none⟩,
    ⟨some 50, .ld true 2 (.t 49), none⟩,
    ⟨some 14, .alc 1 2 (.agg [(.int .i64 0), (.int .i64 0)]), none⟩,
    ⟨none, .sto 2 (.t 14) (.t 50), none⟩])
  (.seq (.seq (.reg [⟨some 51, .mov (.t 12), none⟩,
    ⟨some 52, .fad 1 (.t 14), none⟩,
    ⟨some 53, .ld false 1 (.t 52), none⟩,
    ⟨some 54, .bin .and (.t 51) (.t 53), none⟩,
    ⟨some 55, .bin .neq (.t 54) (.c (.int .i64 0)), none⟩])
  (.cond (.t 55) (.seq (.reg [⟨some 8, .mov (.c (.bool false)), none⟩])
   (.ret)) (.skip)))
  (.reg [⟨some 56, .mov (.t 12), none⟩,
    ⟨some 57, .fad 1 (.t 14), none⟩,
    ⟨some 58, .ld false 1 (.t 57), none⟩,
    ⟨some 59, .bin .or (.t 56) (.t 58), none⟩,
    ⟨some 12, .mov (.t 59), none⟩]))))
 (.reg [⟨some 60, .bin .add (.t 47) (.c (.int .i64 1)), none⟩,
    ⟨some 47, .mov (.t 60), none⟩]))))
def l_makeweightref16_plan_0 : C :=
 .loop (rest 92 [1, 2, 3, 4, 9, 34, 35, 36]) [1, 2] (.seq (.reg [⟨some 37, .bin .lss (.t 36) (.t 35), none⟩])
 (.seq (.cond (.t 37) (.skip) (.exit 0))
 (.seq (.blk 1 (.seq (.reg [⟨some 38, .iad 1 (.t 34) (.t 36), none⟩,
    ⟨some 39, .ld false 1 (.t 38), none⟩,
    ⟨some 11, .mov (.t 39), none⟩])
  (.seq (.seq (.reg [⟨some 40, .mov (.t 11), none⟩,
    ⟨some 41, .mov (.t 2), none⟩,
    ⟨some 42, .mov (.t 3), none⟩,
    ⟨some 43, .call f_makeweightref16_choices [(.t 40), (.t 41), (.t 42)] [], none⟩,
    ⟨some 44, .un .not (.t 43), none⟩])
  (.cond (.t 44) (.seq (.reg [⟨some 8, .mov (.c (.bool false)), none⟩])
   (.ret)) (.skip)))
  (.seq (.reg [⟨some 12, .mov (.c (.int .i64 0)), none⟩])
  (.seq (.seq (.reg [⟨some 45, .mov (.t 11), none⟩,
    ⟨some 46, .lenl (.t 45), none⟩,
    ⟨some 47, .mov (.c (.int .i64 0)), none⟩])
  (.blk 2 (l_makeweightref16_plan_2)))
  (.reg [⟨some 61, .mov (.t 9), none⟩,
    ⟨some 62, .mov (.t 12), none⟩,
    ⟨some 63, .bsl 2 1 1 [(.t 62)], none⟩,
    ⟨some 64, .app 3 1 8 (.t 61) (.t 63), none⟩,
    ⟨some 9, .mov (.t 64), none⟩]))))))
 (.reg [⟨some 65, .bin .add (.t 36) (.c (.int .i64 1)), none⟩,
    ⟨some 36, .mov (.t 65), none⟩]))))
def l_makeweightref16_plan_6 : C :=
 .loop (rest 92 [1, 9, 16, 67, 68, 69, 76, 77, 78]) [] (.seq (.reg [⟨some 79, .bin .lss (.t 78) (.t 77), none⟩])
 (.seq (.cond (.t 79) (.skip) (.exit 6))
 (.seq (.blk 7 (.seq (.reg [⟨some 80, .iad 1 (.t 76) (.t 78), none⟩,
    ⟨some 81, .ld false 1 (.t 80), none⟩,
    ⟨some 18, .mov (.t 81), none⟩])
  (.seq (.drw [⟨some 82, .fad 1 (.t 16), none⟩,
    ⟨some 83, .ld false 1 (.t 82), none⟩,
    ⟨some 84, .mov (.t 9), none⟩,
    ⟨some 85, .mov (.t 18), none⟩,
    ⟨some 86, .iad 1 (.t 84) (.t 85), none⟩,
    ⟨some 87, .ld false 1 (.t 86), none⟩,
    ⟨some 88, .bin .andNot (.t 83) (.t 87), none⟩,
    ⟨some 89, .bin .neq (.t 88) (.c (.int .i64 0)), none⟩] [])
  (.cond (.t 89) (.seq (.reg [⟨some 8, .mov (.c (.bool false)), none⟩])
   (.ret)) (.skip)))))
 (.reg [⟨some 90, .bin .add (.t 78) (.c (.int .i64 1)), none⟩,
    ⟨some 78, .mov (.t 90), none⟩]))))
def l_makeweightref16_plan_4 : C :=
 .loop (rest 92 [1, 9, 67, 68, 69]) [4] (.seq (.reg [⟨some 70, .bin .lss (.t 69) (.t 68), none⟩])
 (.seq (.cond (.t 70) (.skip) (.exit 4))
 (.seq (.blk 5 (.seq (.reg [⟨some 71, .iad 2 (.t 67) (.t 69), none⟩,
    ⟨some 72, .ld true 2 (.t 71), none⟩,
    ⟨some 16, .alc 4 2 (.agg [(.int .i64 0), (.int .i64 0)]), none⟩,
    ⟨none, .sto 2 (.t 16) (.t 72), none⟩])
  (.seq (.reg [⟨some 73, .mov (.t 1), none⟩,
    ⟨some 74, .fad 0 (.t 16), none⟩,
    ⟨some 75, .ld false 1 (.t 74), none⟩,
    ⟨some 76, .call f_makeweightref01_List [(.t 73), (.t 75)] [], none⟩,
    ⟨some 77, .lenl (.t 76), none⟩,
    ⟨some 78, .mov (.c (.int .i64 0)), none⟩])
  (.blk 6 (l_makeweightref16_plan_6)))))
 (.reg [⟨some 91, .bin .add (.t 69) (.c (.int .i64 1)), none⟩,
    ⟨some 69, .mov (.t 91), none⟩]))))
def c_makeweightref16_plan : C :=
 .seq (.reg [⟨some 4, .box 0 2 (.t 0), none⟩,
    ⟨some 8, .mov (.c (.bool false)), none⟩])
 (.seq (.seq (.drw [⟨some 19, .fad 1 (.t 4), none⟩,
    ⟨some 20, .ld false 1 (.t 19), none⟩,
    ⟨some 21, .lenl (.t 20), none⟩,
    ⟨some 22, .mov (.t 1), none⟩,
    ⟨some 23, .bin .neq (.t 21) (.t 22), none⟩,
    ⟨some 24, .mov (.t 23), none⟩,
    ⟨some 25, .fad 0 (.t 4), some (24, false)⟩,
    ⟨some 26, .ld false 1 (.t 25), some (24, false)⟩,
    ⟨some 27, .mov (.t 1), some (24, false)⟩,
    ⟨some 28, .bin .shl (.c (.int .i64 1)) (.t 27), some (24, false)⟩,
    ⟨some 29, .mov (.t 3), some (24, false)⟩,
    ⟨some 30, .call f_makeweightref16_choices [(.t 26), (.t 28), (.t 29)] [], some (24, false)⟩,
    ⟨some 31, .un .not (.t 30), some (24, false)⟩,
    ⟨some 32, .pick (.t 24) (.c (.bool true)) (.t 31), none⟩] [])
 (.cond (.t 32) (.seq (.reg [⟨some 8, .mov (.c (.bool false)), none⟩])
  (.ret)) (.skip)))
 (.seq (.reg [⟨some 9, .mov (.c .nils), none⟩])
 (.seq (.seq (.reg [⟨some 33, .fad 1 (.t 4), none⟩,
    ⟨some 34, .ld false 1 (.t 33), none⟩,
    ⟨some 35, .lenl (.t 34), none⟩,
    ⟨some 36, .mov (.c (.int .i64 0)), none⟩])
 (.blk 0 (l_makeweightref16_plan_0)))
 (.seq (.seq (.reg [⟨some 66, .fad 0 (.t 4), none⟩,
    ⟨some 67, .ld false 1 (.t 66), none⟩,
    ⟨some 68, .lenl (.t 67), none⟩,
    ⟨some 69, .mov (.c (.int .i64 0)), none⟩])
 (.blk 4 (l_makeweightref16_plan_4)))
 (.seq (.reg [⟨some 8, .mov (.c (.bool true)), none⟩])
 (.ret))))))
def s_makeweightref16_plan : List Nat := [4, 14, 63, 64, 16]
def F_makeweightref16_plan : IF := ⟨4, 92, 5, c_makeweightref16_plan, [(8, none)], true, false, false⟩

def l_makeweightref04_Hollow_2 : C :=
 .loop (rest 35 [1, 3, 4, 13, 14, 15]) [2] (.seq (.reg [⟨some 16, .bin .lss (.t 15) (.t 14), none⟩])
 (.seq (.cond (.t 16) (.skip) (.exit 2))
 (.seq (.blk 3 (.seq (.reg [⟨some 17, .mov (.t 15), none⟩,
    ⟨some 18, .iad 2 (.t 13) (.t 15), none⟩,
    ⟨some 19, .ld true 2 (.t 18), none⟩,
    ⟨some 6, .alc 2 2 (.agg [.nils, .nils]), none⟩,
    ⟨some 5, .mov (.t 17), none⟩,
    ⟨none, .sto 2 (.t 6) (.t 19), none⟩])
  (.seq (.reg [⟨some 20, .mov (.t 3), none⟩,
    ⟨some 21, .mov (.t 5), none⟩,
    ⟨some 22, .iad 1 (.t 20) (.t 21), none⟩,
    ⟨some 23, .ld false 1 (.t 22), none⟩,
    ⟨some 24, .un .not (.t 23), none⟩,
    ⟨some 25, .mov (.t 24), none⟩,
    ⟨some 26, .ld true 2 (.t 6), some (25, true)⟩,
    ⟨some 27, .mov (.t 3), some (25, true)⟩,
    ⟨some 28, .call f_makeweightref04_allFall [(.t 26), (.t 27)] [], some (25, true)⟩,
    ⟨some 29, .pick (.t 25) (.t 28) (.c (.bool false)), none⟩])
  (.cond (.t 29) (.reg [⟨some 30, .mov (.t 3), none⟩,
    ⟨some 31, .mov (.t 5), none⟩,
    ⟨some 32, .iad 1 (.t 30) (.t 31), none⟩,
    ⟨none, .sto 1 (.t 32) (.c (.bool true)), none⟩,
    ⟨some 4, .mov (.c (.bool true)), none⟩]) (.skip)))))
 (.reg [⟨some 33, .bin .add (.t 15) (.c (.int .i64 1)), none⟩,
    ⟨some 15, .mov (.t 33), none⟩]))))
def l_makeweightref04_Hollow_0 : C :=
 .loop (rest 35 [1, 3, 4]) [2] (.seq (.seq (.reg [⟨some 11, .mov (.t 4), none⟩])
 (.cond (.t 11) (.skip) (.exit 0)))
 (.blk 1 (.seq (.reg [⟨some 4, .mov (.c (.bool false)), none⟩])
  (.seq (.reg [⟨some 12, .fad 1 (.t 1), none⟩,
    ⟨some 13, .ld false 1 (.t 12), none⟩,
    ⟨some 14, .lenl (.t 13), none⟩,
    ⟨some 15, .mov (.c (.int .i64 0)), none⟩])
  (.blk 2 (l_makeweightref04_Hollow_2))))))
def c_makeweightref04_Hollow : C :=
 .seq (.reg [⟨some 1, .box 0 2 (.t 0), none⟩,
    ⟨some 2, .mov (.c .nils), none⟩])
 (.seq (.reg [⟨some 7, .fad 1 (.t 1), none⟩,
    ⟨some 8, .ld false 1 (.t 7), none⟩,
    ⟨some 9, .lenl (.t 8), none⟩,
    ⟨some 10, .mks 1 1 1 (.bool false) (.t 9) (.t 9), none⟩,
    ⟨some 3, .mov (.t 10), none⟩])
 (.seq (.seq (.reg [⟨some 4, .mov (.c (.bool true)), none⟩])
 (.blk 0 (l_makeweightref04_Hollow_0)))
 (.seq (.reg [⟨some 34, .mov (.t 3), none⟩,
    ⟨some 2, .mov (.t 34), none⟩])
 (.ret))))
def s_makeweightref04_Hollow : List Nat := [1, 10, 6]
def F_makeweightref04_Hollow : IF := ⟨1, 35, 3, c_makeweightref04_Hollow, [(2, none)], true, false, false⟩

def c_makeweightref02_before : C :=
 .seq (.reg [⟨some 2, .box 0 2 (.t 0), none⟩,
    ⟨some 3, .box 1 2 (.t 1), none⟩,
    ⟨some 4, .mov (.c (.bool false)), none⟩])
 (.seq (.reg [⟨some 5, .fad 0 (.t 2), none⟩,
    ⟨some 6, .ld false 1 (.t 5), none⟩,
    ⟨some 7, .fad 0 (.t 3), none⟩,
    ⟨some 8, .ld false 1 (.t 7), none⟩,
    ⟨some 9, .bin .lss (.t 6) (.t 8), none⟩,
    ⟨some 10, .mov (.t 9), none⟩,
    ⟨some 11, .fad 0 (.t 2), some (10, false)⟩,
    ⟨some 12, .ld false 1 (.t 11), some (10, false)⟩,
    ⟨some 13, .fad 0 (.t 3), some (10, false)⟩,
    ⟨some 14, .ld false 1 (.t 13), some (10, false)⟩,
    ⟨some 15, .bin .eql (.t 12) (.t 14), some (10, false)⟩,
    ⟨some 16, .mov (.t 15), some (10, false)⟩,
    ⟨some 17, .fad 1 (.t 2), some (16, true)⟩,
    ⟨some 18, .ld false 1 (.t 17), some (16, true)⟩,
    ⟨some 19, .fad 1 (.t 3), some (16, true)⟩,
    ⟨some 20, .ld false 1 (.t 19), some (16, true)⟩,
    ⟨some 21, .bin .lss (.t 18) (.t 20), some (16, true)⟩,
    ⟨some 22, .pick (.t 16) (.t 21) (.c (.bool false)), some (10, false)⟩,
    ⟨some 23, .pick (.t 10) (.c (.bool true)) (.t 22), none⟩,
    ⟨some 4, .mov (.t 23), none⟩])
 (.ret))
def s_makeweightref02_before : List Nat := [2, 3]
def F_makeweightref02_before : IF := ⟨2, 24, 2, c_makeweightref02_before, [(4, none)], true, false, false⟩

def c_makeweightref03_Satisfies : C :=
 .seq (.reg [⟨some 2, .box 0 2 (.t 0), none⟩,
    ⟨some 3, .box 1 2 (.t 1), none⟩,
    ⟨some 4, .mov (.c (.bool false)), none⟩])
 (.seq (.reg [⟨some 9, .ld true 2 (.t 2), none⟩,
    ⟨some 10, .ld true 2 (.t 3), none⟩,
    ⟨some 11, .call f_makeweightref03_Reach [(.t 9), (.t 10)] [], none⟩,
    ⟨some 8, .mov (.t 11), none⟩,
    ⟨some 12, .ext (.t 8) 0, none⟩,
    ⟨some 13, .ext (.t 8) 1, none⟩,
    ⟨some 14, .ext (.t 8) 2, none⟩,
    ⟨some 5, .mov (.t 12), none⟩,
    ⟨some 6, .mov (.t 13), none⟩,
    ⟨some 7, .mov (.t 14), none⟩])
 (.seq (.reg [⟨some 15, .mov (.t 7), none⟩,
    ⟨some 4, .mov (.t 15), none⟩])
 (.ret)))
def s_makeweightref03_Satisfies : List Nat := [2, 3]
def F_makeweightref03_Satisfies : IF := ⟨2, 16, 2, c_makeweightref03_Satisfies, [(4, none)], true, false, false⟩

def l_system_Valid_2 : C :=
 .loop (rest 82 [1, 3, 4, 6, 25, 26, 27, 37, 38, 39]) [1] (.seq (.reg [⟨some 40, .bin .lss (.t 39) (.t 38), none⟩])
 (.seq (.cond (.t 40) (.skip) (.exit 2))
 (.seq (.blk 3 (.seq (.reg [⟨some 41, .mov (.t 39), none⟩,
    ⟨some 42, .iad 2 (.t 37) (.t 39), none⟩,
    ⟨some 43, .ld true 2 (.t 42), none⟩,
    ⟨some 8, .alc 1 2 (.agg [(.int .i64 0), (.int .i64 0)]), none⟩,
    ⟨some 7, .mov (.t 41), none⟩,
    ⟨none, .sto 2 (.t 8) (.t 43), none⟩])
  (.seq (.drw [⟨some 44, .fad 0 (.t 8), none⟩,
    ⟨some 45, .ld false 1 (.t 44), none⟩,
    ⟨some 46, .bin .lss (.t 45) (.c (.int .i64 0)), none⟩,
    ⟨some 47, .mov (.t 46), none⟩,
    ⟨some 48, .fad 0 (.t 8), some (47, false)⟩,
    ⟨some 49, .ld false 1 (.t 48), some (47, false)⟩,
    ⟨some 50, .fad 0 (.t 1), some (47, false)⟩,
    ⟨some 51, .ld false 1 (.t 50), some (47, false)⟩,
    ⟨some 52, .lenl (.t 51), some (47, false)⟩,
    ⟨some 53, .bin .geq (.t 49) (.t 52), some (47, false)⟩,
    ⟨some 54, .pick (.t 47) (.c (.bool true)) (.t 53), none⟩,
    ⟨some 55, .mov (.t 54), none⟩,
    ⟨some 56, .fad 1 (.t 8), some (55, false)⟩,
    ⟨some 57, .ld false 1 (.t 56), some (55, false)⟩,
    ⟨some 58, .bin .lss (.t 57) (.c (.int .i64 0)), some (55, false)⟩,
    ⟨some 59, .pick (.t 55) (.c (.bool true)) (.t 58), none⟩,
    ⟨some 60, .mov (.t 59), none⟩,
    ⟨some 61, .fad 1 (.t 8), some (60, false)⟩,
    ⟨some 62, .ld false 1 (.t 61), some (60, false)⟩,
    ⟨some 63, .mov (.t 3), some (60, false)⟩,
    ⟨some 64, .bin .geq (.t 62) (.t 63), some (60, false)⟩,
    ⟨some 65, .pick (.t 60) (.c (.bool true)) (.t 64), none⟩,
    ⟨some 66, .mov (.t 65), none⟩,
    ⟨some 67, .mov (.t 7), some (66, false)⟩,
    ⟨some 68, .bin .gtr (.t 67) (.c (.int .i64 0)), some (66, false)⟩,
    ⟨some 69, .mov (.t 68), some (66, false)⟩,
    ⟨some 70, .mov (.t 6), some (69, true)⟩,
    ⟨some 71, .mov (.t 7), some (69, true)⟩,
    ⟨some 72, .bin .sub (.t 71) (.c (.int .i64 1)), some (69, true)⟩,
    ⟨some 73, .iad 2 (.t 70) (.t 72), some (69, true)⟩,
    ⟨some 74, .ld true 2 (.t 73), some (69, true)⟩,
    ⟨some 75, .ld true 2 (.t 8), some (69, true)⟩,
    ⟨some 76, .call f_system_order [(.t 74), (.t 75)] [], some (69, true)⟩,
    ⟨some 77, .bin .geq (.t 76) (.c (.int .i64 0)), some (69, true)⟩,
    ⟨some 78, .pick (.t 69) (.t 77) (.c (.bool false)), some (66, false)⟩,
    ⟨some 79, .pick (.t 66) (.c (.bool true)) (.t 78), none⟩] [])
  (.cond (.t 79) (.seq (.reg [⟨some 2, .mov (.c (.bool false)), none⟩])
   (.ret)) (.skip)))))
 (.reg [⟨some 80, .bin .add (.t 39) (.c (.int .i64 1)), none⟩,
    ⟨some 39, .mov (.t 80), none⟩]))))
def l_system_Valid_0 : C :=
 .loop (rest 82 [1, 3, 4, 25, 26, 27]) [1] (.seq (.reg [⟨some 28, .bin .lss (.t 27) (.t 26), none⟩])
 (.seq (.cond (.t 28) (.skip) (.exit 0))
 (.seq (.blk 1 (.seq (.reg [⟨some 29, .iad 1 (.t 25) (.t 27), none⟩,
    ⟨some 30, .ld false 1 (.t 29), none⟩,
    ⟨some 6, .mov (.t 30), none⟩])
  (.seq (.reg [⟨some 31, .mov (.t 4), none⟩,
    ⟨some 32, .mov (.t 6), none⟩,
    ⟨some 33, .lenl (.t 32), none⟩,
    ⟨some 34, .bin .add (.t 31) (.t 33), none⟩,
    ⟨some 4, .mov (.t 34), none⟩])
  (.seq (.seq (.reg [⟨some 35, .mov (.t 4), none⟩,
    ⟨some 36, .bin .gtr (.t 35) (.c (.int .i64 400000)), none⟩])
  (.cond (.t 36) (.seq (.reg [⟨some 2, .mov (.c (.bool false)), none⟩])
   (.ret)) (.skip)))
  (.seq (.reg [⟨some 37, .mov (.t 6), none⟩,
    ⟨some 38, .lenl (.t 37), none⟩,
    ⟨some 39, .mov (.c (.int .i64 0)), none⟩])
  (.blk 2 (l_system_Valid_2)))))))
 (.reg [⟨some 81, .bin .add (.t 27) (.c (.int .i64 1)), none⟩,
    ⟨some 27, .mov (.t 81), none⟩]))))
def c_system_Valid : C :=
 .seq (.reg [⟨some 1, .box 0 2 (.t 0), none⟩,
    ⟨some 2, .mov (.c (.bool false)), none⟩])
 (.seq (.reg [⟨some 9, .fad 1 (.t 1), none⟩,
    ⟨some 10, .ld false 1 (.t 9), none⟩,
    ⟨some 11, .lenl (.t 10), none⟩,
    ⟨some 3, .mov (.t 11), none⟩])
 (.seq (.seq (.reg [⟨some 12, .fad 0 (.t 1), none⟩,
    ⟨some 13, .ld false 1 (.t 12), none⟩,
    ⟨some 14, .call f_act_Valid [(.t 13)] [], none⟩,
    ⟨some 15, .un .not (.t 14), none⟩,
    ⟨some 16, .mov (.t 15), none⟩,
    ⟨some 17, .mov (.t 3), some (16, false)⟩,
    ⟨some 18, .bin .lss (.t 17) (.c (.int .i64 1)), some (16, false)⟩,
    ⟨some 19, .pick (.t 16) (.c (.bool true)) (.t 18), none⟩,
    ⟨some 20, .mov (.t 19), none⟩,
    ⟨some 21, .mov (.t 3), some (20, false)⟩,
    ⟨some 22, .bin .gtr (.t 21) (.c (.int .i64 5000)), some (20, false)⟩,
    ⟨some 23, .pick (.t 20) (.c (.bool true)) (.t 22), none⟩])
 (.cond (.t 23) (.seq (.reg [⟨some 2, .mov (.c (.bool false)), none⟩])
  (.ret)) (.skip)))
 (.seq (.reg [⟨some 4, .mov (.c (.int .i64 0)), none⟩])
 (.seq (.seq (.reg [⟨some 24, .fad 1 (.t 1), none⟩,
    ⟨some 25, .ld false 1 (.t 24), none⟩,
    ⟨some 26, .lenl (.t 25), none⟩,
    ⟨some 27, .mov (.c (.int .i64 0)), none⟩])
 (.blk 0 (l_system_Valid_0)))
 (.seq (.reg [⟨some 2, .mov (.c (.bool true)), none⟩])
 (.ret))))))
def s_system_Valid : List Nat := [1, 8]
def F_system_Valid : IF := ⟨1, 82, 2, c_system_Valid, [(2, none)], true, false, false⟩

def l_family_Valid_4 : C :=
 .loop (rest 127 [1, 2, 3, 4, 6, 7, 8, 44, 45, 46, 70, 71, 72, 82, 83, 84]) [6] (.seq (.reg [⟨some 85, .bin .lss (.t 84) (.t 83), none⟩])
 (.seq (.cond (.t 85) (.skip) (.exit 4))
 (.seq (.blk 5 (.seq (.reg [⟨some 86, .iad 2 (.t 82) (.t 84), none⟩,
    ⟨some 87, .ld true 2 (.t 86), none⟩,
    ⟨some 11, .alc 6 2 (.agg [(.int .i64 0), (.int .i64 0)]), none⟩,
    ⟨none, .sto 2 (.t 11) (.t 87), none⟩])
  (.seq (.seq (.drw [⟨some 88, .ld false 1 (.t 7), none⟩,
    ⟨some 89, .mov (.t 8), none⟩,
    ⟨some 90, .iad 1 (.t 88) (.t 89), none⟩,
    ⟨some 91, .ld false 1 (.t 90), none⟩,
    ⟨some 92, .fad 1 (.t 11), none⟩,
    ⟨some 93, .ld false 1 (.t 92), none⟩,
    ⟨some 94, .bin .and (.t 91) (.t 93), none⟩,
    ⟨some 95, .bin .neq (.t 94) (.c (.int .i64 0)), none⟩] [])
  (.cond (.t 95) (.seq (.reg [⟨none, .sto 1 (.t 2) (.c (.bool false)), none⟩])
   (.ret)) (.skip)))
  (.drw [⟨some 96, .ld false 1 (.t 7), none⟩,
    ⟨some 97, .mov (.t 8), none⟩,
    ⟨some 98, .iad 1 (.t 96) (.t 97), none⟩,
    ⟨some 99, .ld false 1 (.t 98), none⟩,
    ⟨some 100, .fad 1 (.t 11), none⟩,
    ⟨some 101, .ld false 1 (.t 100), none⟩,
    ⟨some 102, .bin .or (.t 99) (.t 101), none⟩,
    ⟨some 103, .iad 1 (.t 96) (.t 97), none⟩,
    ⟨none, .sto 1 (.t 103) (.t 102), none⟩] []))))
 (.reg [⟨some 104, .bin .add (.t 84) (.c (.int .i64 1)), none⟩,
    ⟨some 84, .mov (.t 104), none⟩]))))
def l_family_Valid_2 : C :=
 .loop (rest 127 [1, 2, 3, 4, 6, 7, 44, 45, 46, 70, 71, 72]) [6] (.seq (.reg [⟨some 73, .bin .lss (.t 72) (.t 71), none⟩])
 (.seq (.cond (.t 73) (.skip) (.exit 2))
 (.seq (.blk 3 (.seq (.reg [⟨some 74, .mov (.t 72), none⟩,
    ⟨some 75, .iad 1 (.t 70) (.t 72), none⟩,
    ⟨some 76, .ld false 1 (.t 75), none⟩,
    ⟨some 8, .mov (.t 74), none⟩,
    ⟨some 9, .mov (.t 76), none⟩])
  (.seq (.seq (.reg [⟨some 77, .mov (.t 9), none⟩,
    ⟨some 78, .mov (.t 4), none⟩,
    ⟨some 79, .mkf f_family_Valid_2 [(.t 3)], none⟩,
    ⟨some 80, .call f_family_choices [(.t 77), (.t 78), (.t 79)] [], none⟩,
    ⟨some 81, .un .not (.t 80), none⟩])
  (.cond (.t 81) (.seq (.reg [⟨none, .sto 1 (.t 2) (.c (.bool false)), none⟩])
   (.ret)) (.skip)))
  (.seq (.reg [⟨some 82, .mov (.t 9), none⟩,
    ⟨some 83, .lenl (.t 82), none⟩,
    ⟨some 84, .mov (.c (.int .i64 0)), none⟩])
  (.blk 4 (l_family_Valid_4))))))
 (.reg [⟨some 105, .bin .add (.t 72) (.c (.int .i64 1)), none⟩,
    ⟨some 72, .mov (.t 105), none⟩]))))
def a_family_Valid_8 : C :=
 .reg [⟨some 14, .mov (.t 116), none⟩]
def b_family_Valid_8 : C :=
 .blk 9 (.seq (.drw [⟨some 117, .fad 1 (.t 13), none⟩,
    ⟨some 118, .ld false 1 (.t 117), none⟩,
    ⟨some 119, .ld false 1 (.t 7), none⟩,
    ⟨some 120, .mov (.t 14), none⟩,
    ⟨some 121, .iad 1 (.t 119) (.t 120), none⟩,
    ⟨some 122, .ld false 1 (.t 121), none⟩,
    ⟨some 123, .bin .andNot (.t 118) (.t 122), none⟩,
    ⟨some 124, .bin .neq (.t 123) (.c (.int .i64 0)), none⟩] [])
  (.cond (.t 124) (.seq (.reg [⟨none, .sto 1 (.t 2) (.c (.bool false)), none⟩])
   (.ret)) (.skip)))
def l_family_Valid_6 : C :=
 .loop (rest 127 [1, 2, 3, 4, 7, 44, 45, 46, 107, 108, 109]) [7] (.seq (.reg [⟨some 110, .bin .lss (.t 109) (.t 108), none⟩])
 (.seq (.cond (.t 110) (.skip) (.exit 6))
 (.seq (.blk 7 (.seq (.reg [⟨some 111, .iad 2 (.t 107) (.t 109), none⟩,
    ⟨some 112, .ld true 2 (.t 111), none⟩,
    ⟨some 13, .alc 7 2 (.agg [(.int .i64 0), (.int .i64 0)]), none⟩,
    ⟨none, .sto 2 (.t 13) (.t 112), none⟩])
  (.seq (.reg [⟨some 113, .fad 0 (.t 13), none⟩,
    ⟨some 114, .ld false 1 (.t 113), none⟩,
    ⟨some 115, .call f_act_In [(.t 114)] [], none⟩])
  (.blk 8 (.rngf (.t 115) [116] (rest 127 [1, 2, 3, 4, 7, 13, 44, 45, 46, 107, 108, 109]) [] a_family_Valid_8 b_family_Valid_8)))))
 (.reg [⟨some 125, .bin .add (.t 109) (.c (.int .i64 1)), none⟩,
    ⟨some 109, .mov (.t 125), none⟩]))))
def l_family_Valid_0 : C :=
 .loop (rest 127 [1, 2, 3, 4, 44, 45, 46]) [3, 4, 5, 6, 7] (.seq (.reg [⟨some 47, .bin .lss (.t 46) (.t 45), none⟩])
 (.seq (.cond (.t 47) (.skip) (.exit 0))
 (.seq (.blk 1 (.seq (.reg [⟨some 48, .iad 2 (.t 44) (.t 46), none⟩,
    ⟨some 49, .ld true 2 (.t 48), none⟩,
    ⟨some 6, .alc 3 2 (.agg [.nils, .nils]), none⟩,
    ⟨none, .sto 2 (.t 6) (.t 49), none⟩])
  (.seq (.seq (.reg [⟨some 50, .fad 1 (.t 6), none⟩,
    ⟨some 51, .ld false 1 (.t 50), none⟩,
    ⟨some 52, .lenl (.t 51), none⟩,
    ⟨some 53, .fad 0 (.t 1), none⟩,
    ⟨some 54, .ld false 1 (.t 53), none⟩,
    ⟨some 55, .lenl (.t 54), none⟩,
    ⟨some 56, .bin .neq (.t 52) (.t 55), none⟩,
    ⟨some 57, .mov (.t 56), none⟩,
    ⟨some 58, .fad 0 (.t 6), some (57, false)⟩,
    ⟨some 59, .ld false 1 (.t 58), some (57, false)⟩,
    ⟨some 60, .mov (.t 4), some (57, false)⟩,
    ⟨some 61, .mkf f_family_Valid_1 [(.t 1)], some (57, false)⟩,
    ⟨some 62, .call f_family_choices [(.t 59), (.t 60), (.t 61)] [], some (57, false)⟩,
    ⟨some 63, .un .not (.t 62), some (57, false)⟩,
    ⟨some 64, .pick (.t 57) (.c (.bool true)) (.t 63), none⟩])
  (.cond (.t 64) (.seq (.reg [⟨none, .sto 1 (.t 2) (.c (.bool false)), none⟩])
   (.ret)) (.skip)))
  (.seq (.reg [⟨some 65, .fad 0 (.t 1), none⟩,
    ⟨some 66, .ld false 1 (.t 65), none⟩,
    ⟨some 67, .lenl (.t 66), none⟩,
    ⟨some 68, .mks 4 1 8 (.int .i64 0) (.t 67) (.t 67), none⟩,
    ⟨some 7, .alc 5 1 .nils, none⟩,
    ⟨none, .sto 1 (.t 7) (.t 68), none⟩])
  (.seq (.seq (.reg [⟨some 69, .fad 1 (.t 6), none⟩,
    ⟨some 70, .ld false 1 (.t 69), none⟩,
    ⟨some 71, .lenl (.t 70), none⟩,
    ⟨some 72, .mov (.c (.int .i64 0)), none⟩])
  (.blk 2 (l_family_Valid_2)))
  (.seq (.reg [⟨some 106, .fad 0 (.t 6), none⟩,
    ⟨some 107, .ld false 1 (.t 106), none⟩,
    ⟨some 108, .lenl (.t 107), none⟩,
    ⟨some 109, .mov (.c (.int .i64 0)), none⟩])
  (.blk 6 (l_family_Valid_6))))))))
 (.reg [⟨some 126, .bin .add (.t 46) (.c (.int .i64 1)), none⟩,
    ⟨some 46, .mov (.t 126), none⟩]))))
def c_family_Valid : C :=
 .seq (.reg [⟨some 1, .box 0 3 (.t 0), none⟩,
    ⟨some 2, .alc 1 1 (.bool false), none⟩])
 (.seq (.reg [⟨some 15, .fad 2 (.t 1), none⟩,
    ⟨some 16, .ld false 1 (.t 15), none⟩,
    ⟨some 17, .lenl (.t 16), none⟩,
    ⟨some 3, .alc 2 1 (.int .i64 0), none⟩,
    ⟨none, .sto 1 (.t 3) (.t 17), none⟩])
 (.seq (.seq (.reg [⟨some 18, .fad 0 (.t 1), none⟩,
    ⟨some 19, .ld false 1 (.t 18), none⟩,
    ⟨some 20, .call f_act_Valid [(.t 19)] [], none⟩,
    ⟨some 21, .un .not (.t 20), none⟩,
    ⟨some 22, .mov (.t 21), none⟩,
    ⟨some 23, .fad 1 (.t 1), some (22, false)⟩,
    ⟨some 24, .ld false 1 (.t 23), some (22, false)⟩,
    ⟨some 25, .bin .lss (.t 24) (.c (.int .i64 1)), some (22, false)⟩,
    ⟨some 26, .pick (.t 22) (.c (.bool true)) (.t 25), none⟩,
    ⟨some 27, .mov (.t 26), none⟩,
    ⟨some 28, .fad 1 (.t 1), some (27, false)⟩,
    ⟨some 29, .ld false 1 (.t 28), some (27, false)⟩,
    ⟨some 30, .bin .gtr (.t 29) (.c (.int .i64 32)), some (27, false)⟩,
    ⟨some 31, .pick (.t 27) (.c (.bool true)) (.t 30), none⟩,
    ⟨some 32, .mov (.t 31), none⟩,
    ⟨some 33, .ld false 1 (.t 3), some (32, false)⟩,
    ⟨some 34, .bin .lss (.t 33) (.c (.int .i64 1)), some (32, false)⟩,
    ⟨some 35, .pick (.t 32) (.c (.bool true)) (.t 34), none⟩,
    ⟨some 36, .mov (.t 35), none⟩,
    ⟨some 37, .ld false 1 (.t 3), some (36, false)⟩,
    ⟨some 38, .bin .gtr (.t 37) (.c (.int .i64 500)), some (36, false)⟩,
    ⟨some 39, .pick (.t 36) (.c (.bool true)) (.t 38), none⟩])
 (.cond (.t 39) (.seq (.reg [⟨none, .sto 1 (.t 2) (.c (.bool false)), none⟩])
  (.ret)) (.skip)))
 (.seq (.reg [⟨some 40, .fad 1 (.t 1), none⟩,
    ⟨some 41, .ld false 1 (.t 40), none⟩,
    ⟨some 42, .bin .shl (.c (.int .i64 1)) (.t 41), none⟩,
    ⟨some 4, .mov (.t 42), none⟩])
 (.seq (.seq (.reg [⟨some 43, .fad 2 (.t 1), none⟩,
    ⟨some 44, .ld false 1 (.t 43), none⟩,
    ⟨some 45, .lenl (.t 44), none⟩,
    ⟨some 46, .mov (.c (.int .i64 0)), none⟩])
 (.blk 0 (l_family_Valid_0)))
 (.seq (.reg [⟨none, .sto 1 (.t 2) (.c (.bool true)), none⟩])
 (.ret))))))
def s_family_Valid : List Nat := [1, 2, 3, 6, 68, 7, 11, 13]
def F_family_Valid : IF := ⟨1, 127, 8, c_family_Valid, [(2, some (false, 1))], true, false, false⟩

def l_slices_Equal___string_string__0 : C :=
 .loop (rest 26 [0, 1, 12, 13]) [] (.seq (.reg [⟨some 14, .bin .lss (.t 13) (.t 12), none⟩])
 (.seq (.cond (.t 14) (.skip) (.exit 0))
 (.seq (.blk 1 (.seq (.reg [⟨some 15, .mov (.t 13), none⟩,
    ⟨some 5, .mov (.t 15), none⟩])
  (.seq (.drw [⟨some 16, .mov (.t 0), none⟩,
    ⟨some 17, .mov (.t 5), none⟩,
    ⟨some 18, .iad 1 (.t 16) (.t 17), none⟩,
    ⟨some 19, .ld false 1 (.t 18), none⟩,
    ⟨some 20, .mov (.t 1), none⟩,
    ⟨some 21, .mov (.t 5), none⟩,
    ⟨some 22, .iad 1 (.t 20) (.t 21), none⟩,
    ⟨some 23, .ld false 1 (.t 22), none⟩,
    ⟨some 24, .bin .neq (.t 19) (.t 23), none⟩] [])
  (.cond (.t 24) (.seq (.reg [⟨some 4, .mov (.c (.bool false)), none⟩])
   (.ret)) (.skip)))))
 (.reg [⟨some 25, .bin .add (.t 13) (.c (.int .i64 1)), none⟩,
    ⟨some 13, .mov (.t 25), none⟩]))))
def c_slices_Equal___string_string_ : C :=
 .seq (.reg [⟨some 4, .mov (.c (.bool false)), none⟩])
 (.seq (.seq (.reg [⟨some 6, .mov (.t 0), none⟩,
    ⟨some 7, .lenl (.t 6), none⟩,
    ⟨some 8, .mov (.t 1), none⟩,
    ⟨some 9, .lenl (.t 8), none⟩,
    ⟨some 10, .bin .neq (.t 7) (.t 9), none⟩])
 (.cond (.t 10) (.seq (.reg [⟨some 4, .mov (.c (.bool false)), none⟩])
  (.ret)) (.skip)))
 (.seq (.seq (.reg [⟨some 11, .mov (.t 0), none⟩,
    ⟨some 12, .lenl (.t 11), none⟩,
    ⟨some 13, .mov (.c (.int .i64 0)), none⟩])
 (.blk 0 (l_slices_Equal___string_string__0)))
 (.seq (.reg [⟨some 4, .mov (.c (.bool true)), none⟩])
 (.ret))))
def s_slices_Equal___string_string_ : List Nat := []
def F_slices_Equal___string_string_ : IF := ⟨2, 26, 0, c_slices_Equal___string_string_, [(4, none)], true, false, false⟩

def l_system_Offers_0 : C :=
 .loop (rest 19 [3, 6, 7, 8]) [0] (.seq (.reg [⟨some 9, .bin .lss (.t 8) (.t 7), none⟩])
 (.seq (.cond (.t 9) (.skip) (.exit 0))
 (.seq (.blk 1 (.seq (.reg [⟨some 10, .iad 2 (.t 6) (.t 8), none⟩,
    ⟨some 11, .ld true 2 (.t 10), none⟩,
    ⟨some 5, .alc 0 2 (.agg [(.int .i64 0), (.int .i64 0)]), none⟩,
    ⟨none, .sto 2 (.t 5) (.t 11), none⟩])
  (.reg [⟨some 12, .mov (.t 3), none⟩,
    ⟨some 13, .fad 0 (.t 5), none⟩,
    ⟨some 14, .ld false 1 (.t 13), none⟩,
    ⟨some 15, .bin .shl (.c (.int .i64 1)) (.t 14), none⟩,
    ⟨some 16, .bin .or (.t 12) (.t 15), none⟩,
    ⟨some 3, .mov (.t 16), none⟩])))
 (.reg [⟨some 17, .bin .add (.t 8) (.c (.int .i64 1)), none⟩,
    ⟨some 8, .mov (.t 17), none⟩]))))
def c_system_Offers : C :=
 .seq (.reg [⟨some 2, .mov (.c (.int .i64 0)), none⟩])
 (.seq (.reg [⟨some 3, .mov (.c (.int .i64 0)), none⟩])
 (.seq (.seq (.reg [⟨some 6, .mov (.t 0), none⟩,
    ⟨some 7, .lenl (.t 6), none⟩,
    ⟨some 8, .mov (.c (.int .i64 0)), none⟩])
 (.blk 0 (l_system_Offers_0)))
 (.seq (.reg [⟨some 18, .mov (.t 3), none⟩,
    ⟨some 2, .mov (.t 18), none⟩])
 (.ret))))
def s_system_Offers : List Nat := [5]
def F_system_Offers : IF := ⟨1, 19, 1, c_system_Offers, [(2, none)], true, false, false⟩

def l_family_which_0 : C :=
 .loop (rest 19 [1, 5, 7, 8]) [] (.seq (.reg [⟨some 9, .bin .lss (.t 8) (.t 7), none⟩])
 (.seq (.cond (.t 9) (.skip) (.exit 0))
 (.seq (.blk 1 (.seq (.reg [⟨some 10, .mov (.t 8), none⟩,
    ⟨some 6, .mov (.t 10), none⟩])
  (.seq (.reg [⟨some 11, .mov (.t 1), none⟩,
    ⟨some 12, .mov (.t 6), none⟩,
    ⟨some 13, .calv (.t 11) [(.t 12)] [], none⟩])
  (.cond (.t 13) (.reg [⟨some 14, .mov (.t 5), none⟩,
    ⟨some 15, .mov (.t 6), none⟩,
    ⟨some 16, .call f__family_products__with [(.t 14), (.t 15)] [], none⟩,
    ⟨some 5, .mov (.t 16), none⟩]) (.skip)))))
 (.reg [⟨some 17, .bin .add (.t 8) (.c (.int .i64 1)), none⟩,
    ⟨some 8, .mov (.t 17), none⟩]))))
def c_family_which : C :=
 .seq (.reg [⟨some 4, .mov (.c (.int .i64 0)), none⟩])
 (.seq (.reg [⟨some 5, .mov (.c (.int .i64 0)), none⟩])
 (.seq (.seq (.reg [⟨some 7, .mov (.t 0), none⟩,
    ⟨some 8, .mov (.c (.int .i64 0)), none⟩])
 (.blk 0 (l_family_which_0)))
 (.seq (.reg [⟨some 18, .mov (.t 5), none⟩,
    ⟨some 4, .mov (.t 18), none⟩])
 (.ret))))
def s_family_which : List Nat := []
def F_family_which : IF := ⟨2, 19, 0, c_family_which, [(4, none)], true, false, false⟩

def c_family_Full_1 : C :=
 .seq (.reg [⟨some 3, .mov (.c (.bool false)), none⟩])
 (.seq (.reg [⟨some 4, .ld true 3 (.t 1), none⟩,
    ⟨some 5, .mov (.t 0), none⟩,
    ⟨some 6, .call f_family_single [(.t 4), (.t 5)] [], none⟩,
    ⟨some 7, .call f_prune_Hollows [(.t 6)] [], none⟩,
    ⟨some 8, .iad 1 (.t 7) (.c (.int .i64 0)), none⟩,
    ⟨some 9, .ld false 1 (.t 8), none⟩,
    ⟨some 10, .un .not (.t 9), none⟩,
    ⟨some 3, .mov (.t 10), none⟩])
 (.ret))
def s_family_Full_1 : List Nat := []
def F_family_Full_1 : IF := ⟨2, 11, 0, c_family_Full_1, [(3, none)], true, false, false⟩

def l_prune_Hollows_0 : C :=
 .loop (rest 22 [3, 11, 12, 13]) [] (.seq (.reg [⟨some 14, .bin .lss (.t 13) (.t 12), none⟩])
 (.seq (.cond (.t 14) (.skip) (.exit 0))
 (.seq (.blk 1 (.seq (.reg [⟨some 15, .iad 1 (.t 11) (.t 13), none⟩,
    ⟨some 16, .ld false 1 (.t 15), none⟩,
    ⟨some 5, .mov (.t 16), none⟩])
  (.reg [⟨some 17, .mov (.t 3), none⟩,
    ⟨some 18, .mov (.t 5), none⟩,
    ⟨some 19, .iad 1 (.t 17) (.t 18), none⟩,
    ⟨none, .sto 1 (.t 19) (.c (.bool true)), none⟩])))
 (.reg [⟨some 20, .bin .add (.t 13) (.c (.int .i64 1)), none⟩,
    ⟨some 13, .mov (.t 20), none⟩]))))
def c_prune_Hollows : C :=
 .seq (.reg [⟨some 1, .box 0 2 (.t 0), none⟩,
    ⟨some 2, .mov (.c .nils), none⟩])
 (.seq (.reg [⟨some 6, .fad 1 (.t 1), none⟩,
    ⟨some 7, .ld false 1 (.t 6), none⟩,
    ⟨some 8, .lenl (.t 7), none⟩,
    ⟨some 9, .mks 1 1 1 (.bool false) (.t 8) (.t 8), none⟩,
    ⟨some 3, .mov (.t 9), none⟩])
 (.seq (.seq (.reg [⟨some 10, .ld true 2 (.t 1), none⟩,
    ⟨some 11, .call f_prune_rungs [(.t 10)] [], none⟩,
    ⟨some 12, .lenl (.t 11), none⟩,
    ⟨some 13, .mov (.c (.int .i64 0)), none⟩])
 (.blk 0 (l_prune_Hollows_0)))
 (.seq (.reg [⟨some 21, .mov (.t 3), none⟩,
    ⟨some 2, .mov (.t 21), none⟩])
 (.ret))))
def s_prune_Hollows : List Nat := [1, 9]
def F_prune_Hollows : IF := ⟨1, 22, 2, c_prune_Hollows, [(2, none)], true, false, false⟩

def l_family_single_2 : C :=
 .loop (rest 75 [1, 4, 5, 7, 8, 20, 21, 22, 27, 28, 29]) [5, 6, 7] (.seq (.reg [⟨some 30, .bin .lss (.t 29) (.t 28), none⟩])
 (.seq (.cond (.t 30) (.skip) (.exit 2))
 (.seq (.blk 3 (.seq (.reg [⟨some 31, .iad 2 (.t 27) (.t 29), none⟩,
    ⟨some 32, .ld true 2 (.t 31), none⟩,
    ⟨some 10, .alc 5 2 (.agg [(.int .i64 0), (.int .i64 0)]), none⟩,
    ⟨none, .sto 2 (.t 10) (.t 32), none⟩])
  (.seq (.reg [⟨some 33, .fad 1 (.t 10), none⟩,
    ⟨some 34, .ld false 1 (.t 33), none⟩,
    ⟨some 35, .mov (.t 1), none⟩,
    ⟨some 36, .call f__family_products__has [(.t 34), (.t 35)] [], none⟩])
  (.cond (.t 36) (.reg [⟨some 37, .fad 0 (.t 8), none⟩,
    ⟨some 38, .ld false 1 (.t 37), none⟩,
    ⟨some 39, .fad 0 (.t 10), none⟩,
    ⟨some 40, .ld false 1 (.t 39), none⟩,
    ⟨some 41, .bsl 6 1 1 [(.t 40)], none⟩,
    ⟨some 42, .app 7 1 8 (.t 38) (.t 41), none⟩,
    ⟨some 43, .fad 0 (.t 8), none⟩,
    ⟨none, .sto 1 (.t 43) (.t 42), none⟩]) (.skip)))))
 (.reg [⟨some 44, .bin .add (.t 29) (.c (.int .i64 1)), none⟩,
    ⟨some 29, .mov (.t 44), none⟩]))))
def l_family_single_4 : C :=
 .loop (rest 75 [1, 4, 5, 8, 20, 21, 22, 46, 47, 48]) [8, 9] (.seq (.reg [⟨some 49, .bin .lss (.t 48) (.t 47), none⟩])
 (.seq (.cond (.t 49) (.skip) (.exit 4))
 (.seq (.blk 5 (.seq (.reg [⟨some 50, .iad 1 (.t 46) (.t 48), none⟩,
    ⟨some 51, .ld false 1 (.t 50), none⟩,
    ⟨some 12, .mov (.t 51), none⟩])
  (.seq (.reg [⟨some 53, .mov (.t 12), none⟩,
    ⟨some 54, .mov (.t 1), none⟩,
    ⟨some 55, .call f_family_chosen [(.t 53), (.t 54)] [], none⟩,
    ⟨some 52, .mov (.t 55), none⟩,
    ⟨some 56, .ext (.t 52) 0, none⟩,
    ⟨some 57, .ext (.t 52) 1, none⟩,
    ⟨some 13, .mov (.t 56), none⟩,
    ⟨some 14, .mov (.t 57), none⟩])
  (.seq (.seq (.reg [⟨some 58, .mov (.t 14), none⟩,
    ⟨some 59, .un .not (.t 58), none⟩])
  (.cond (.t 59) (.reg [⟨some 13, .mov (.c (.int .i64 (-1))), none⟩]) (.skip)))
  (.reg [⟨some 60, .fad 1 (.t 8), none⟩,
    ⟨some 61, .ld false 1 (.t 60), none⟩,
    ⟨some 62, .mov (.t 13), none⟩,
    ⟨some 63, .bsl 8 1 1 [(.t 62)], none⟩,
    ⟨some 64, .app 9 1 8 (.t 61) (.t 63), none⟩,
    ⟨some 65, .fad 1 (.t 8), none⟩,
    ⟨none, .sto 1 (.t 65) (.t 64), none⟩])))))
 (.reg [⟨some 66, .bin .add (.t 48) (.c (.int .i64 1)), none⟩,
    ⟨some 48, .mov (.t 66), none⟩]))))
def l_family_single_0 : C :=
 .loop (rest 75 [1, 4, 5, 20, 21, 22]) [3, 4, 5, 6, 7, 8, 9, 10, 11] (.seq (.reg [⟨some 23, .bin .lss (.t 22) (.t 21), none⟩])
 (.seq (.cond (.t 23) (.skip) (.exit 0))
 (.seq (.blk 1 (.seq (.reg [⟨some 24, .iad 2 (.t 20) (.t 22), none⟩,
    ⟨some 25, .ld true 2 (.t 24), none⟩,
    ⟨some 7, .alc 3 2 (.agg [.nils, .nils]), none⟩,
    ⟨none, .sto 2 (.t 7) (.t 25), none⟩])
  (.seq (.reg [⟨some 8, .alc 4 2 (.agg [.nils, .nils]), none⟩])
  (.seq (.seq (.reg [⟨some 26, .fad 0 (.t 7), none⟩,
    ⟨some 27, .ld false 1 (.t 26), none⟩,
    ⟨some 28, .lenl (.t 27), none⟩,
    ⟨some 29, .mov (.c (.int .i64 0)), none⟩])
  (.blk 2 (l_family_single_2)))
  (.seq (.seq (.reg [⟨some 45, .fad 1 (.t 7), none⟩,
    ⟨some 46, .ld false 1 (.t 45), none⟩,
    ⟨some 47, .lenl (.t 46), none⟩,
    ⟨some 48, .mov (.c (.int .i64 0)), none⟩])
  (.blk 4 (l_family_single_4)))
  (.reg [⟨some 67, .fad 1 (.t 5), none⟩,
    ⟨some 68, .ld false 1 (.t 67), none⟩,
    ⟨some 69, .ld true 2 (.t 8), none⟩,
    ⟨some 70, .bsl 10 2 1 [(.t 69)], none⟩,
    ⟨some 71, .app 11 2 48 (.t 68) (.t 70), none⟩,
    ⟨some 72, .fad 1 (.t 5), none⟩,
    ⟨none, .sto 1 (.t 72) (.t 71), none⟩]))))))
 (.reg [⟨some 73, .bin .add (.t 22) (.c (.int .i64 1)), none⟩,
    ⟨some 22, .mov (.t 73), none⟩]))))
def c_family_single : C :=
 .seq (.reg [⟨some 2, .box 0 3 (.t 0), none⟩,
    ⟨some 4, .alc 1 2 (.agg [.nils, .nils]), none⟩])
 (.seq (.reg [⟨some 15, .fad 0 (.t 2), none⟩,
    ⟨some 16, .ld false 1 (.t 15), none⟩,
    ⟨some 17, .call f_slices_Clone___string_string_ [(.t 16)] [], none⟩,
    ⟨some 18, .bld [.nils, .nils] [(0, 1, (.t 17))], none⟩,
    ⟨some 5, .alc 2 2 (.agg [.nils, .nils]), none⟩,
    ⟨none, .sto 2 (.t 5) (.t 18), none⟩])
 (.seq (.seq (.reg [⟨some 19, .fad 2 (.t 2), none⟩,
    ⟨some 20, .ld false 1 (.t 19), none⟩,
    ⟨some 21, .lenl (.t 20), none⟩,
    ⟨some 22, .mov (.c (.int .i64 0)), none⟩])
 (.blk 0 (l_family_single_0)))
 (.seq (.reg [⟨some 74, .ld true 2 (.t 5), none⟩,
    ⟨none, .sto 2 (.t 4) (.t 74), none⟩])
 (.ret))))
def s_family_single : List Nat := [2, 4, 5, 7, 8, 10, 41, 42, 63, 64, 70, 71]
def F_family_single : IF := ⟨2, 75, 12, c_family_single, [(4, some (true, 2))], true, false, false⟩

def l_makeweightref16_chosen_0 : C :=
 .loop (rest 25 [1, 5, 8, 9, 10]) [0, 1] (.seq (.reg [⟨some 11, .bin .lss (.t 10) (.t 9), none⟩])
 (.seq (.cond (.t 11) (.skip) (.exit 0))
 (.seq (.blk 1 (.seq (.reg [⟨some 12, .iad 2 (.t 8) (.t 10), none⟩,
    ⟨some 13, .ld true 2 (.t 12), none⟩,
    ⟨some 7, .alc 0 2 (.agg [(.int .i64 0), (.int .i64 0)]), none⟩,
    ⟨none, .sto 2 (.t 7) (.t 13), none⟩])
  (.seq (.reg [⟨some 14, .fad 1 (.t 7), none⟩,
    ⟨some 15, .ld false 1 (.t 14), none⟩,
    ⟨some 16, .mov (.t 1), none⟩,
    ⟨some 17, .call f_makeweightref01_Has [(.t 15), (.t 16)] [], none⟩])
  (.cond (.t 17) (.reg [⟨some 18, .mov (.t 5), none⟩,
    ⟨some 19, .fad 0 (.t 7), none⟩,
    ⟨some 20, .ld false 1 (.t 19), none⟩,
    ⟨some 21, .bsl 1 1 1 [(.t 20)], none⟩,
    ⟨some 22, .app 2 1 8 (.t 18) (.t 21), none⟩,
    ⟨some 5, .mov (.t 22), none⟩]) (.skip)))))
 (.reg [⟨some 23, .bin .add (.t 10) (.c (.int .i64 1)), none⟩,
    ⟨some 10, .mov (.t 23), none⟩]))))
def c_makeweightref16_chosen : C :=
 .seq (.reg [⟨some 4, .mov (.c .nils), none⟩])
 (.seq (.reg [⟨some 5, .mov (.c .nils), none⟩])
 (.seq (.seq (.reg [⟨some 8, .mov (.t 0), none⟩,
    ⟨some 9, .lenl (.t 8), none⟩,
    ⟨some 10, .mov (.c (.int .i64 0)), none⟩])
 (.blk 0 (l_makeweightref16_chosen_0)))
 (.seq (.reg [⟨some 24, .mov (.t 5), none⟩,
    ⟨some 4, .mov (.t 24), none⟩])
 (.ret))))
def s_makeweightref16_chosen : List Nat := [7, 21, 22]
def F_makeweightref16_chosen : IF := ⟨2, 25, 3, c_makeweightref16_chosen, [(4, none)], true, false, false⟩

def c__family_products__has : C :=
 .seq (.reg [⟨some 4, .mov (.c (.bool false)), none⟩])
 (.seq (.reg [⟨some 5, .mov (.t 0), none⟩,
    ⟨some 6, .mov (.t 1), none⟩,
    ⟨some 7, .bin .shr (.t 5) (.t 6), none⟩,
    ⟨some 8, .bin .and (.t 7) (.c (.int .i64 1)), none⟩,
    ⟨some 9, .bin .eql (.t 8) (.c (.int .i64 1)), none⟩,
    ⟨some 4, .mov (.t 9), none⟩])
 (.ret))
def s__family_products__has : List Nat := []
def F__family_products__has : IF := ⟨2, 10, 0, c__family_products__has, [(4, none)], true, false, false⟩

def c_slices_Clone___string_string_ : C :=
 .seq (.reg [⟨some 2, .mov (.c .nils), none⟩])
 (.seq (.seq (.reg [⟨some 3, .mov (.t 0), none⟩,
    ⟨some 4, .nilc false (.t 3) (.c .nils), none⟩])
 (.cond (.t 4) (.seq (.reg [⟨some 2, .mov (.c .nils), none⟩])
  (.ret)) (.skip)))
 (.seq (.reg [⟨some 5, .bsl 0 1 0 [], none⟩,
    ⟨some 6, .mov (.t 0), none⟩,
    ⟨some 7, .app 1 1 16 (.t 5) (.t 6), none⟩,
    ⟨some 2, .mov (.t 7), none⟩])
 (.ret)))
def s_slices_Clone___string_string_ : List Nat := [5, 7]
def F_slices_Clone___string_string_ : IF := ⟨1, 8, 2, c_slices_Clone___string_string_, [(2, none)], true, false, true⟩

def l_makeweightref01_Name_0 : C :=
 .loop (rest 47 [0, 20, 21]) [] (.seq (.reg [⟨some 22, .bin .lss (.t 21) (.t 20), none⟩])
 (.seq (.cond (.t 22) (.skip) (.exit 0))
 (.seq (.blk 1 (.seq (.reg [⟨some 23, .mov (.t 21), none⟩,
    ⟨some 3, .mov (.t 23), none⟩])
  (.seq (.reg [⟨some 24, .mov (.t 0), none⟩,
    ⟨some 25, .mov (.t 3), none⟩,
    ⟨some 26, .idx (.t 24) (.t 25), none⟩,
    ⟨some 4, .mov (.t 26), none⟩])
  (.seq (.reg [⟨some 27, .mov (.t 4), none⟩,
    ⟨some 28, .call f_makeweightref01_letter [(.t 27)] [], none⟩,
    ⟨some 29, .un .not (.t 28), none⟩,
    ⟨some 30, .mov (.t 29), none⟩,
    ⟨some 31, .mov (.t 4), some (30, true)⟩,
    ⟨some 32, .bin .lss (.t 31) (.c (.int .u8 48)), some (30, true)⟩,
    ⟨some 33, .mov (.t 32), some (30, true)⟩,
    ⟨some 34, .mov (.t 4), some (33, false)⟩,
    ⟨some 35, .bin .gtr (.t 34) (.c (.int .u8 57)), some (33, false)⟩,
    ⟨some 36, .pick (.t 33) (.c (.bool true)) (.t 35), some (30, true)⟩,
    ⟨some 37, .pick (.t 30) (.t 36) (.c (.bool false)), none⟩,
    ⟨some 38, .mov (.t 37), none⟩,
    ⟨some 39, .mov (.t 4), some (38, true)⟩,
    ⟨some 40, .bin .neq (.t 39) (.c (.int .u8 45)), some (38, true)⟩,
    ⟨some 41, .pick (.t 38) (.t 40) (.c (.bool false)), none⟩,
    ⟨some 42, .mov (.t 41), none⟩,
    ⟨some 43, .mov (.t 4), some (42, true)⟩,
    ⟨some 44, .bin .neq (.t 43) (.c (.int .u8 95)), some (42, true)⟩,
    ⟨some 45, .pick (.t 42) (.t 44) (.c (.bool false)), none⟩])
  (.cond (.t 45) (.seq (.reg [⟨some 2, .mov (.c (.bool false)), none⟩])
   (.ret)) (.skip))))))
 (.reg [⟨some 46, .bin .add (.t 21) (.c (.int .i64 1)), none⟩,
    ⟨some 21, .mov (.t 46), none⟩]))))
def c_makeweightref01_Name : C :=
 .seq (.reg [⟨some 2, .mov (.c (.bool false)), none⟩])
 (.seq (.seq (.reg [⟨some 5, .mov (.t 0), none⟩,
    ⟨some 6, .lens (.t 5), none⟩,
    ⟨some 7, .bin .lss (.t 6) (.c (.int .i64 1)), none⟩,
    ⟨some 8, .mov (.t 7), none⟩,
    ⟨some 9, .mov (.t 0), some (8, false)⟩,
    ⟨some 10, .lens (.t 9), some (8, false)⟩,
    ⟨some 11, .bin .gtr (.t 10) (.c (.int .i64 20)), some (8, false)⟩,
    ⟨some 12, .pick (.t 8) (.c (.bool true)) (.t 11), none⟩,
    ⟨some 13, .mov (.t 12), none⟩,
    ⟨some 14, .mov (.t 0), some (13, false)⟩,
    ⟨some 15, .idx (.t 14) (.c (.int .i64 0)), some (13, false)⟩,
    ⟨some 16, .call f_makeweightref01_letter [(.t 15)] [], some (13, false)⟩,
    ⟨some 17, .un .not (.t 16), some (13, false)⟩,
    ⟨some 18, .pick (.t 13) (.c (.bool true)) (.t 17), none⟩])
 (.cond (.t 18) (.seq (.reg [⟨some 2, .mov (.c (.bool false)), none⟩])
  (.ret)) (.skip)))
 (.seq (.seq (.reg [⟨some 19, .mov (.t 0), none⟩,
    ⟨some 20, .lens (.t 19), none⟩,
    ⟨some 21, .mov (.c (.int .i64 0)), none⟩])
 (.blk 0 (l_makeweightref01_Name_0)))
 (.seq (.reg [⟨some 2, .mov (.c (.bool true)), none⟩])
 (.ret))))
def s_makeweightref01_Name : List Nat := []
def F_makeweightref01_Name : IF := ⟨1, 47, 0, c_makeweightref01_Name, [(2, none)], true, false, false⟩

def l_makeweightref01_Index_0 : C :=
 .loop (rest 19 [1, 7, 8, 9]) [] (.seq (.reg [⟨some 10, .bin .lss (.t 9) (.t 8), none⟩])
 (.seq (.cond (.t 10) (.skip) (.exit 0))
 (.seq (.blk 1 (.seq (.reg [⟨some 11, .mov (.t 9), none⟩,
    ⟨some 12, .iad 1 (.t 7) (.t 9), none⟩,
    ⟨some 13, .ld false 1 (.t 12), none⟩,
    ⟨some 5, .mov (.t 11), none⟩,
    ⟨some 6, .mov (.t 13), none⟩])
  (.seq (.reg [⟨some 14, .mov (.t 6), none⟩,
    ⟨some 15, .mov (.t 1), none⟩,
    ⟨some 16, .bin .eql (.t 14) (.t 15), none⟩])
  (.cond (.t 16) (.seq (.reg [⟨some 17, .mov (.t 5), none⟩,
    ⟨some 4, .mov (.t 17), none⟩])
   (.ret)) (.skip)))))
 (.reg [⟨some 18, .bin .add (.t 9) (.c (.int .i64 1)), none⟩,
    ⟨some 9, .mov (.t 18), none⟩]))))
def c_makeweightref01_Index : C :=
 .seq (.reg [⟨some 4, .mov (.c (.int .i64 0)), none⟩])
 (.seq (.seq (.reg [⟨some 7, .mov (.t 0), none⟩,
    ⟨some 8, .lenl (.t 7), none⟩,
    ⟨some 9, .mov (.c (.int .i64 0)), none⟩])
 (.blk 0 (l_makeweightref01_Index_0)))
 (.seq (.reg [⟨some 4, .mov (.c (.int .i64 (-1))), none⟩])
 (.ret)))
def s_makeweightref01_Index : List Nat := []
def F_makeweightref01_Index : IF := ⟨2, 19, 0, c_makeweightref01_Index, [(4, none)], true, false, false⟩

def l_act_Valid_0 : C :=
 .loop (rest 26 [0, 8, 9, 10]) [] (.seq (.reg [⟨some 11, .bin .lss (.t 10) (.t 9), none⟩])
 (.seq (.cond (.t 11) (.skip) (.exit 0))
 (.seq (.blk 1 (.seq (.reg [⟨some 12, .mov (.t 10), none⟩,
    ⟨some 13, .iad 1 (.t 8) (.t 10), none⟩,
    ⟨some 14, .ld false 1 (.t 13), none⟩,
    ⟨some 3, .mov (.t 12), none⟩,
    ⟨some 4, .mov (.t 14), none⟩])
  (.seq (.reg [⟨some 15, .mov (.t 4), none⟩,
    ⟨some 16, .call f_act_Name [(.t 15)] [], none⟩,
    ⟨some 17, .un .not (.t 16), none⟩,
    ⟨some 18, .mov (.t 17), none⟩,
    ⟨some 19, .mov (.t 0), some (18, false)⟩,
    ⟨some 20, .mov (.t 3), some (18, false)⟩,
    ⟨some 21, .sli 1 (.t 19) none (some (.t 20)) none, some (18, false)⟩,
    ⟨some 22, .mov (.t 4), some (18, false)⟩,
    ⟨some 23, .call f_slices_Contains___string_string_ [(.t 21), (.t 22)] [], some (18, false)⟩,
    ⟨some 24, .pick (.t 18) (.c (.bool true)) (.t 23), none⟩])
  (.cond (.t 24) (.seq (.reg [⟨some 2, .mov (.c (.bool false)), none⟩])
   (.ret)) (.skip)))))
 (.reg [⟨some 25, .bin .add (.t 10) (.c (.int .i64 1)), none⟩,
    ⟨some 10, .mov (.t 25), none⟩]))))
def c_act_Valid : C :=
 .seq (.reg [⟨some 2, .mov (.c (.bool false)), none⟩])
 (.seq (.seq (.reg [⟨some 5, .mov (.t 0), none⟩,
    ⟨some 6, .lenl (.t 5), none⟩,
    ⟨some 7, .bin .gtr (.t 6) (.c (.int .i64 8)), none⟩])
 (.cond (.t 7) (.seq (.reg [⟨some 2, .mov (.c (.bool false)), none⟩])
  (.ret)) (.skip)))
 (.seq (.seq (.reg [⟨some 8, .mov (.t 0), none⟩,
    ⟨some 9, .lenl (.t 8), none⟩,
    ⟨some 10, .mov (.c (.int .i64 0)), none⟩])
 (.blk 0 (l_act_Valid_0)))
 (.seq (.reg [⟨some 2, .mov (.c (.bool true)), none⟩])
 (.ret))))
def s_act_Valid : List Nat := []
def F_act_Valid : IF := ⟨1, 26, 0, c_act_Valid, [(2, none)], true, false, false⟩

def l_makeweightref16_choices_0 : C :=
 .loop (rest 53 [0, 1, 2, 9, 10, 11]) [0] (.seq (.reg [⟨some 12, .bin .lss (.t 11) (.t 10), none⟩])
 (.seq (.cond (.t 12) (.skip) (.exit 0))
 (.seq (.blk 1 (.seq (.reg [⟨some 13, .mov (.t 11), none⟩,
    ⟨some 14, .iad 2 (.t 9) (.t 11), none⟩,
    ⟨some 15, .ld true 2 (.t 14), none⟩,
    ⟨some 8, .alc 0 2 (.agg [(.int .i64 0), (.int .i64 0)]), none⟩,
    ⟨some 7, .mov (.t 13), none⟩,
    ⟨none, .sto 2 (.t 8) (.t 15), none⟩])
  (.seq (.drw [⟨some 16, .fad 0 (.t 8), none⟩,
    ⟨some 17, .ld false 1 (.t 16), none⟩,
    ⟨some 18, .bin .lss (.t 17) (.c (.int .i64 0)), none⟩,
    ⟨some 19, .mov (.t 18), none⟩,
    ⟨some 20, .fad 0 (.t 8), some (19, false)⟩,
    ⟨some 21, .ld false 1 (.t 20), some (19, false)⟩,
    ⟨some 22, .mov (.t 1), some (19, false)⟩,
    ⟨some 23, .bin .geq (.t 21) (.t 22), some (19, false)⟩,
    ⟨some 24, .pick (.t 19) (.c (.bool true)) (.t 23), none⟩,
    ⟨some 25, .mov (.t 24), none⟩,
    ⟨some 26, .fad 1 (.t 8), some (25, false)⟩,
    ⟨some 27, .ld false 1 (.t 26), some (25, false)⟩,
    ⟨some 28, .bin .lss (.t 27) (.c (.int .i64 1)), some (25, false)⟩,
    ⟨some 29, .pick (.t 25) (.c (.bool true)) (.t 28), none⟩,
    ⟨some 30, .mov (.t 29), none⟩,
    ⟨some 31, .fad 1 (.t 8), some (30, false)⟩,
    ⟨some 32, .ld false 1 (.t 31), some (30, false)⟩,
    ⟨some 33, .mov (.t 2), some (30, false)⟩,
    ⟨some 34, .bin .shl (.c (.int .i64 1)) (.t 33), some (30, false)⟩,
    ⟨some 35, .bin .geq (.t 32) (.t 34), some (30, false)⟩,
    ⟨some 36, .pick (.t 30) (.c (.bool true)) (.t 35), none⟩,
    ⟨some 37, .mov (.t 36), none⟩,
    ⟨some 38, .mov (.t 7), some (37, false)⟩,
    ⟨some 39, .bin .gtr (.t 38) (.c (.int .i64 0)), some (37, false)⟩,
    ⟨some 40, .mov (.t 39), some (37, false)⟩,
    ⟨some 41, .mov (.t 0), some (40, true)⟩,
    ⟨some 42, .mov (.t 7), some (40, true)⟩,
    ⟨some 43, .bin .sub (.t 42) (.c (.int .i64 1)), some (40, true)⟩,
    ⟨some 44, .iad 2 (.t 41) (.t 43), some (40, true)⟩,
    ⟨some 45, .fad 0 (.t 44), some (40, true)⟩,
    ⟨some 46, .ld false 1 (.t 45), some (40, true)⟩,
    ⟨some 47, .fad 0 (.t 8), some (40, true)⟩,
    ⟨some 48, .ld false 1 (.t 47), some (40, true)⟩,
    ⟨some 49, .bin .geq (.t 46) (.t 48), some (40, true)⟩,
    ⟨some 50, .pick (.t 40) (.t 49) (.c (.bool false)), some (37, false)⟩,
    ⟨some 51, .pick (.t 37) (.c (.bool true)) (.t 50), none⟩] [])
  (.cond (.t 51) (.seq (.reg [⟨some 6, .mov (.c (.bool false)), none⟩])
   (.ret)) (.skip)))))
 (.reg [⟨some 52, .bin .add (.t 11) (.c (.int .i64 1)), none⟩,
    ⟨some 11, .mov (.t 52), none⟩]))))
def c_makeweightref16_choices : C :=
 .seq (.reg [⟨some 6, .mov (.c (.bool false)), none⟩])
 (.seq (.seq (.reg [⟨some 9, .mov (.t 0), none⟩,
    ⟨some 10, .lenl (.t 9), none⟩,
    ⟨some 11, .mov (.c (.int .i64 0)), none⟩])
 (.blk 0 (l_makeweightref16_choices_0)))
 (.seq (.reg [⟨some 6, .mov (.c (.bool true)), none⟩])
 (.ret)))
def s_makeweightref16_choices : List Nat := [8]
def F_makeweightref16_choices : IF := ⟨3, 53, 1, c_makeweightref16_choices, [(6, none)], true, false, false⟩

def l_makeweightref01_List_0 : C :=
 .loop (rest 20 [1, 5, 7, 8]) [0] (.seq (.reg [⟨some 9, .bin .lss (.t 8) (.t 7), none⟩])
 (.seq (.cond (.t 9) (.skip) (.exit 0))
 (.seq (.blk 1 (.seq (.reg [⟨some 10, .mov (.t 8), none⟩,
    ⟨some 6, .mov (.t 10), none⟩])
  (.seq (.reg [⟨some 11, .mov (.t 1), none⟩,
    ⟨some 12, .mov (.t 6), none⟩,
    ⟨some 13, .call f_makeweightref01_Has [(.t 11), (.t 12)] [], none⟩])
  (.cond (.t 13) (.reg [⟨some 14, .mov (.t 5), none⟩,
    ⟨some 15, .mov (.t 6), none⟩,
    ⟨some 16, .bsl 0 1 1 [(.t 15)], none⟩,
    ⟨some 17, .app 1 1 8 (.t 14) (.t 16), none⟩,
    ⟨some 5, .mov (.t 17), none⟩]) (.skip)))))
 (.reg [⟨some 18, .bin .add (.t 8) (.c (.int .i64 1)), none⟩,
    ⟨some 8, .mov (.t 18), none⟩]))))
def c_makeweightref01_List : C :=
 .seq (.reg [⟨some 4, .mov (.c .nils), none⟩])
 (.seq (.reg [⟨some 5, .mov (.c .nils), none⟩])
 (.seq (.seq (.reg [⟨some 7, .mov (.t 0), none⟩,
    ⟨some 8, .mov (.c (.int .i64 0)), none⟩])
 (.blk 0 (l_makeweightref01_List_0)))
 (.seq (.reg [⟨some 19, .mov (.t 5), none⟩,
    ⟨some 4, .mov (.t 19), none⟩])
 (.ret))))
def s_makeweightref01_List : List Nat := [16, 17]
def F_makeweightref01_List : IF := ⟨2, 20, 2, c_makeweightref01_List, [(4, none)], true, false, false⟩

def l_makeweightref04_allFall_0 : C :=
 .loop (rest 20 [1, 2, 8, 9, 10]) [] (.seq (.reg [⟨some 11, .bin .lss (.t 10) (.t 9), none⟩])
 (.seq (.cond (.t 11) (.skip) (.exit 0))
 (.seq (.blk 1 (.seq (.reg [⟨some 12, .iad 1 (.t 8) (.t 10), none⟩,
    ⟨some 13, .ld false 1 (.t 12), none⟩,
    ⟨some 6, .mov (.t 13), none⟩])
  (.seq (.reg [⟨some 14, .ld true 2 (.t 2), none⟩,
    ⟨some 15, .mov (.t 6), none⟩,
    ⟨some 16, .mov (.t 1), none⟩,
    ⟨some 17, .call f_makeweightref04_falls [(.t 14), (.t 15), (.t 16)] [], none⟩,
    ⟨some 18, .un .not (.t 17), none⟩])
  (.cond (.t 18) (.seq (.reg [⟨some 4, .mov (.c (.bool false)), none⟩])
   (.ret)) (.skip)))))
 (.reg [⟨some 19, .bin .add (.t 10) (.c (.int .i64 1)), none⟩,
    ⟨some 10, .mov (.t 19), none⟩]))))
def c_makeweightref04_allFall : C :=
 .seq (.reg [⟨some 2, .box 0 2 (.t 0), none⟩,
    ⟨some 4, .mov (.c (.bool false)), none⟩])
 (.seq (.seq (.reg [⟨some 7, .fad 0 (.t 2), none⟩,
    ⟨some 8, .ld false 1 (.t 7), none⟩,
    ⟨some 9, .lenl (.t 8), none⟩,
    ⟨some 10, .mov (.c (.int .i64 0)), none⟩])
 (.blk 0 (l_makeweightref04_allFall_0)))
 (.seq (.reg [⟨some 4, .mov (.c (.bool true)), none⟩])
 (.ret)))
def s_makeweightref04_allFall : List Nat := [2]
def F_makeweightref04_allFall : IF := ⟨2, 20, 1, c_makeweightref04_allFall, [(4, none)], true, false, false⟩

def l_makeweightref03_Reach_0 : C :=
 .loop (rest 136 [2, 3, 7, 26, 27]) [3] (.seq (.reg [⟨some 28, .bin .lss (.t 27) (.t 26), none⟩])
 (.seq (.cond (.t 28) (.skip) (.exit 0))
 (.seq (.blk 1 (.seq (.reg [⟨some 29, .mov (.t 27), none⟩,
    ⟨some 8, .mov (.t 29), none⟩])
  (.reg [⟨some 30, .mov (.t 7), none⟩,
    ⟨some 31, .mov (.t 8), none⟩,
    ⟨some 32, .fad 1 (.t 3), none⟩,
    ⟨some 33, .ld false 1 (.t 32), none⟩,
    ⟨some 34, .lenl (.t 33), none⟩,
    ⟨some 35, .mks 3 1 1 (.bool false) (.t 34) (.t 34), none⟩,
    ⟨some 36, .iad 1 (.t 30) (.t 31), none⟩,
    ⟨none, .sto 1 (.t 36) (.t 35), none⟩])))
 (.reg [⟨some 37, .bin .add (.t 27) (.c (.int .i64 1)), none⟩,
    ⟨some 27, .mov (.t 37), none⟩]))))
def l_makeweightref03_Reach_6 : C :=
 .loop (rest 136 [2, 3, 7, 10, 11, 13, 49, 50, 51, 66, 67, 68]) [6, 7, 8] (.seq (.reg [⟨some 69, .bin .lss (.t 68) (.t 67), none⟩])
 (.seq (.cond (.t 69) (.skip) (.exit 6))
 (.seq (.blk 7 (.seq (.reg [⟨some 70, .iad 2 (.t 66) (.t 68), none⟩,
    ⟨some 71, .ld true 2 (.t 70), none⟩,
    ⟨some 15, .alc 6 2 (.agg [(.int .i64 0), (.int .i64 0)]), none⟩,
    ⟨none, .sto 2 (.t 15) (.t 71), none⟩])
  (.seq (.drw [⟨some 72, .fad 1 (.t 15), none⟩,
    ⟨some 73, .ld false 1 (.t 72), none⟩,
    ⟨some 74, .fad 1 (.t 3), none⟩,
    ⟨some 75, .ld false 1 (.t 74), none⟩,
    ⟨some 76, .iaa 2 1 (.t 13) (.c (.int .i64 1)), none⟩,
    ⟨some 77, .ld false 1 (.t 76), none⟩,
    ⟨some 78, .iad 2 (.t 75) (.t 77), none⟩,
    ⟨some 79, .fad 1 (.t 78), none⟩,
    ⟨some 80, .ld false 1 (.t 79), none⟩,
    ⟨some 81, .fad 0 (.t 15), none⟩,
    ⟨some 82, .ld false 1 (.t 81), none⟩,
    ⟨some 83, .iad 1 (.t 80) (.t 82), none⟩,
    ⟨some 84, .ld false 1 (.t 83), none⟩,
    ⟨some 85, .bld [(.int .i64 0), (.int .i64 0)] [(0, 1, (.t 73)), (1, 1, (.t 84))], none⟩,
    ⟨some 16, .alc 7 2 (.agg [(.int .i64 0), (.int .i64 0)]), none⟩,
    ⟨none, .sto 2 (.t 16) (.t 85), none⟩] [(0, 14), (1, 14), (2, 14), (3, 14), (4, 14), (5, 14), (6, 14), (7, 14), (8, 14), (9, 14), (10, 14), (11, 14), (12, 14), (13, 14)])
  (.seq (.drw [⟨some 86, .mov (.t 7), none⟩,
    ⟨some 87, .iaa 2 1 (.t 16) (.c (.int .i64 0)), none⟩,
    ⟨some 88, .ld false 1 (.t 87), none⟩,
    ⟨some 89, .iad 1 (.t 86) (.t 88), none⟩,
    ⟨some 90, .ld false 1 (.t 89), none⟩,
    ⟨some 91, .iaa 2 1 (.t 16) (.c (.int .i64 1)), none⟩,
    ⟨some 92, .ld false 1 (.t 91), none⟩,
    ⟨some 93, .iad 1 (.t 90) (.t 92), none⟩,
    ⟨some 94, .ld false 1 (.t 93), none⟩,
    ⟨some 95, .un .not (.t 94), none⟩] [])
  (.cond (.t 95) (.seq (.drw [⟨some 96, .mov (.t 7), none⟩,
    ⟨some 97, .iaa 2 1 (.t 16) (.c (.int .i64 0)), none⟩,
    ⟨some 98, .ld false 1 (.t 97), none⟩,
    ⟨some 99, .iad 1 (.t 96) (.t 98), none⟩,
    ⟨some 100, .ld false 1 (.t 99), none⟩,
    ⟨some 101, .iaa 2 1 (.t 16) (.c (.int .i64 1)), none⟩,
    ⟨some 102, .ld false 1 (.t 101), none⟩,
    ⟨some 103, .iad 1 (.t 100) (.t 102), none⟩,
    ⟨none, .sto 1 (.t 103) (.c (.bool true)), none⟩] [])
   (.reg [⟨some 104, .mov (.t 11), none⟩,
    ⟨some 105, .ld true 2 (.t 16), none⟩,
    ⟨some 106, .bsl 8 2 1 [(.t 105)], none⟩,
    ⟨some 107, .app 9 2 16 (.t 104) (.t 106), none⟩,
    ⟨some 11, .mov (.t 107), none⟩])) (.skip))))))
 (.reg [⟨some 108, .bin .add (.t 68) (.c (.int .i64 1)), none⟩,
    ⟨some 68, .mov (.t 108), none⟩]))))
def l_makeweightref03_Reach_4 : C :=
 .loop (rest 136 [2, 3, 7, 10, 11, 49, 50, 51]) [5, 6, 7, 8] (.seq (.reg [⟨some 52, .bin .lss (.t 51) (.t 50), none⟩])
 (.seq (.cond (.t 52) (.skip) (.exit 4))
 (.seq (.blk 5 (.seq (.reg [⟨some 53, .iad 2 (.t 49) (.t 51), none⟩,
    ⟨some 54, .ld true 2 (.t 53), none⟩,
    ⟨some 13, .alc 5 2 (.agg [(.int .i64 0), (.int .i64 0)]), none⟩,
    ⟨none, .sto 2 (.t 13) (.t 54), none⟩])
  (.seq (.seq (.reg [⟨some 55, .ld true 2 (.t 2), none⟩,
    ⟨some 56, .ld true 2 (.t 3), none⟩,
    ⟨some 57, .ld true 2 (.t 13), none⟩,
    ⟨some 58, .call f_makeweightref03_good [(.t 55), (.t 56), (.t 57)] [], none⟩,
    ⟨some 59, .un .not (.t 58), none⟩])
  (.cond (.t 59) (.seq (.reg [⟨some 60, .mov (.t 10), none⟩,
    ⟨some 4, .mov (.c .nils), none⟩,
    ⟨some 5, .mov (.t 60), none⟩,
    ⟨some 6, .mov (.c (.bool false)), none⟩])
   (.ret)) (.skip)))
  (.seq (.reg [⟨some 61, .fad 1 (.t 2), none⟩,
    ⟨some 62, .ld false 1 (.t 61), none⟩,
    ⟨some 63, .iaa 2 1 (.t 13) (.c (.int .i64 0)), none⟩,
    ⟨some 64, .ld false 1 (.t 63), none⟩,
    ⟨some 65, .iad 1 (.t 62) (.t 64), none⟩,
    ⟨some 66, .ld false 1 (.t 65), none⟩,
    ⟨some 67, .lenl (.t 66), none⟩,
    ⟨some 68, .mov (.c (.int .i64 0)), none⟩])
  (.blk 6 (l_makeweightref03_Reach_6))))))
 (.reg [⟨some 109, .bin .add (.t 51) (.c (.int .i64 1)), none⟩,
    ⟨some 51, .mov (.t 109), none⟩]))))
def l_makeweightref03_Reach_2 : C :=
 .loop (rest 136 [2, 3, 7, 9, 10]) [5, 6, 7, 8] (.frzt 9 (.seq (.seq (.reg [⟨some 44, .mov (.t 9), none⟩,
    ⟨some 45, .lenl (.t 44), none⟩,
    ⟨some 46, .bin .gtr (.t 45) (.c (.int .i64 0)), none⟩])
 (.cond (.t 46) (.skip) (.exit 2)))
 (.seq (.blk 3 (.seq (.reg [⟨some 11, .mov (.c .nils), none⟩])
  (.seq (.seq (.reg [⟨some 49, .mov (.t 9), none⟩,
    ⟨some 50, .lenl (.t 49), none⟩,
    ⟨some 51, .mov (.c (.int .i64 0)), none⟩])
  (.blk 4 (l_makeweightref03_Reach_4)))
  (.reg [⟨some 110, .mov (.t 11), none⟩,
    ⟨some 9, .mov (.t 110), none⟩]))))
 (.reg [⟨some 47, .mov (.t 10), none⟩,
    ⟨some 48, .bin .add (.t 47) (.c (.int .i64 1)), none⟩,
    ⟨some 10, .mov (.t 48), none⟩]))))
def l_makeweightref03_Reach_10 : C :=
 .loop (rest 136 [7, 17, 18, 112, 113, 119, 120, 121]) [10] (.seq (.reg [⟨some 122, .bin .lss (.t 121) (.t 120), none⟩])
 (.seq (.cond (.t 122) (.skip) (.exit 10))
 (.seq (.blk 11 (.seq (.reg [⟨some 123, .mov (.t 121), none⟩,
    ⟨some 124, .iad 1 (.t 119) (.t 121), none⟩,
    ⟨some 125, .ld false 1 (.t 124), none⟩,
    ⟨some 19, .mov (.t 123), none⟩,
    ⟨some 20, .mov (.t 125), none⟩])
  (.seq (.reg [⟨some 126, .mov (.t 20), none⟩])
  (.cond (.t 126) (.reg [⟨some 127, .mov (.t 17), none⟩,
    ⟨some 128, .mov (.t 18), none⟩,
    ⟨some 129, .mov (.t 19), none⟩,
    ⟨some 130, .bld [(.int .i64 0), (.int .i64 0)] [(0, 1, (.t 128)), (1, 1, (.t 129))], none⟩,
    ⟨some 131, .bsl 10 2 1 [(.t 130)], none⟩,
    ⟨some 132, .app 11 2 16 (.t 127) (.t 131), none⟩,
    ⟨some 17, .mov (.t 132), none⟩]) (.skip)))))
 (.reg [⟨some 133, .bin .add (.t 121) (.c (.int .i64 1)), none⟩,
    ⟨some 121, .mov (.t 133), none⟩]))))
def l_makeweightref03_Reach_8 : C :=
 .loop (rest 136 [7, 17, 112, 113]) [10] (.seq (.reg [⟨some 114, .bin .lss (.t 113) (.t 112), none⟩])
 (.seq (.cond (.t 114) (.skip) (.exit 8))
 (.seq (.blk 9 (.seq (.reg [⟨some 115, .mov (.t 113), none⟩,
    ⟨some 18, .mov (.t 115), none⟩])
  (.seq (.reg [⟨some 116, .mov (.t 7), none⟩,
    ⟨some 117, .mov (.t 18), none⟩,
    ⟨some 118, .iad 1 (.t 116) (.t 117), none⟩,
    ⟨some 119, .ld false 1 (.t 118), none⟩,
    ⟨some 120, .lenl (.t 119), none⟩,
    ⟨some 121, .mov (.c (.int .i64 0)), none⟩])
  (.blk 10 (l_makeweightref03_Reach_10)))))
 (.reg [⟨some 134, .bin .add (.t 113) (.c (.int .i64 1)), none⟩,
    ⟨some 113, .mov (.t 134), none⟩]))))
def c_makeweightref03_Reach : C :=
 .seq (.reg [⟨some 2, .box 0 2 (.t 0), none⟩,
    ⟨some 3, .box 1 2 (.t 1), none⟩,
    ⟨some 4, .mov (.c .nils), none⟩,
    ⟨some 5, .mov (.c (.int .i64 0)), none⟩,
    ⟨some 6, .mov (.c (.bool false)), none⟩])
 (.seq (.reg [⟨some 21, .fad 1 (.t 2), none⟩,
    ⟨some 22, .ld false 1 (.t 21), none⟩,
    ⟨some 23, .lenl (.t 22), none⟩,
    ⟨some 24, .mks 2 1 24 .nils (.t 23) (.t 23), none⟩,
    ⟨some 7, .mov (.t 24), none⟩])
 (.seq (.seq (.reg [⟨some 25, .mov (.t 7), none⟩,
    ⟨some 26, .lenl (.t 25), none⟩,
    ⟨some 27, .mov (.c (.int .i64 0)), none⟩])
 (.blk 0 (l_makeweightref03_Reach_0)))
 (.seq (.reg [⟨some 38, .mov (.t 7), none⟩,
    ⟨some 39, .iad 1 (.t 38) (.c (.int .i64 0)), none⟩,
    ⟨some 40, .ld false 1 (.t 39), none⟩,
    ⟨some 41, .iad 1 (.t 40) (.c (.int .i64 0)), none⟩,
    ⟨none, .sto 1 (.t 41) (.c (.bool true)), none⟩])
 (.seq (.reg [⟨some 42, .bld [(.int .i64 0), (.int .i64 0)] [(0, 1, (.c (.int .i64 0))), (1, 1, (.c (.int .i64 0)))], none⟩,
    ⟨some 43, .bsl 4 2 1 [(.t 42)], none⟩,
    ⟨some 9, .mov (.t 43), none⟩])
 (.seq (.seq (.reg [⟨some 10, .mov (.c (.int .i64 0)), none⟩])
 (.blk 2 (l_makeweightref03_Reach_2)))
 (.seq (.reg [⟨some 17, .mov (.c .nils), none⟩])
 (.seq (.seq (.reg [⟨some 111, .mov (.t 7), none⟩,
    ⟨some 112, .lenl (.t 111), none⟩,
    ⟨some 113, .mov (.c (.int .i64 0)), none⟩])
 (.blk 8 (l_makeweightref03_Reach_8)))
 (.seq (.reg [⟨some 135, .mov (.t 17), none⟩,
    ⟨some 4, .mov (.t 135), none⟩,
    ⟨some 5, .mov (.c (.int .i64 0)), none⟩,
    ⟨some 6, .mov (.c (.bool true)), none⟩])
 (.ret)))))))))
def s_makeweightref03_Reach : List Nat := [2, 3, 24, 35, 43, 13, 15, 16, 106, 107, 131, 132]
def F_makeweightref03_Reach : IF := ⟨2, 136, 12, c_makeweightref03_Reach, [(4, none), (5, none), (6, none)], true, false, false⟩

def c_system_order : C :=
 .seq (.reg [⟨some 2, .box 0 2 (.t 0), none⟩,
    ⟨some 3, .box 1 2 (.t 1), none⟩,
    ⟨some 4, .mov (.c (.int .i64 0)), none⟩])
 (.seq (.seq (.reg [⟨some 5, .fad 0 (.t 2), none⟩,
    ⟨some 6, .ld false 1 (.t 5), none⟩,
    ⟨some 7, .fad 0 (.t 3), none⟩,
    ⟨some 8, .ld false 1 (.t 7), none⟩,
    ⟨some 9, .bin .neq (.t 6) (.t 8), none⟩])
 (.cond (.t 9) (.seq (.reg [⟨some 10, .fad 0 (.t 2), none⟩,
    ⟨some 11, .ld false 1 (.t 10), none⟩,
    ⟨some 12, .fad 0 (.t 3), none⟩,
    ⟨some 13, .ld false 1 (.t 12), none⟩,
    ⟨some 14, .bin .sub (.t 11) (.t 13), none⟩,
    ⟨some 4, .mov (.t 14), none⟩])
  (.ret)) (.skip)))
 (.seq (.reg [⟨some 15, .fad 1 (.t 2), none⟩,
    ⟨some 16, .ld false 1 (.t 15), none⟩,
    ⟨some 17, .fad 1 (.t 3), none⟩,
    ⟨some 18, .ld false 1 (.t 17), none⟩,
    ⟨some 19, .bin .sub (.t 16) (.t 18), none⟩,
    ⟨some 4, .mov (.t 19), none⟩])
 (.ret)))
def s_system_order : List Nat := [2, 3]
def F_system_order : IF := ⟨2, 20, 2, c_system_order, [(4, none)], true, false, false⟩

def l_family_choices_0 : C :=
 .loop (rest 48 [0, 1, 2, 9, 10, 11]) [0] (.seq (.reg [⟨some 12, .bin .lss (.t 11) (.t 10), none⟩])
 (.seq (.cond (.t 12) (.skip) (.exit 0))
 (.seq (.blk 1 (.seq (.reg [⟨some 13, .mov (.t 11), none⟩,
    ⟨some 14, .iad 2 (.t 9) (.t 11), none⟩,
    ⟨some 15, .ld true 2 (.t 14), none⟩,
    ⟨some 8, .alc 0 2 (.agg [(.int .i64 0), (.int .i64 0)]), none⟩,
    ⟨some 7, .mov (.t 13), none⟩,
    ⟨none, .sto 2 (.t 8) (.t 15), none⟩])
  (.seq (.drw [⟨some 16, .mov (.t 2), none⟩,
    ⟨some 17, .fad 0 (.t 8), none⟩,
    ⟨some 18, .ld false 1 (.t 17), none⟩,
    ⟨some 19, .calv (.t 16) [(.t 18)] [], none⟩,
    ⟨some 20, .un .not (.t 19), none⟩,
    ⟨some 21, .mov (.t 20), none⟩,
    ⟨some 22, .fad 1 (.t 8), some (21, false)⟩,
    ⟨some 23, .ld false 1 (.t 22), some (21, false)⟩,
    ⟨some 24, .bin .lss (.t 23) (.c (.int .i64 1)), some (21, false)⟩,
    ⟨some 25, .pick (.t 21) (.c (.bool true)) (.t 24), none⟩,
    ⟨some 26, .mov (.t 25), none⟩,
    ⟨some 27, .fad 1 (.t 8), some (26, false)⟩,
    ⟨some 28, .ld false 1 (.t 27), some (26, false)⟩,
    ⟨some 29, .mov (.t 1), some (26, false)⟩,
    ⟨some 30, .bin .geq (.t 28) (.t 29), some (26, false)⟩,
    ⟨some 31, .pick (.t 26) (.c (.bool true)) (.t 30), none⟩,
    ⟨some 32, .mov (.t 31), none⟩,
    ⟨some 33, .mov (.t 7), some (32, false)⟩,
    ⟨some 34, .bin .gtr (.t 33) (.c (.int .i64 0)), some (32, false)⟩,
    ⟨some 35, .mov (.t 34), some (32, false)⟩,
    ⟨some 36, .mov (.t 0), some (35, true)⟩,
    ⟨some 37, .mov (.t 7), some (35, true)⟩,
    ⟨some 38, .bin .sub (.t 37) (.c (.int .i64 1)), some (35, true)⟩,
    ⟨some 39, .iad 2 (.t 36) (.t 38), some (35, true)⟩,
    ⟨some 40, .fad 0 (.t 39), some (35, true)⟩,
    ⟨some 41, .ld false 1 (.t 40), some (35, true)⟩,
    ⟨some 42, .fad 0 (.t 8), some (35, true)⟩,
    ⟨some 43, .ld false 1 (.t 42), some (35, true)⟩,
    ⟨some 44, .bin .geq (.t 41) (.t 43), some (35, true)⟩,
    ⟨some 45, .pick (.t 35) (.t 44) (.c (.bool false)), some (32, false)⟩,
    ⟨some 46, .pick (.t 32) (.c (.bool true)) (.t 45), none⟩] [])
  (.cond (.t 46) (.seq (.reg [⟨some 6, .mov (.c (.bool false)), none⟩])
   (.ret)) (.skip)))))
 (.reg [⟨some 47, .bin .add (.t 11) (.c (.int .i64 1)), none⟩,
    ⟨some 11, .mov (.t 47), none⟩]))))
def c_family_choices : C :=
 .seq (.reg [⟨some 6, .mov (.c (.bool false)), none⟩])
 (.seq (.seq (.reg [⟨some 9, .mov (.t 0), none⟩,
    ⟨some 10, .lenl (.t 9), none⟩,
    ⟨some 11, .mov (.c (.int .i64 0)), none⟩])
 (.blk 0 (l_family_choices_0)))
 (.seq (.reg [⟨some 6, .mov (.c (.bool true)), none⟩])
 (.ret)))
def s_family_choices : List Nat := [8]
def F_family_choices : IF := ⟨3, 48, 1, c_family_choices, [(6, none)], true, false, false⟩

def c_family_Valid_1 : C :=
 .seq (.reg [⟨some 3, .mov (.c (.bool false)), none⟩])
 (.seq (.reg [⟨some 4, .fad 0 (.t 1), none⟩,
    ⟨some 5, .ld false 1 (.t 4), none⟩,
    ⟨some 6, .lenl (.t 5), none⟩,
    ⟨some 7, .mov (.t 0), none⟩,
    ⟨some 8, .call f_act_Is [(.t 6), (.t 7)] [], none⟩,
    ⟨some 3, .mov (.t 8), none⟩])
 (.ret))
def s_family_Valid_1 : List Nat := []
def F_family_Valid_1 : IF := ⟨2, 9, 0, c_family_Valid_1, [(3, none)], true, false, false⟩

def c_act_Is : C :=
 .seq (.reg [⟨some 4, .mov (.c (.bool false)), none⟩])
 (.seq (.reg [⟨some 5, .mov (.t 1), none⟩,
    ⟨some 6, .bin .geq (.t 5) (.c (.int .i64 0)), none⟩,
    ⟨some 7, .mov (.t 6), none⟩,
    ⟨some 8, .mov (.t 1), some (7, true)⟩,
    ⟨some 9, .mov (.t 0), some (7, true)⟩,
    ⟨some 10, .bin .shl (.c (.int .i64 1)) (.t 9), some (7, true)⟩,
    ⟨some 11, .bin .lss (.t 8) (.t 10), some (7, true)⟩,
    ⟨some 12, .pick (.t 7) (.t 11) (.c (.bool false)), none⟩,
    ⟨some 4, .mov (.t 12), none⟩])
 (.ret))
def s_act_Is : List Nat := []
def F_act_Is : IF := ⟨2, 13, 0, c_act_Is, [(4, none)], true, false, false⟩

def c_family_Valid_2 : C :=
 .seq (.reg [⟨some 3, .mov (.c (.bool false)), none⟩])
 (.seq (.reg [⟨some 4, .mov (.t 0), none⟩,
    ⟨some 5, .bin .geq (.t 4) (.c (.int .i64 0)), none⟩,
    ⟨some 6, .mov (.t 5), none⟩,
    ⟨some 7, .mov (.t 0), some (6, true)⟩,
    ⟨some 8, .ld false 1 (.t 1), some (6, true)⟩,
    ⟨some 9, .bin .lss (.t 7) (.t 8), some (6, true)⟩,
    ⟨some 10, .pick (.t 6) (.t 9) (.c (.bool false)), none⟩,
    ⟨some 3, .mov (.t 10), none⟩])
 (.ret))
def s_family_Valid_2 : List Nat := []
def F_family_Valid_2 : IF := ⟨2, 11, 0, c_family_Valid_2, [(3, none)], true, false, false⟩

def c_act_In : C :=
 .seq (.reg [⟨some 1, .box 0 1 (.t 0), none⟩,
    ⟨some 2, .mov (.c .nilf), none⟩])
 (.seq (.reg [⟨some 3, .mkf f_act_In_1 [(.t 1)], none⟩,
    ⟨some 2, .mov (.t 3), none⟩])
 (.ret))
def s_act_In : List Nat := [1]
def F_act_In : IF := ⟨1, 4, 1, c_act_In, [(2, none)], true, false, false⟩

def c__family_products__with : C :=
 .seq (.reg [⟨some 4, .mov (.c (.int .i64 0)), none⟩])
 (.seq (.reg [⟨some 5, .mov (.t 0), none⟩,
    ⟨some 6, .mov (.t 1), none⟩,
    ⟨some 7, .bin .shl (.c (.int .i64 1)) (.t 6), none⟩,
    ⟨some 8, .bin .or (.t 5) (.t 7), none⟩,
    ⟨some 4, .mov (.t 8), none⟩])
 (.ret))
def s__family_products__with : List Nat := []
def F__family_products__with : IF := ⟨2, 9, 0, c__family_products__with, [(4, none)], true, false, false⟩

def l_prune_rungs_2 : C :=
 .loop (rest 106 [1, 4, 5, 6, 7, 8, 26, 27, 28, 56, 57, 58]) [11, 12] (.seq (.reg [⟨some 59, .bin .lss (.t 58) (.t 57), none⟩])
 (.seq (.cond (.t 59) (.skip) (.exit 2))
 (.seq (.blk 3 (.seq (.reg [⟨some 60, .mov (.t 58), none⟩,
    ⟨some 61, .iad 1 (.t 56) (.t 58), none⟩,
    ⟨some 62, .ld false 1 (.t 61), none⟩,
    ⟨some 10, .mov (.t 60), none⟩,
    ⟨some 11, .mov (.t 62), none⟩])
  (.seq (.reg [⟨some 63, .mov (.t 11), none⟩,
    ⟨some 64, .bin .geq (.t 63) (.c (.int .i64 0)), none⟩])
  (.cond (.t 64) (.reg [⟨some 65, .mov (.t 6), none⟩,
    ⟨some 66, .mov (.t 11), none⟩,
    ⟨some 67, .mov (.t 6), none⟩,
    ⟨some 68, .mov (.t 11), none⟩,
    ⟨some 69, .iad 1 (.t 67) (.t 68), none⟩,
    ⟨some 70, .ld false 1 (.t 69), none⟩,
    ⟨some 71, .mov (.t 8), none⟩,
    ⟨some 72, .mov (.t 10), none⟩,
    ⟨some 73, .bld [(.int .i64 0), (.int .i64 0)] [(0, 1, (.t 71)), (1, 1, (.t 72))], none⟩,
    ⟨some 74, .bsl 11 2 1 [(.t 73)], none⟩,
    ⟨some 75, .app 12 2 16 (.t 70) (.t 74), none⟩,
    ⟨some 76, .iad 1 (.t 65) (.t 66), none⟩,
    ⟨none, .sto 1 (.t 76) (.t 75), none⟩]) (.skip)))))
 (.reg [⟨some 77, .bin .add (.t 58) (.c (.int .i64 1)), none⟩,
    ⟨some 58, .mov (.t 77), none⟩]))))
def l_prune_rungs_0 : C :=
 .loop (rest 106 [1, 4, 5, 6, 7, 26, 27, 28]) [7, 8, 9, 10, 11, 12] (.seq (.reg [⟨some 29, .bin .lss (.t 28) (.t 27), none⟩])
 (.seq (.cond (.t 29) (.skip) (.exit 0))
 (.seq (.blk 1 (.seq (.reg [⟨some 30, .mov (.t 28), none⟩,
    ⟨some 31, .iad 2 (.t 26) (.t 28), none⟩,
    ⟨some 32, .ld true 2 (.t 31), none⟩,
    ⟨some 9, .alc 7 2 (.agg [.nils, .nils]), none⟩,
    ⟨some 8, .mov (.t 30), none⟩,
    ⟨none, .sto 2 (.t 9) (.t 32), none⟩])
  (.seq (.drw [⟨some 33, .ld false 1 (.t 4), none⟩,
    ⟨some 34, .mov (.t 8), none⟩,
    ⟨some 35, .ld false 1 (.t 5), none⟩,
    ⟨some 36, .mov (.t 8), none⟩,
    ⟨some 37, .fad 0 (.t 9), none⟩,
    ⟨some 38, .ld false 1 (.t 37), none⟩,
    ⟨some 39, .lenl (.t 38), none⟩,
    ⟨some 40, .fad 0 (.t 9), none⟩,
    ⟨some 41, .ld false 1 (.t 40), none⟩,
    ⟨some 42, .lenl (.t 41), none⟩,
    ⟨some 43, .mks 8 1 1 (.bool false) (.t 42) (.t 42), none⟩,
    ⟨some 44, .iad 1 (.t 33) (.t 34), none⟩,
    ⟨none, .sto 1 (.t 44) (.t 39), none⟩,
    ⟨some 45, .iad 1 (.t 35) (.t 36), none⟩,
    ⟨none, .sto 1 (.t 45) (.t 43), none⟩] [(0, 10), (2, 10), (4, 10), (5, 10), (6, 10), (10, 11), (2, 12), (7, 12), (8, 12), (9, 12), (10, 12)])
  (.seq (.seq (.reg [⟨some 46, .ld false 1 (.t 4), none⟩,
    ⟨some 47, .mov (.t 8), none⟩,
    ⟨some 48, .iad 1 (.t 46) (.t 47), none⟩,
    ⟨some 49, .ld false 1 (.t 48), none⟩,
    ⟨some 50, .bin .eql (.t 49) (.c (.int .i64 0)), none⟩])
  (.cond (.t 50) (.reg [⟨some 51, .ld false 1 (.t 7), none⟩,
    ⟨some 52, .mov (.t 8), none⟩,
    ⟨some 53, .bsl 9 1 1 [(.t 52)], none⟩,
    ⟨some 54, .app 10 1 8 (.t 51) (.t 53), none⟩,
    ⟨none, .sto 1 (.t 7) (.t 54), none⟩]) (.skip)))
  (.seq (.reg [⟨some 55, .fad 1 (.t 9), none⟩,
    ⟨some 56, .ld false 1 (.t 55), none⟩,
    ⟨some 57, .lenl (.t 56), none⟩,
    ⟨some 58, .mov (.c (.int .i64 0)), none⟩])
  (.blk 2 (l_prune_rungs_2)))))))
 (.reg [⟨some 78, .bin .add (.t 28) (.c (.int .i64 1)), none⟩,
    ⟨some 28, .mov (.t 78), none⟩]))))
def l_prune_rungs_6 : C :=
 .loop (rest 106 [6, 7, 12, 13, 92, 93, 94]) [13] (.seq (.reg [⟨some 95, .bin .lss (.t 94) (.t 93), none⟩])
 (.seq (.cond (.t 95) (.skip) (.exit 6))
 (.seq (.blk 7 (.seq (.reg [⟨some 96, .iad 2 (.t 92) (.t 94), none⟩,
    ⟨some 97, .ld true 2 (.t 96), none⟩,
    ⟨some 15, .alc 13 2 (.agg [(.int .i64 0), (.int .i64 0)]), none⟩,
    ⟨none, .sto 2 (.t 15) (.t 97), none⟩])
  (.reg [⟨some 98, .mov (.t 12), none⟩,
    ⟨some 99, .iaa 2 1 (.t 15) (.c (.int .i64 0)), none⟩,
    ⟨some 100, .ld false 1 (.t 99), none⟩,
    ⟨some 101, .iaa 2 1 (.t 15) (.c (.int .i64 1)), none⟩,
    ⟨some 102, .ld false 1 (.t 101), none⟩,
    ⟨some 103, .calv (.t 98) [(.t 100), (.t 102)] [], none⟩])))
 (.reg [⟨some 104, .bin .add (.t 94) (.c (.int .i64 1)), none⟩,
    ⟨some 94, .mov (.t 104), none⟩]))))
def l_prune_rungs_4 : C :=
 .loop (rest 106 [6, 7, 12, 13]) [13] (.seq (.seq (.reg [⟨some 80, .mov (.t 13), none⟩,
    ⟨some 81, .ld false 1 (.t 7), none⟩,
    ⟨some 82, .lenl (.t 81), none⟩,
    ⟨some 83, .bin .lss (.t 80) (.t 82), none⟩])
 (.cond (.t 83) (.skip) (.exit 4)))
 (.seq (.blk 5 (.seq (.reg [⟨some 86, .mov (.t 6), none⟩,
    ⟨some 87, .ld false 1 (.t 7), none⟩,
    ⟨some 88, .mov (.t 13), none⟩,
    ⟨some 89, .iad 1 (.t 87) (.t 88), none⟩,
    ⟨some 90, .ld false 1 (.t 89), none⟩,
    ⟨some 91, .iad 1 (.t 86) (.t 90), none⟩,
    ⟨some 92, .ld false 1 (.t 91), none⟩,
    ⟨some 93, .lenl (.t 92), none⟩,
    ⟨some 94, .mov (.c (.int .i64 0)), none⟩])
  (.blk 6 (l_prune_rungs_6))))
 (.reg [⟨some 84, .mov (.t 13), none⟩,
    ⟨some 85, .bin .add (.t 84) (.c (.int .i64 1)), none⟩,
    ⟨some 13, .mov (.t 85), none⟩])))
def c_prune_rungs : C :=
 .seq (.reg [⟨some 1, .box 0 2 (.t 0), none⟩,
    ⟨some 2, .mov (.c .nils), none⟩])
 (.seq (.reg [⟨some 16, .fad 1 (.t 1), none⟩,
    ⟨some 17, .ld false 1 (.t 16), none⟩,
    ⟨some 18, .lenl (.t 17), none⟩,
    ⟨some 3, .mov (.t 18), none⟩])
 (.seq (.reg [⟨some 19, .mov (.t 3), none⟩,
    ⟨some 20, .mks 1 1 8 (.int .i64 0) (.t 19) (.t 19), none⟩,
    ⟨some 4, .alc 2 1 .nils, none⟩,
    ⟨none, .sto 1 (.t 4) (.t 20), none⟩])
 (.seq (.reg [⟨some 21, .mov (.t 3), none⟩,
    ⟨some 22, .mks 3 1 24 .nils (.t 21) (.t 21), none⟩,
    ⟨some 5, .alc 4 1 .nils, none⟩,
    ⟨none, .sto 1 (.t 5) (.t 22), none⟩])
 (.seq (.reg [⟨some 23, .mov (.t 3), none⟩,
    ⟨some 24, .mks 5 1 24 .nils (.t 23) (.t 23), none⟩,
    ⟨some 6, .mov (.t 24), none⟩])
 (.seq (.reg [⟨some 7, .alc 6 1 .nils, none⟩])
 (.seq (.seq (.reg [⟨some 25, .fad 1 (.t 1), none⟩,
    ⟨some 26, .ld false 1 (.t 25), none⟩,
    ⟨some 27, .lenl (.t 26), none⟩,
    ⟨some 28, .mov (.c (.int .i64 0)), none⟩])
 (.blk 0 (l_prune_rungs_0)))
 (.seq (.reg [⟨some 79, .mkf f_prune_rungs_1 [(.t 1), (.t 5), (.t 4), (.t 7)], none⟩,
    ⟨some 12, .mov (.t 79), none⟩])
 (.seq (.seq (.reg [⟨some 13, .mov (.c (.int .i64 0)), none⟩])
 (.blk 4 (l_prune_rungs_4)))
 (.seq (.reg [⟨some 105, .ld false 1 (.t 7), none⟩,
    ⟨some 2, .mov (.t 105), none⟩])
 (.ret))))))))))
def s_prune_rungs : List Nat := [1, 20, 4, 22, 5, 24, 7, 9, 43, 53, 54, 74, 75, 15]
def F_prune_rungs : IF := ⟨1, 106, 14, c_prune_rungs, [(2, none)], true, false, false⟩

def c_family_chosen : C :=
 .seq (.reg [⟨some 3, .box 0 1 (.t 1), none⟩,
    ⟨some 4, .mov (.c (.int .i64 0)), none⟩,
    ⟨some 5, .mov (.c (.bool false)), none⟩])
 (.seq (.reg [⟨some 7, .mov (.t 0), none⟩,
    ⟨some 8, .mkf f_family_chosen_1 [(.t 3)], none⟩,
    ⟨some 9, .call f_slices_IndexFunc___api_Choice_api_Choice_ [(.t 7), (.t 8)] [], none⟩,
    ⟨some 6, .mov (.t 9), none⟩])
 (.seq (.seq (.reg [⟨some 10, .mov (.t 6), none⟩,
    ⟨some 11, .bin .lss (.t 10) (.c (.int .i64 0)), none⟩])
 (.cond (.t 11) (.seq (.reg [⟨some 4, .mov (.c (.int .i64 0)), none⟩,
    ⟨some 5, .mov (.c (.bool false)), none⟩])
  (.ret)) (.skip)))
 (.seq (.reg [⟨some 12, .mov (.t 0), none⟩,
    ⟨some 13, .mov (.t 6), none⟩,
    ⟨some 14, .iad 2 (.t 12) (.t 13), none⟩,
    ⟨some 15, .fad 0 (.t 14), none⟩,
    ⟨some 16, .ld false 1 (.t 15), none⟩,
    ⟨some 4, .mov (.t 16), none⟩,
    ⟨some 5, .mov (.c (.bool true)), none⟩])
 (.ret))))
def s_family_chosen : List Nat := [3]
def F_family_chosen : IF := ⟨2, 17, 1, c_family_chosen, [(4, none), (5, none)], true, false, false⟩

def c_makeweightref01_Has : C :=
 .seq (.reg [⟨some 4, .mov (.c (.bool false)), none⟩])
 (.seq (.reg [⟨some 5, .mov (.t 0), none⟩,
    ⟨some 6, .mov (.t 1), none⟩,
    ⟨some 7, .bin .shr (.t 5) (.t 6), none⟩,
    ⟨some 8, .bin .and (.t 7) (.c (.int .i64 1)), none⟩,
    ⟨some 9, .bin .eql (.t 8) (.c (.int .i64 1)), none⟩,
    ⟨some 4, .mov (.t 9), none⟩])
 (.ret))
def s_makeweightref01_Has : List Nat := []
def F_makeweightref01_Has : IF := ⟨2, 10, 0, c_makeweightref01_Has, [(4, none)], true, false, false⟩

def c_makeweightref01_letter : C :=
 .seq (.reg [⟨some 2, .mov (.c (.bool false)), none⟩])
 (.seq (.reg [⟨some 3, .mov (.t 0), none⟩,
    ⟨some 4, .bin .geq (.t 3) (.c (.int .u8 97)), none⟩,
    ⟨some 5, .mov (.t 4), none⟩,
    ⟨some 6, .mov (.t 0), some (5, true)⟩,
    ⟨some 7, .bin .leq (.t 6) (.c (.int .u8 122)), some (5, true)⟩,
    ⟨some 8, .pick (.t 5) (.t 7) (.c (.bool false)), none⟩,
    ⟨some 9, .mov (.t 8), none⟩,
    ⟨some 10, .mov (.t 0), some (9, false)⟩,
    ⟨some 11, .bin .geq (.t 10) (.c (.int .u8 65)), some (9, false)⟩,
    ⟨some 12, .mov (.t 11), some (9, false)⟩,
    ⟨some 13, .mov (.t 0), some (12, true)⟩,
    ⟨some 14, .bin .leq (.t 13) (.c (.int .u8 90)), some (12, true)⟩,
    ⟨some 15, .pick (.t 12) (.t 14) (.c (.bool false)), some (9, false)⟩,
    ⟨some 16, .pick (.t 9) (.c (.bool true)) (.t 15), none⟩,
    ⟨some 2, .mov (.t 16), none⟩])
 (.ret))
def s_makeweightref01_letter : List Nat := []
def F_makeweightref01_letter : IF := ⟨1, 17, 0, c_makeweightref01_letter, [(2, none)], true, false, false⟩

def l_act_Name_0 : C :=
 .loop (rest 46 [0, 19, 20]) [] (.seq (.reg [⟨some 21, .bin .lss (.t 20) (.t 19), none⟩])
 (.seq (.cond (.t 21) (.skip) (.exit 0))
 (.seq (.blk 1 (.seq (.reg [⟨some 22, .mov (.t 20), none⟩,
    ⟨some 3, .mov (.t 22), none⟩])
  (.seq (.reg [⟨some 23, .mov (.t 0), none⟩,
    ⟨some 24, .mov (.t 3), none⟩,
    ⟨some 25, .idx (.t 23) (.t 24), none⟩,
    ⟨some 4, .mov (.t 25), none⟩])
  (.seq (.reg [⟨some 26, .mov (.t 4), none⟩,
    ⟨some 27, .call f_act_letter [(.t 26)] [], none⟩,
    ⟨some 28, .un .not (.t 27), none⟩,
    ⟨some 29, .mov (.t 28), none⟩,
    ⟨some 30, .mov (.t 4), some (29, true)⟩,
    ⟨some 31, .bin .lss (.t 30) (.c (.int .u8 48)), some (29, true)⟩,
    ⟨some 32, .mov (.t 31), some (29, true)⟩,
    ⟨some 33, .mov (.t 4), some (32, false)⟩,
    ⟨some 34, .bin .gtr (.t 33) (.c (.int .u8 57)), some (32, false)⟩,
    ⟨some 35, .pick (.t 32) (.c (.bool true)) (.t 34), some (29, true)⟩,
    ⟨some 36, .pick (.t 29) (.t 35) (.c (.bool false)), none⟩,
    ⟨some 37, .mov (.t 36), none⟩,
    ⟨some 38, .mov (.t 4), some (37, true)⟩,
    ⟨some 39, .bin .neq (.t 38) (.c (.int .u8 45)), some (37, true)⟩,
    ⟨some 40, .pick (.t 37) (.t 39) (.c (.bool false)), none⟩,
    ⟨some 41, .mov (.t 40), none⟩,
    ⟨some 42, .mov (.t 4), some (41, true)⟩,
    ⟨some 43, .bin .neq (.t 42) (.c (.int .u8 95)), some (41, true)⟩,
    ⟨some 44, .pick (.t 41) (.t 43) (.c (.bool false)), none⟩])
  (.cond (.t 44) (.seq (.reg [⟨some 2, .mov (.c (.bool false)), none⟩])
   (.ret)) (.skip))))))
 (.reg [⟨some 45, .bin .add (.t 20) (.c (.int .i64 1)), none⟩,
    ⟨some 20, .mov (.t 45), none⟩]))))
def c_act_Name : C :=
 .seq (.reg [⟨some 2, .mov (.c (.bool false)), none⟩])
 (.seq (.seq (.reg [⟨some 5, .mov (.t 0), none⟩,
    ⟨some 6, .bin .eql (.t 5) (.c (.str ⟨#[]⟩)), none⟩,
    ⟨some 7, .mov (.t 6), none⟩,
    ⟨some 8, .mov (.t 0), some (7, false)⟩,
    ⟨some 9, .lens (.t 8), some (7, false)⟩,
    ⟨some 10, .bin .gtr (.t 9) (.c (.int .i64 20)), some (7, false)⟩,
    ⟨some 11, .pick (.t 7) (.c (.bool true)) (.t 10), none⟩,
    ⟨some 12, .mov (.t 11), none⟩,
    ⟨some 13, .mov (.t 0), some (12, false)⟩,
    ⟨some 14, .idx (.t 13) (.c (.int .i64 0)), some (12, false)⟩,
    ⟨some 15, .call f_act_letter [(.t 14)] [], some (12, false)⟩,
    ⟨some 16, .un .not (.t 15), some (12, false)⟩,
    ⟨some 17, .pick (.t 12) (.c (.bool true)) (.t 16), none⟩])
 (.cond (.t 17) (.seq (.reg [⟨some 2, .mov (.c (.bool false)), none⟩])
  (.ret)) (.skip)))
 (.seq (.seq (.reg [⟨some 18, .mov (.t 0), none⟩,
    ⟨some 19, .lens (.t 18), none⟩,
    ⟨some 20, .mov (.c (.int .i64 0)), none⟩])
 (.blk 0 (l_act_Name_0)))
 (.seq (.reg [⟨some 2, .mov (.c (.bool true)), none⟩])
 (.ret))))
def s_act_Name : List Nat := []
def F_act_Name : IF := ⟨1, 46, 0, c_act_Name, [(2, none)], true, false, false⟩

def c_slices_Contains___string_string_ : C :=
 .seq (.reg [⟨some 4, .mov (.c (.bool false)), none⟩])
 (.seq (.reg [⟨some 5, .mov (.t 0), none⟩,
    ⟨some 6, .mov (.t 1), none⟩,
    ⟨some 7, .call f_slices_Index___string_string_ [(.t 5), (.t 6)] [], none⟩,
    ⟨some 8, .bin .geq (.t 7) (.c (.int .i64 0)), none⟩,
    ⟨some 4, .mov (.t 8), none⟩])
 (.ret))
def s_slices_Contains___string_string_ : List Nat := []
def F_slices_Contains___string_string_ : IF := ⟨2, 9, 0, c_slices_Contains___string_string_, [(4, none)], true, false, false⟩

def l_makeweightref04_falls_0 : C :=
 .loop (rest 31 [1, 2, 10, 11, 12]) [] (.seq (.reg [⟨some 13, .bin .lss (.t 12) (.t 11), none⟩])
 (.seq (.cond (.t 13) (.skip) (.exit 0))
 (.seq (.blk 1 (.seq (.reg [⟨some 14, .mov (.t 12), none⟩,
    ⟨some 15, .iad 1 (.t 10) (.t 12), none⟩,
    ⟨some 16, .ld false 1 (.t 15), none⟩,
    ⟨some 7, .mov (.t 14), none⟩,
    ⟨some 8, .mov (.t 16), none⟩])
  (.seq (.reg [⟨some 17, .mov (.t 8), none⟩,
    ⟨some 18, .bin .geq (.t 17) (.c (.int .i64 0)), none⟩,
    ⟨some 19, .mov (.t 18), none⟩,
    ⟨some 20, .mov (.t 1), some (19, true)⟩,
    ⟨some 21, .mov (.t 7), some (19, true)⟩,
    ⟨some 22, .call f_makeweightref01_Has [(.t 20), (.t 21)] [], some (19, true)⟩,
    ⟨some 23, .pick (.t 19) (.t 22) (.c (.bool false)), none⟩,
    ⟨some 24, .mov (.t 23), none⟩,
    ⟨some 25, .mov (.t 2), some (24, true)⟩,
    ⟨some 26, .mov (.t 8), some (24, true)⟩,
    ⟨some 27, .iad 1 (.t 25) (.t 26), some (24, true)⟩,
    ⟨some 28, .ld false 1 (.t 27), some (24, true)⟩,
    ⟨some 29, .pick (.t 24) (.t 28) (.c (.bool false)), none⟩])
  (.cond (.t 29) (.seq (.reg [⟨some 6, .mov (.c (.bool true)), none⟩])
   (.ret)) (.skip)))))
 (.reg [⟨some 30, .bin .add (.t 12) (.c (.int .i64 1)), none⟩,
    ⟨some 12, .mov (.t 30), none⟩]))))
def c_makeweightref04_falls : C :=
 .seq (.reg [⟨some 3, .box 0 2 (.t 0), none⟩,
    ⟨some 6, .mov (.c (.bool false)), none⟩])
 (.seq (.seq (.reg [⟨some 9, .fad 1 (.t 3), none⟩,
    ⟨some 10, .ld false 1 (.t 9), none⟩,
    ⟨some 11, .lenl (.t 10), none⟩,
    ⟨some 12, .mov (.c (.int .i64 0)), none⟩])
 (.blk 0 (l_makeweightref04_falls_0)))
 (.seq (.reg [⟨some 6, .mov (.c (.bool false)), none⟩])
 (.ret)))
def s_makeweightref04_falls : List Nat := [3]
def F_makeweightref04_falls : IF := ⟨3, 31, 1, c_makeweightref04_falls, [(6, none)], true, false, false⟩

def c_makeweightref03_good : C :=
 .seq (.reg [⟨some 3, .box 0 2 (.t 0), none⟩,
    ⟨some 4, .box 1 2 (.t 1), none⟩,
    ⟨some 5, .box 2 2 (.t 2), none⟩,
    ⟨some 6, .mov (.c (.bool false)), none⟩])
 (.seq (.drw [⟨some 7, .ld true 2 (.t 4), none⟩,
    ⟨some 8, .iaa 2 1 (.t 5) (.c (.int .i64 1)), none⟩,
    ⟨some 9, .ld false 1 (.t 8), none⟩,
    ⟨some 10, .ld true 2 (.t 3), none⟩,
    ⟨some 11, .iaa 2 1 (.t 5) (.c (.int .i64 0)), none⟩,
    ⟨some 12, .ld false 1 (.t 11), none⟩,
    ⟨some 13, .call f_makeweightref02_Offer [(.t 10), (.t 12)] [], none⟩,
    ⟨some 14, .call f_makeweightref03_Accepts [(.t 7), (.t 9), (.t 13)] [], none⟩,
    ⟨some 6, .mov (.t 14), none⟩] [(0, 6), (1, 6), (2, 6)])
 (.ret))
def s_makeweightref03_good : List Nat := [3, 4, 5]
def F_makeweightref03_good : IF := ⟨3, 15, 3, c_makeweightref03_good, [(6, none)], true, false, false⟩

def l_act_In_1_0 : C :=
 .loop (rest 21 [0, 1, 3]) [] (.seq (.seq (.reg [⟨some 4, .ld false 1 (.t 1), none⟩,
    ⟨some 5, .mov (.t 3), none⟩,
    ⟨some 6, .bin .shr (.t 4) (.t 5), none⟩,
    ⟨some 7, .bin .gtr (.t 6) (.c (.int .i64 0)), none⟩])
 (.cond (.t 7) (.skip) (.exit 0)))
 (.seq (.blk 1 (.seq (.reg [⟨some 10, .ld false 1 (.t 1), none⟩,
    ⟨some 11, .mov (.t 3), none⟩,
    ⟨some 12, .bin .shr (.t 10) (.t 11), none⟩,
    ⟨some 13, .bin .and (.t 12) (.c (.int .i64 1)), none⟩,
    ⟨some 14, .bin .eql (.t 13) (.c (.int .i64 1)), none⟩,
    ⟨some 15, .mov (.t 14), none⟩,
    ⟨some 16, .mov (.t 0), some (15, true)⟩,
    ⟨some 17, .mov (.t 3), some (15, true)⟩,
    ⟨some 18, .calv (.t 16) [(.t 17)] [], some (15, true)⟩,
    ⟨some 19, .un .not (.t 18), some (15, true)⟩,
    ⟨some 20, .pick (.t 15) (.t 19) (.c (.bool false)), none⟩])
  (.cond (.t 20) (.ret) (.skip))))
 (.reg [⟨some 8, .mov (.t 3), none⟩,
    ⟨some 9, .bin .add (.t 8) (.c (.int .i64 1)), none⟩,
    ⟨some 3, .mov (.t 9), none⟩])))
def c_act_In_1 : C :=
 .seq (.reg [⟨some 3, .mov (.c (.int .i64 0)), none⟩])
 (.blk 0 (l_act_In_1_0))
def s_act_In_1 : List Nat := []
def F_act_In_1 : IF := ⟨2, 21, 0, c_act_In_1, [], false, false, false⟩

def l_prune_rungs_1_0 : C :=
 .loop (rest 59 [0, 1, 3, 4, 5, 15, 16, 17]) [0, 1] (.seq (.reg [⟨some 18, .bin .lss (.t 17) (.t 16), none⟩])
 (.seq (.cond (.t 18) (.skip) (.exit 0))
 (.seq (.blk 1 (.seq (.reg [⟨some 19, .mov (.t 17), none⟩,
    ⟨some 20, .iad 1 (.t 15) (.t 17), none⟩,
    ⟨some 21, .ld false 1 (.t 20), none⟩,
    ⟨some 8, .mov (.t 19), none⟩,
    ⟨some 9, .mov (.t 21), none⟩])
  (.seq (.reg [⟨some 22, .mov (.t 9), none⟩,
    ⟨some 23, .mov (.t 1), none⟩,
    ⟨some 24, .bin .shr (.t 22) (.t 23), none⟩,
    ⟨some 25, .bin .and (.t 24) (.c (.int .i64 1)), none⟩,
    ⟨some 26, .bin .eql (.t 25) (.c (.int .i64 1)), none⟩,
    ⟨some 27, .mov (.t 26), none⟩,
    ⟨some 28, .ld false 1 (.t 3), some (27, true)⟩,
    ⟨some 29, .mov (.t 0), some (27, true)⟩,
    ⟨some 30, .iad 1 (.t 28) (.t 29), some (27, true)⟩,
    ⟨some 31, .ld false 1 (.t 30), some (27, true)⟩,
    ⟨some 32, .mov (.t 8), some (27, true)⟩,
    ⟨some 33, .iad 1 (.t 31) (.t 32), some (27, true)⟩,
    ⟨some 34, .ld false 1 (.t 33), some (27, true)⟩,
    ⟨some 35, .un .not (.t 34), some (27, true)⟩,
    ⟨some 36, .pick (.t 27) (.t 35) (.c (.bool false)), none⟩])
  (.cond (.t 36) (.seq (.reg [⟨some 37, .ld false 1 (.t 3), none⟩,
    ⟨some 38, .mov (.t 0), none⟩,
    ⟨some 39, .iad 1 (.t 37) (.t 38), none⟩,
    ⟨some 40, .ld false 1 (.t 39), none⟩,
    ⟨some 41, .mov (.t 8), none⟩,
    ⟨some 42, .iad 1 (.t 40) (.t 41), none⟩,
    ⟨none, .sto 1 (.t 42) (.c (.bool true)), none⟩])
   (.seq (.reg [⟨some 43, .ld false 1 (.t 4), none⟩,
    ⟨some 44, .mov (.t 0), none⟩,
    ⟨some 45, .iad 1 (.t 43) (.t 44), none⟩,
    ⟨some 46, .ld false 1 (.t 45), none⟩,
    ⟨some 47, .bin .sub (.t 46) (.c (.int .i64 1)), none⟩,
    ⟨some 48, .iad 1 (.t 43) (.t 44), none⟩,
    ⟨none, .sto 1 (.t 48) (.t 47), none⟩])
   (.seq (.reg [⟨some 49, .ld false 1 (.t 4), none⟩,
    ⟨some 50, .mov (.t 0), none⟩,
    ⟨some 51, .iad 1 (.t 49) (.t 50), none⟩,
    ⟨some 52, .ld false 1 (.t 51), none⟩,
    ⟨some 53, .bin .eql (.t 52) (.c (.int .i64 0)), none⟩])
   (.cond (.t 53) (.reg [⟨some 54, .ld false 1 (.t 5), none⟩,
    ⟨some 55, .mov (.t 0), none⟩,
    ⟨some 56, .bsl 0 1 1 [(.t 55)], none⟩,
    ⟨some 57, .app 1 1 8 (.t 54) (.t 56), none⟩,
    ⟨none, .sto 1 (.t 5) (.t 57), none⟩]) (.skip))))) (.skip)))))
 (.reg [⟨some 58, .bin .add (.t 17) (.c (.int .i64 1)), none⟩,
    ⟨some 17, .mov (.t 58), none⟩]))))
def c_prune_rungs_1 : C :=
 .seq (.reg [⟨some 10, .fad 1 (.t 2), none⟩,
    ⟨some 11, .ld false 1 (.t 10), none⟩,
    ⟨some 12, .mov (.t 0), none⟩,
    ⟨some 13, .iad 2 (.t 11) (.t 12), none⟩,
    ⟨some 14, .fad 0 (.t 13), none⟩,
    ⟨some 15, .ld false 1 (.t 14), none⟩,
    ⟨some 16, .lenl (.t 15), none⟩,
    ⟨some 17, .mov (.c (.int .i64 0)), none⟩])
 (.blk 0 (l_prune_rungs_1_0))
def s_prune_rungs_1 : List Nat := [56, 57]
def F_prune_rungs_1 : IF := ⟨6, 59, 2, c_prune_rungs_1, [], false, false, false⟩

def l_slices_IndexFunc___api_Choice_api_Choice__0 : C :=
 .loop (rest 19 [0, 1, 7, 8]) [] (.seq (.reg [⟨some 9, .bin .lss (.t 8) (.t 7), none⟩])
 (.seq (.cond (.t 9) (.skip) (.exit 0))
 (.seq (.blk 1 (.seq (.reg [⟨some 10, .mov (.t 8), none⟩,
    ⟨some 5, .mov (.t 10), none⟩])
  (.seq (.reg [⟨some 11, .mov (.t 1), none⟩,
    ⟨some 12, .mov (.t 0), none⟩,
    ⟨some 13, .mov (.t 5), none⟩,
    ⟨some 14, .iad 2 (.t 12) (.t 13), none⟩,
    ⟨some 15, .ld true 2 (.t 14), none⟩,
    ⟨some 16, .calv (.t 11) [(.t 15)] [], none⟩])
  (.cond (.t 16) (.seq (.reg [⟨some 17, .mov (.t 5), none⟩,
    ⟨some 4, .mov (.t 17), none⟩])
   (.ret)) (.skip)))))
 (.reg [⟨some 18, .bin .add (.t 8) (.c (.int .i64 1)), none⟩,
    ⟨some 8, .mov (.t 18), none⟩]))))
def c_slices_IndexFunc___api_Choice_api_Choice_ : C :=
 .seq (.reg [⟨some 4, .mov (.c (.int .i64 0)), none⟩])
 (.seq (.seq (.reg [⟨some 6, .mov (.t 0), none⟩,
    ⟨some 7, .lenl (.t 6), none⟩,
    ⟨some 8, .mov (.c (.int .i64 0)), none⟩])
 (.blk 0 (l_slices_IndexFunc___api_Choice_api_Choice__0)))
 (.seq (.reg [⟨some 4, .mov (.c (.int .i64 (-1))), none⟩])
 (.ret)))
def s_slices_IndexFunc___api_Choice_api_Choice_ : List Nat := []
def F_slices_IndexFunc___api_Choice_api_Choice_ : IF := ⟨2, 19, 0, c_slices_IndexFunc___api_Choice_api_Choice_, [(4, none)], true, false, false⟩

def c_family_chosen_1 : C :=
 .seq (.reg [⟨some 2, .box 0 2 (.t 0), none⟩,
    ⟨some 3, .mov (.c (.bool false)), none⟩])
 (.seq (.reg [⟨some 4, .fad 1 (.t 2), none⟩,
    ⟨some 5, .ld false 1 (.t 4), none⟩,
    ⟨some 6, .ld false 1 (.t 1), none⟩,
    ⟨some 7, .call f__family_products__has [(.t 5), (.t 6)] [], none⟩,
    ⟨some 3, .mov (.t 7), none⟩])
 (.ret))
def s_family_chosen_1 : List Nat := [2]
def F_family_chosen_1 : IF := ⟨2, 8, 1, c_family_chosen_1, [(3, none)], true, false, false⟩

def c_act_letter : C :=
 .seq (.reg [⟨some 2, .mov (.c (.bool false)), none⟩])
 (.seq (.reg [⟨some 3, .mov (.t 0), none⟩,
    ⟨some 4, .bin .geq (.t 3) (.c (.int .u8 97)), none⟩,
    ⟨some 5, .mov (.t 4), none⟩,
    ⟨some 6, .mov (.t 0), some (5, true)⟩,
    ⟨some 7, .bin .leq (.t 6) (.c (.int .u8 122)), some (5, true)⟩,
    ⟨some 8, .pick (.t 5) (.t 7) (.c (.bool false)), none⟩,
    ⟨some 9, .mov (.t 8), none⟩,
    ⟨some 10, .mov (.t 0), some (9, false)⟩,
    ⟨some 11, .bin .geq (.t 10) (.c (.int .u8 65)), some (9, false)⟩,
    ⟨some 12, .mov (.t 11), some (9, false)⟩,
    ⟨some 13, .mov (.t 0), some (12, true)⟩,
    ⟨some 14, .bin .leq (.t 13) (.c (.int .u8 90)), some (12, true)⟩,
    ⟨some 15, .pick (.t 12) (.t 14) (.c (.bool false)), some (9, false)⟩,
    ⟨some 16, .pick (.t 9) (.c (.bool true)) (.t 15), none⟩,
    ⟨some 2, .mov (.t 16), none⟩])
 (.ret))
def s_act_letter : List Nat := []
def F_act_letter : IF := ⟨1, 17, 0, c_act_letter, [(2, none)], true, false, false⟩

def l_slices_Index___string_string__0 : C :=
 .loop (rest 19 [0, 1, 7, 8]) [] (.seq (.reg [⟨some 9, .bin .lss (.t 8) (.t 7), none⟩])
 (.seq (.cond (.t 9) (.skip) (.exit 0))
 (.seq (.blk 1 (.seq (.reg [⟨some 10, .mov (.t 8), none⟩,
    ⟨some 5, .mov (.t 10), none⟩])
  (.seq (.reg [⟨some 11, .mov (.t 1), none⟩,
    ⟨some 12, .mov (.t 0), none⟩,
    ⟨some 13, .mov (.t 5), none⟩,
    ⟨some 14, .iad 1 (.t 12) (.t 13), none⟩,
    ⟨some 15, .ld false 1 (.t 14), none⟩,
    ⟨some 16, .bin .eql (.t 11) (.t 15), none⟩])
  (.cond (.t 16) (.seq (.reg [⟨some 17, .mov (.t 5), none⟩,
    ⟨some 4, .mov (.t 17), none⟩])
   (.ret)) (.skip)))))
 (.reg [⟨some 18, .bin .add (.t 8) (.c (.int .i64 1)), none⟩,
    ⟨some 8, .mov (.t 18), none⟩]))))
def c_slices_Index___string_string_ : C :=
 .seq (.reg [⟨some 4, .mov (.c (.int .i64 0)), none⟩])
 (.seq (.seq (.reg [⟨some 6, .mov (.t 0), none⟩,
    ⟨some 7, .lenl (.t 6), none⟩,
    ⟨some 8, .mov (.c (.int .i64 0)), none⟩])
 (.blk 0 (l_slices_Index___string_string__0)))
 (.seq (.reg [⟨some 4, .mov (.c (.int .i64 (-1))), none⟩])
 (.ret)))
def s_slices_Index___string_string_ : List Nat := []
def F_slices_Index___string_string_ : IF := ⟨2, 19, 0, c_slices_Index___string_string_, [(4, none)], true, false, false⟩

def c_makeweightref03_Accepts : C :=
 .seq (.reg [⟨some 3, .box 0 2 (.t 0), none⟩,
    ⟨some 6, .mov (.c (.bool false)), none⟩])
 (.seq (.reg [⟨some 7, .mov (.t 1), none⟩,
    ⟨some 8, .bin .geq (.t 7) (.c (.int .i64 0)), none⟩,
    ⟨some 9, .mov (.t 8), none⟩,
    ⟨some 10, .fad 1 (.t 3), some (9, true)⟩,
    ⟨some 11, .ld false 1 (.t 10), some (9, true)⟩,
    ⟨some 12, .mov (.t 1), some (9, true)⟩,
    ⟨some 13, .iad 2 (.t 11) (.t 12), some (9, true)⟩,
    ⟨some 14, .fad 0 (.t 13), some (9, true)⟩,
    ⟨some 15, .ld false 1 (.t 14), some (9, true)⟩,
    ⟨some 16, .mov (.t 2), some (9, true)⟩,
    ⟨some 17, .call f_makeweightref01_In [(.t 15), (.t 16)] [], some (9, true)⟩,
    ⟨some 18, .pick (.t 9) (.t 17) (.c (.bool false)), none⟩,
    ⟨some 6, .mov (.t 18), none⟩])
 (.ret))
def s_makeweightref03_Accepts : List Nat := [3]
def F_makeweightref03_Accepts : IF := ⟨3, 19, 1, c_makeweightref03_Accepts, [(6, none)], true, false, false⟩

def l_makeweightref02_Offer_0 : C :=
 .loop (rest 25 [5, 12, 13, 14]) [1] (.seq (.reg [⟨some 15, .bin .lss (.t 14) (.t 13), none⟩])
 (.seq (.cond (.t 15) (.skip) (.exit 0))
 (.seq (.blk 1 (.seq (.reg [⟨some 16, .iad 2 (.t 12) (.t 14), none⟩,
    ⟨some 17, .ld true 2 (.t 16), none⟩,
    ⟨some 7, .alc 1 2 (.agg [(.int .i64 0), (.int .i64 0)]), none⟩,
    ⟨none, .sto 2 (.t 7) (.t 17), none⟩])
  (.reg [⟨some 18, .mov (.t 5), none⟩,
    ⟨some 19, .fad 0 (.t 7), none⟩,
    ⟨some 20, .ld false 1 (.t 19), none⟩,
    ⟨some 21, .bin .shl (.c (.int .i64 1)) (.t 20), none⟩,
    ⟨some 22, .bin .or (.t 18) (.t 21), none⟩,
    ⟨some 5, .mov (.t 22), none⟩])))
 (.reg [⟨some 23, .bin .add (.t 14) (.c (.int .i64 1)), none⟩,
    ⟨some 14, .mov (.t 23), none⟩]))))
def c_makeweightref02_Offer : C :=
 .seq (.reg [⟨some 2, .box 0 2 (.t 0), none⟩,
    ⟨some 4, .mov (.c (.int .i64 0)), none⟩])
 (.seq (.reg [⟨some 5, .mov (.c (.int .i64 0)), none⟩])
 (.seq (.seq (.reg [⟨some 8, .fad 1 (.t 2), none⟩,
    ⟨some 9, .ld false 1 (.t 8), none⟩,
    ⟨some 10, .mov (.t 1), none⟩,
    ⟨some 11, .iad 1 (.t 9) (.t 10), none⟩,
    ⟨some 12, .ld false 1 (.t 11), none⟩,
    ⟨some 13, .lenl (.t 12), none⟩,
    ⟨some 14, .mov (.c (.int .i64 0)), none⟩])
 (.blk 0 (l_makeweightref02_Offer_0)))
 (.seq (.reg [⟨some 24, .mov (.t 5), none⟩,
    ⟨some 4, .mov (.t 24), none⟩])
 (.ret))))
def s_makeweightref02_Offer : List Nat := [2, 7]
def F_makeweightref02_Offer : IF := ⟨2, 25, 2, c_makeweightref02_Offer, [(4, none)], true, false, false⟩

def l_makeweightref01_In_0 : C :=
 .loop (rest 17 [1, 7, 8, 9]) [] (.seq (.reg [⟨some 10, .bin .lss (.t 9) (.t 8), none⟩])
 (.seq (.cond (.t 10) (.skip) (.exit 0))
 (.seq (.blk 1 (.seq (.reg [⟨some 11, .iad 1 (.t 7) (.t 9), none⟩,
    ⟨some 12, .ld false 1 (.t 11), none⟩,
    ⟨some 6, .mov (.t 12), none⟩])
  (.seq (.reg [⟨some 13, .mov (.t 1), none⟩,
    ⟨some 14, .mov (.t 6), none⟩,
    ⟨some 15, .bin .eql (.t 13) (.t 14), none⟩])
  (.cond (.t 15) (.seq (.reg [⟨some 4, .mov (.c (.bool true)), none⟩])
   (.ret)) (.skip)))))
 (.reg [⟨some 16, .bin .add (.t 9) (.c (.int .i64 1)), none⟩,
    ⟨some 9, .mov (.t 16), none⟩]))))
def c_makeweightref01_In : C :=
 .seq (.reg [⟨some 4, .mov (.c (.bool false)), none⟩])
 (.seq (.seq (.reg [⟨some 7, .mov (.t 0), none⟩,
    ⟨some 8, .lenl (.t 7), none⟩,
    ⟨some 9, .mov (.c (.int .i64 0)), none⟩])
 (.blk 0 (l_makeweightref01_In_0)))
 (.seq (.reg [⟨some 4, .mov (.c (.bool false)), none⟩])
 (.ret)))
def s_makeweightref01_In : List Nat := []
def F_makeweightref01_In : IF := ⟨2, 17, 0, c_makeweightref01_In, [(4, none)], true, false, false⟩

def G : Prg := fun f => match f with
  | 3 => some F_makeweightlaw16_FamilyDecides
  | 8 => some F_makeweightlaw16_few
  | 9 => some F_makeweightlaw16_light
  | 10 => some F_makeweightlaw16_awake
  | 11 => some F_makeweightref16_Is
  | 12 => some F_makeweightref16_Full
  | 13 => some F_makeweightref02_Is
  | 14 => some F_makeweightref01_SameStrings
  | 15 => some F_makeweightref16_Satisfied
  | 16 => some F_family_Satisfied
  | 17 => some F_makeweightref02_Copy
  | 18 => some F_makeweightref16_Copy
  | 19 => some F_family_Full
  | 20 => some F_makeweightref16_Product
  | 22 => some F_family_Product
  | 28 => some F_makeweightref01_Is
  | 34 => some F_makeweightref02_Few
  | 35 => some F_makeweightref16_Few
  | 36 => some F_makeweightlaw16_pair
  | 37 => some F_makeweightref01_SameInts
  | 38 => some F_makeweightref16_plan
  | 39 => some F_makeweightref04_Hollow
  | 40 => some F_makeweightref02_before
  | 41 => some F_makeweightref03_Satisfies
  | 42 => some F_system_Valid
  | 43 => some F_family_Valid
  | 44 => some F_slices_Equal___string_string_
  | 45 => some F_system_Offers
  | 46 => some F_family_which
  | 47 => some F_family_Full_1
  | 48 => some F_prune_Hollows
  | 49 => some F_family_single
  | 50 => some F_makeweightref16_chosen
  | 56 => some F__family_products__has
  | 57 => some F_slices_Clone___string_string_
  | 60 => some F_makeweightref01_Name
  | 61 => some F_makeweightref01_Index
  | 63 => some F_act_Valid
  | 70 => some F_makeweightref16_choices
  | 71 => some F_makeweightref01_List
  | 72 => some F_makeweightref04_allFall
  | 73 => some F_makeweightref03_Reach
  | 74 => some F_system_order
  | 75 => some F_family_choices
  | 76 => some F_family_Valid_1
  | 77 => some F_act_Is
  | 78 => some F_family_Valid_2
  | 79 => some F_act_In
  | 80 => some F__family_products__with
  | 81 => some F_prune_rungs
  | 82 => some F_family_chosen
  | 83 => some F_makeweightref01_Has
  | 85 => some F_makeweightref01_letter
  | 88 => some F_act_Name
  | 89 => some F_slices_Contains___string_string_
  | 95 => some F_makeweightref04_falls
  | 96 => some F_makeweightref03_good
  | 97 => some F_act_In_1
  | 98 => some F_prune_rungs_1
  | 99 => some F_slices_IndexFunc___api_Choice_api_Choice_
  | 100 => some F_family_chosen_1
  | 101 => some F_act_letter
  | 102 => some F_slices_Index___string_string_
  | 107 => some F_makeweightref03_Accepts
  | 108 => some F_makeweightref02_Offer
  | 114 => some F_makeweightref01_In
  | _ => none
theorem g_makeweightlaw16_FamilyDecides : G f_makeweightlaw16_FamilyDecides = some F_makeweightlaw16_FamilyDecides := rfl
theorem pure_makeweightlaw16_FamilyDecides : PureF G f_makeweightlaw16_FamilyDecides := ⟨F_makeweightlaw16_FamilyDecides, rfl, rfl⟩
theorem g_makeweightlaw16_few : G f_makeweightlaw16_few = some F_makeweightlaw16_few := rfl
theorem pure_makeweightlaw16_few : PureF G f_makeweightlaw16_few := ⟨F_makeweightlaw16_few, rfl, rfl⟩
theorem g_makeweightlaw16_light : G f_makeweightlaw16_light = some F_makeweightlaw16_light := rfl
theorem pure_makeweightlaw16_light : PureF G f_makeweightlaw16_light := ⟨F_makeweightlaw16_light, rfl, rfl⟩
theorem g_makeweightlaw16_awake : G f_makeweightlaw16_awake = some F_makeweightlaw16_awake := rfl
theorem pure_makeweightlaw16_awake : PureF G f_makeweightlaw16_awake := ⟨F_makeweightlaw16_awake, rfl, rfl⟩
theorem g_makeweightref16_Is : G f_makeweightref16_Is = some F_makeweightref16_Is := rfl
theorem pure_makeweightref16_Is : PureF G f_makeweightref16_Is := ⟨F_makeweightref16_Is, rfl, rfl⟩
theorem g_makeweightref16_Full : G f_makeweightref16_Full = some F_makeweightref16_Full := rfl
theorem pure_makeweightref16_Full : PureF G f_makeweightref16_Full := ⟨F_makeweightref16_Full, rfl, rfl⟩
theorem g_makeweightref02_Is : G f_makeweightref02_Is = some F_makeweightref02_Is := rfl
theorem pure_makeweightref02_Is : PureF G f_makeweightref02_Is := ⟨F_makeweightref02_Is, rfl, rfl⟩
theorem g_makeweightref01_SameStrings : G f_makeweightref01_SameStrings = some F_makeweightref01_SameStrings := rfl
theorem pure_makeweightref01_SameStrings : PureF G f_makeweightref01_SameStrings := ⟨F_makeweightref01_SameStrings, rfl, rfl⟩
theorem g_makeweightref16_Satisfied : G f_makeweightref16_Satisfied = some F_makeweightref16_Satisfied := rfl
theorem pure_makeweightref16_Satisfied : PureF G f_makeweightref16_Satisfied := ⟨F_makeweightref16_Satisfied, rfl, rfl⟩
theorem g_family_Satisfied : G f_family_Satisfied = some F_family_Satisfied := rfl
theorem pure_family_Satisfied : PureF G f_family_Satisfied := ⟨F_family_Satisfied, rfl, rfl⟩
theorem g_makeweightref02_Copy : G f_makeweightref02_Copy = some F_makeweightref02_Copy := rfl
theorem pure_makeweightref02_Copy : PureF G f_makeweightref02_Copy := ⟨F_makeweightref02_Copy, rfl, rfl⟩
theorem g_makeweightref16_Copy : G f_makeweightref16_Copy = some F_makeweightref16_Copy := rfl
theorem pure_makeweightref16_Copy : PureF G f_makeweightref16_Copy := ⟨F_makeweightref16_Copy, rfl, rfl⟩
theorem g_family_Full : G f_family_Full = some F_family_Full := rfl
theorem pure_family_Full : PureF G f_family_Full := ⟨F_family_Full, rfl, rfl⟩
theorem g_makeweightref16_Product : G f_makeweightref16_Product = some F_makeweightref16_Product := rfl
theorem pure_makeweightref16_Product : PureF G f_makeweightref16_Product := ⟨F_makeweightref16_Product, rfl, rfl⟩
theorem g_family_Product : G f_family_Product = some F_family_Product := rfl
theorem pure_family_Product : PureF G f_family_Product := ⟨F_family_Product, rfl, rfl⟩
theorem g_makeweightref01_Is : G f_makeweightref01_Is = some F_makeweightref01_Is := rfl
theorem pure_makeweightref01_Is : PureF G f_makeweightref01_Is := ⟨F_makeweightref01_Is, rfl, rfl⟩
theorem g_makeweightref02_Few : G f_makeweightref02_Few = some F_makeweightref02_Few := rfl
theorem pure_makeweightref02_Few : PureF G f_makeweightref02_Few := ⟨F_makeweightref02_Few, rfl, rfl⟩
theorem g_makeweightref16_Few : G f_makeweightref16_Few = some F_makeweightref16_Few := rfl
theorem pure_makeweightref16_Few : PureF G f_makeweightref16_Few := ⟨F_makeweightref16_Few, rfl, rfl⟩
theorem g_makeweightlaw16_pair : G f_makeweightlaw16_pair = some F_makeweightlaw16_pair := rfl
theorem pure_makeweightlaw16_pair : PureF G f_makeweightlaw16_pair := ⟨F_makeweightlaw16_pair, rfl, rfl⟩
theorem g_makeweightref01_SameInts : G f_makeweightref01_SameInts = some F_makeweightref01_SameInts := rfl
theorem pure_makeweightref01_SameInts : PureF G f_makeweightref01_SameInts := ⟨F_makeweightref01_SameInts, rfl, rfl⟩
theorem g_makeweightref16_plan : G f_makeweightref16_plan = some F_makeweightref16_plan := rfl
theorem pure_makeweightref16_plan : PureF G f_makeweightref16_plan := ⟨F_makeweightref16_plan, rfl, rfl⟩
theorem g_makeweightref04_Hollow : G f_makeweightref04_Hollow = some F_makeweightref04_Hollow := rfl
theorem pure_makeweightref04_Hollow : PureF G f_makeweightref04_Hollow := ⟨F_makeweightref04_Hollow, rfl, rfl⟩
theorem g_makeweightref02_before : G f_makeweightref02_before = some F_makeweightref02_before := rfl
theorem pure_makeweightref02_before : PureF G f_makeweightref02_before := ⟨F_makeweightref02_before, rfl, rfl⟩
theorem g_makeweightref03_Satisfies : G f_makeweightref03_Satisfies = some F_makeweightref03_Satisfies := rfl
theorem pure_makeweightref03_Satisfies : PureF G f_makeweightref03_Satisfies := ⟨F_makeweightref03_Satisfies, rfl, rfl⟩
theorem g_system_Valid : G f_system_Valid = some F_system_Valid := rfl
theorem pure_system_Valid : PureF G f_system_Valid := ⟨F_system_Valid, rfl, rfl⟩
theorem g_family_Valid : G f_family_Valid = some F_family_Valid := rfl
theorem pure_family_Valid : PureF G f_family_Valid := ⟨F_family_Valid, rfl, rfl⟩
theorem g_slices_Equal___string_string_ : G f_slices_Equal___string_string_ = some F_slices_Equal___string_string_ := rfl
theorem pure_slices_Equal___string_string_ : PureF G f_slices_Equal___string_string_ := ⟨F_slices_Equal___string_string_, rfl, rfl⟩
theorem g_system_Offers : G f_system_Offers = some F_system_Offers := rfl
theorem pure_system_Offers : PureF G f_system_Offers := ⟨F_system_Offers, rfl, rfl⟩
theorem g_family_which : G f_family_which = some F_family_which := rfl
theorem pure_family_which : PureF G f_family_which := ⟨F_family_which, rfl, rfl⟩
theorem g_family_Full_1 : G f_family_Full_1 = some F_family_Full_1 := rfl
theorem pure_family_Full_1 : PureF G f_family_Full_1 := ⟨F_family_Full_1, rfl, rfl⟩
theorem g_prune_Hollows : G f_prune_Hollows = some F_prune_Hollows := rfl
theorem pure_prune_Hollows : PureF G f_prune_Hollows := ⟨F_prune_Hollows, rfl, rfl⟩
theorem g_family_single : G f_family_single = some F_family_single := rfl
theorem pure_family_single : PureF G f_family_single := ⟨F_family_single, rfl, rfl⟩
theorem g_makeweightref16_chosen : G f_makeweightref16_chosen = some F_makeweightref16_chosen := rfl
theorem pure_makeweightref16_chosen : PureF G f_makeweightref16_chosen := ⟨F_makeweightref16_chosen, rfl, rfl⟩
theorem g__family_products__has : G f__family_products__has = some F__family_products__has := rfl
theorem pure__family_products__has : PureF G f__family_products__has := ⟨F__family_products__has, rfl, rfl⟩
theorem g_slices_Clone___string_string_ : G f_slices_Clone___string_string_ = some F_slices_Clone___string_string_ := rfl
theorem pure_slices_Clone___string_string_ : PureF G f_slices_Clone___string_string_ := ⟨F_slices_Clone___string_string_, rfl, rfl⟩
theorem g_makeweightref01_Name : G f_makeweightref01_Name = some F_makeweightref01_Name := rfl
theorem pure_makeweightref01_Name : PureF G f_makeweightref01_Name := ⟨F_makeweightref01_Name, rfl, rfl⟩
theorem g_makeweightref01_Index : G f_makeweightref01_Index = some F_makeweightref01_Index := rfl
theorem pure_makeweightref01_Index : PureF G f_makeweightref01_Index := ⟨F_makeweightref01_Index, rfl, rfl⟩
theorem g_act_Valid : G f_act_Valid = some F_act_Valid := rfl
theorem pure_act_Valid : PureF G f_act_Valid := ⟨F_act_Valid, rfl, rfl⟩
theorem g_makeweightref16_choices : G f_makeweightref16_choices = some F_makeweightref16_choices := rfl
theorem pure_makeweightref16_choices : PureF G f_makeweightref16_choices := ⟨F_makeweightref16_choices, rfl, rfl⟩
theorem g_makeweightref01_List : G f_makeweightref01_List = some F_makeweightref01_List := rfl
theorem pure_makeweightref01_List : PureF G f_makeweightref01_List := ⟨F_makeweightref01_List, rfl, rfl⟩
theorem g_makeweightref04_allFall : G f_makeweightref04_allFall = some F_makeweightref04_allFall := rfl
theorem pure_makeweightref04_allFall : PureF G f_makeweightref04_allFall := ⟨F_makeweightref04_allFall, rfl, rfl⟩
theorem g_makeweightref03_Reach : G f_makeweightref03_Reach = some F_makeweightref03_Reach := rfl
theorem pure_makeweightref03_Reach : PureF G f_makeweightref03_Reach := ⟨F_makeweightref03_Reach, rfl, rfl⟩
theorem g_system_order : G f_system_order = some F_system_order := rfl
theorem pure_system_order : PureF G f_system_order := ⟨F_system_order, rfl, rfl⟩
theorem g_family_choices : G f_family_choices = some F_family_choices := rfl
theorem pure_family_choices : PureF G f_family_choices := ⟨F_family_choices, rfl, rfl⟩
theorem g_family_Valid_1 : G f_family_Valid_1 = some F_family_Valid_1 := rfl
theorem pure_family_Valid_1 : PureF G f_family_Valid_1 := ⟨F_family_Valid_1, rfl, rfl⟩
theorem g_act_Is : G f_act_Is = some F_act_Is := rfl
theorem pure_act_Is : PureF G f_act_Is := ⟨F_act_Is, rfl, rfl⟩
theorem g_family_Valid_2 : G f_family_Valid_2 = some F_family_Valid_2 := rfl
theorem pure_family_Valid_2 : PureF G f_family_Valid_2 := ⟨F_family_Valid_2, rfl, rfl⟩
theorem g_act_In : G f_act_In = some F_act_In := rfl
theorem pure_act_In : PureF G f_act_In := ⟨F_act_In, rfl, rfl⟩
theorem g__family_products__with : G f__family_products__with = some F__family_products__with := rfl
theorem pure__family_products__with : PureF G f__family_products__with := ⟨F__family_products__with, rfl, rfl⟩
theorem g_prune_rungs : G f_prune_rungs = some F_prune_rungs := rfl
theorem pure_prune_rungs : PureF G f_prune_rungs := ⟨F_prune_rungs, rfl, rfl⟩
theorem g_family_chosen : G f_family_chosen = some F_family_chosen := rfl
theorem pure_family_chosen : PureF G f_family_chosen := ⟨F_family_chosen, rfl, rfl⟩
theorem g_makeweightref01_Has : G f_makeweightref01_Has = some F_makeweightref01_Has := rfl
theorem pure_makeweightref01_Has : PureF G f_makeweightref01_Has := ⟨F_makeweightref01_Has, rfl, rfl⟩
theorem g_makeweightref01_letter : G f_makeweightref01_letter = some F_makeweightref01_letter := rfl
theorem pure_makeweightref01_letter : PureF G f_makeweightref01_letter := ⟨F_makeweightref01_letter, rfl, rfl⟩
theorem g_act_Name : G f_act_Name = some F_act_Name := rfl
theorem pure_act_Name : PureF G f_act_Name := ⟨F_act_Name, rfl, rfl⟩
theorem g_slices_Contains___string_string_ : G f_slices_Contains___string_string_ = some F_slices_Contains___string_string_ := rfl
theorem pure_slices_Contains___string_string_ : PureF G f_slices_Contains___string_string_ := ⟨F_slices_Contains___string_string_, rfl, rfl⟩
theorem g_makeweightref04_falls : G f_makeweightref04_falls = some F_makeweightref04_falls := rfl
theorem pure_makeweightref04_falls : PureF G f_makeweightref04_falls := ⟨F_makeweightref04_falls, rfl, rfl⟩
theorem g_makeweightref03_good : G f_makeweightref03_good = some F_makeweightref03_good := rfl
theorem pure_makeweightref03_good : PureF G f_makeweightref03_good := ⟨F_makeweightref03_good, rfl, rfl⟩
theorem g_act_In_1 : G f_act_In_1 = some F_act_In_1 := rfl
theorem g_prune_rungs_1 : G f_prune_rungs_1 = some F_prune_rungs_1 := rfl
theorem g_slices_IndexFunc___api_Choice_api_Choice_ : G f_slices_IndexFunc___api_Choice_api_Choice_ = some F_slices_IndexFunc___api_Choice_api_Choice_ := rfl
theorem pure_slices_IndexFunc___api_Choice_api_Choice_ : PureF G f_slices_IndexFunc___api_Choice_api_Choice_ := ⟨F_slices_IndexFunc___api_Choice_api_Choice_, rfl, rfl⟩
theorem g_family_chosen_1 : G f_family_chosen_1 = some F_family_chosen_1 := rfl
theorem pure_family_chosen_1 : PureF G f_family_chosen_1 := ⟨F_family_chosen_1, rfl, rfl⟩
theorem g_act_letter : G f_act_letter = some F_act_letter := rfl
theorem pure_act_letter : PureF G f_act_letter := ⟨F_act_letter, rfl, rfl⟩
theorem g_slices_Index___string_string_ : G f_slices_Index___string_string_ = some F_slices_Index___string_string_ := rfl
theorem pure_slices_Index___string_string_ : PureF G f_slices_Index___string_string_ := ⟨F_slices_Index___string_string_, rfl, rfl⟩
theorem g_makeweightref03_Accepts : G f_makeweightref03_Accepts = some F_makeweightref03_Accepts := rfl
theorem pure_makeweightref03_Accepts : PureF G f_makeweightref03_Accepts := ⟨F_makeweightref03_Accepts, rfl, rfl⟩
theorem g_makeweightref02_Offer : G f_makeweightref02_Offer = some F_makeweightref02_Offer := rfl
theorem pure_makeweightref02_Offer : PureF G f_makeweightref02_Offer := ⟨F_makeweightref02_Offer, rfl, rfl⟩
theorem g_makeweightref01_In : G f_makeweightref01_In = some F_makeweightref01_In := rfl
theorem pure_makeweightref01_In : PureF G f_makeweightref01_In := ⟨F_makeweightref01_In, rfl, rfl⟩
attribute [go_sem] wpCall_T pure_makeweightlaw16_FamilyDecides pure_makeweightlaw16_few pure_makeweightlaw16_light pure_makeweightlaw16_awake pure_makeweightref16_Is pure_makeweightref16_Full pure_makeweightref02_Is pure_makeweightref01_SameStrings pure_makeweightref16_Satisfied pure_family_Satisfied pure_makeweightref02_Copy pure_makeweightref16_Copy pure_family_Full pure_makeweightref16_Product pure_family_Product pure_makeweightref01_Is pure_makeweightref02_Few pure_makeweightref16_Few pure_makeweightlaw16_pair pure_makeweightref01_SameInts pure_makeweightref16_plan pure_makeweightref04_Hollow pure_makeweightref02_before pure_makeweightref03_Satisfies pure_system_Valid pure_family_Valid pure_slices_Equal___string_string_ pure_system_Offers pure_family_which pure_family_Full_1 pure_prune_Hollows pure_family_single pure_makeweightref16_chosen pure__family_products__has pure_slices_Clone___string_string_ pure_makeweightref01_Name pure_makeweightref01_Index pure_act_Valid pure_makeweightref16_choices pure_makeweightref01_List pure_makeweightref04_allFall pure_makeweightref03_Reach pure_system_order pure_family_choices pure_family_Valid_1 pure_act_Is pure_family_Valid_2 pure_act_In pure__family_products__with pure_prune_rungs pure_family_chosen pure_makeweightref01_Has pure_makeweightref01_letter pure_act_Name pure_slices_Contains___string_string_ pure_makeweightref04_falls pure_makeweightref03_good pure_slices_IndexFunc___api_Choice_api_Choice_ pure_family_chosen_1 pure_act_letter pure_slices_Index___string_string_ pure_makeweightref03_Accepts pure_makeweightref02_Offer pure_makeweightref01_In
end Go.Mw
