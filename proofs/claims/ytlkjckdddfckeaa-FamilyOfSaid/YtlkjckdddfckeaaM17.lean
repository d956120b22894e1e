/- The code, with hints. Printed by Gen. -/
import Derived.Test.YtlkjckdddfckeaaM16
set_option linter.unusedVariables false
set_option linter.unusedSimpArgs false
namespace Go.Mw
set_option maxRecDepth 100000
abbrev f_w16_FamilyOf : FuncId := 7
abbrev f_w16_awake : FuncId := 10
abbrev f_r16_Is : FuncId := 11
abbrev f_r01_SameStrings : FuncId := 14
abbrev f_family_Satisfied : FuncId := 16
abbrev f_family_Full : FuncId := 19
abbrev f_r16_Product : FuncId := 20
abbrev f_family_Product : FuncId := 22
abbrev f_r03_Same : FuncId := 23
abbrev f_w16_short : FuncId := 27
abbrev f_r01_Is : FuncId := 28
abbrev f_r03_Is : FuncId := 29
abbrev f_r03_Copy : FuncId := 30
abbrev f_family_Of : FuncId := 31
abbrev f_r16_None : FuncId := 32
abbrev f_r05_Equal : FuncId := 33
abbrev f_w16_pair : FuncId := 36
abbrev f_r01_SameInts : FuncId := 37
abbrev f_r16_plan : FuncId := 38
abbrev f_r04_Hollow : FuncId := 39
abbrev f_system_Valid : FuncId := 42
abbrev f_family_Valid : FuncId := 43
abbrev f_slices_EqualZsgsg : FuncId := 44
abbrev f_system_Offers : FuncId := 45
abbrev f_family_which : FuncId := 46
abbrev f_family_Full_1 : FuncId := 47
abbrev f_prune_Hollows : FuncId := 48
abbrev f_family_single : FuncId := 49
abbrev f_r16_chosen : FuncId := 50
abbrev f__family_products__has : FuncId := 56
abbrev f_slices_CloneZsgsg : FuncId := 57
abbrev f_r03_Few : FuncId := 59
abbrev f_r01_Name : FuncId := 60
abbrev f_r01_Index : FuncId := 61
abbrev f_r03_state : FuncId := 62
abbrev f_act_Valid : FuncId := 63
abbrev f_slices_ContainsFuncZaiScai : FuncId := 64
abbrev f_family_Of_1 : FuncId := 65
abbrev f_spec_Valid : FuncId := 66
abbrev f_family_Of_2 : FuncId := 67
abbrev f_prune_Trimmed : FuncId := 68
abbrev f_r05_Refines : FuncId := 69
abbrev f_r16_choices : FuncId := 70
abbrev f_r01_List : FuncId := 71
abbrev f_r04_allFall : FuncId := 72
abbrev f_system_order : FuncId := 74
abbrev f_family_choices : FuncId := 75
abbrev f_family_Valid_1 : FuncId := 76
abbrev f_act_Is : FuncId := 77
abbrev f_family_Valid_2 : FuncId := 78
abbrev f_act_In : FuncId := 79
abbrev f__family_products__with : FuncId := 80
abbrev f_prune_rungs : FuncId := 81
abbrev f_family_chosen : FuncId := 82
abbrev f_r01_Has : FuncId := 83
abbrev f_r01_letter : FuncId := 85
abbrev f_r01_Rising : FuncId := 86
abbrev f_r01_Set : FuncId := 87
abbrev f_act_Name : FuncId := 88
abbrev f_slices_ContainsZsgsg : FuncId := 89
abbrev f_slices_IndexFuncZaiScai : FuncId := 90
abbrev f_prune_Left : FuncId := 91
abbrev f_spec_Nothing : FuncId := 92
abbrev f_slices_RepeatZitit : FuncId := 93
abbrev f_r05_Depth : FuncId := 94
abbrev f_r04_falls : FuncId := 95
abbrev f_act_In_1 : FuncId := 97
abbrev f_prune_rungs_1 : FuncId := 98
abbrev f_slices_IndexFuncZaiCeai : FuncId := 99
abbrev f_family_chosen_1 : FuncId := 100
abbrev f_act_letter : FuncId := 101
abbrev f_slices_IndexZsgsg : FuncId := 102
abbrev f_prune_Left_1 : FuncId := 103
abbrev f_math_bits_Mul : FuncId := 104
abbrev f_r04_Trim : FuncId := 105
abbrev f_r05_parts : FuncId := 106
abbrev f_math_bits_Mul32 : FuncId := 109
abbrev f_math_bits_Mul64 : FuncId := 110
abbrev f_r03_Nothing : FuncId := 111
abbrev f_r04_Solid : FuncId := 112
abbrev f_r04_Order : FuncId := 113
abbrev f_r01_In : FuncId := 114
def zeros (n : Nat) : List AV := List.replicate n (.int .i64 0)
abbrev zq (d : Nat) (i : Ins) : Rop := ⟨some d, i, none⟩
abbrev zr (i : Ins) : Rop := ⟨none, i, none⟩
abbrev zg (d : Nat) (i : Ins) (t : Nat) (b : Bool) : Rop := ⟨some d, i, some (t, b)⟩
abbrev zm (d x : Nat) : Rop := ⟨some d, .mov (.t x), none⟩
abbrev zl (d n x : Nat) : Rop := ⟨some d, .ld false n (.t x), none⟩
abbrev zL (d n x : Nat) : Rop := ⟨some d, .ld true n (.t x), none⟩
abbrev zf (d k x : Nat) : Rop := ⟨some d, .fad k (.t x), none⟩
abbrev zk (d : Nat) (n : Int) : Rop := ⟨some d, .mov (.c (.int .i64 n)), none⟩
abbrev zo (d : Nat) (b : Bool) : Rop := ⟨some d, .mov (.c (.bool b)), none⟩
abbrev zi (d e x y : Nat) : Rop := ⟨some d, .iad e (.t x) (.t y), none⟩
abbrev zn (d x : Nat) : Rop := ⟨some d, .lenl (.t x), none⟩
abbrev za (d x : Nat) (n : Int) : Rop := ⟨some d, .bin .add (.t x) (.c (.int .i64 n)), none⟩
abbrev zb (d : Nat) (o : BinOp) (x y : Nat) : Rop := ⟨some d, .bin o (.t x) (.t y), none⟩
abbrev zs (n x y : Nat) : Rop := ⟨none, .sto n (.t x) (.t y), none⟩
abbrev zy (d x y : Nat) : Rop := ⟨some d, .pick (.t x) (.c (.bool true)) (.t y), none⟩
abbrev zu (d x y : Nat) : Rop := ⟨some d, .pick (.t x) (.t y) (.c (.bool false)), none⟩
abbrev zmg (d x t : Nat) (b : Bool) : Rop := ⟨some d, .mov (.t x), some (t, b)⟩
abbrev zlg (d n x t : Nat) (b : Bool) : Rop := ⟨some d, .ld false n (.t x), some (t, b)⟩
abbrev zfg (d k x t : Nat) (b : Bool) : Rop := ⟨some d, .fad k (.t x), some (t, b)⟩
def l_w16_FamilyOf_1 : C :=
 .loop (rest 163 [0, 1, 5, 6, 40, 41, 42]) [0] (.seq (.reg [zb 43 .lss 42 41])
 (.seq (.cond (.t 43) (.skip) (.exit 1))
 (.seq (.blk 2 (.seq (.reg [zi 44 2 40 42,
 zL 45 2 44,
 zq 8 (.alc 0 2 (.agg [.nils, .nils])),
 zs 2 8 45])
  (.seq (.seq (.reg [zm 46 5,
 zq 47 (.bin .eql (.t 46) (.c (.int .i64 0))),
 zm 48 47,
 zg 49 (.ld true 2 (.t 8)) 48 true,
 zg 50 (.call f_r03_Is [(.t 49)] []) 48 true,
 zg 51 (.un .not (.t 50)) 48 true,
 zu 52 48 51])
  (.cond (.t 52) (.reg [zk 5 30]) (.skip)))
  (.reg [zm 53 6,
 zf 54 1 8,
 zl 55 1 54,
 zn 56 55,
 zb 57 .add 53 56,
 zm 6 57]))))
 (.reg [za 58 42 1,
 zm 42 58]))))
def l_w16_FamilyOf_3 : C :=
 .loop (rest 163 [0, 1, 5, 6, 59, 60, 61]) [1] (.seq (.reg [zb 62 .lss 61 60])
 (.seq (.cond (.t 62) (.skip) (.exit 3))
 (.seq (.blk 4 (.seq (.reg [zi 63 2 59 61,
 zL 64 2 63,
 zq 10 (.alc 1 2 (.agg [.nils, .nils])),
 zs 2 10 64])
  (.seq (.reg [zm 65 5,
 zq 66 (.bin .eql (.t 65) (.c (.int .i64 0))),
 zm 67 66,
 zfg 68 0 10 67 true,
 zlg 69 1 68 67 true,
 zmg 70 0 67 true,
 zg 71 (.call f_r01_SameStrings [(.t 69), (.t 70)] []) 67 true,
 zg 72 (.un .not (.t 71)) 67 true,
 zu 73 67 72])
  (.cond (.t 73) (.reg [zk 5 10]) (.skip)))))
 (.reg [za 74 61 1,
 zm 61 74]))))
def l_w16_FamilyOf_5 : C :=
 .loop (rest 163 [0, 1, 5, 6, 11, 75, 76, 77]) [2, 3] (.seq (.reg [zb 78 .lss 77 76])
 (.seq (.cond (.t 78) (.skip) (.exit 5))
 (.seq (.blk 6 (.seq (.reg [zi 79 2 75 77,
 zL 80 2 79,
 zq 13 (.alc 2 2 (.agg [.nils, .nils])),
 zs 2 13 80])
  (.reg [zm 81 11,
 zL 82 2 13,
 zq 83 (.call f_r03_Copy [(.t 82)] []),
 zq 84 (.bsl 3 2 1 [(.t 83)]),
 zq 85 (.app 4 2 48 (.t 81) (.t 84)),
 zm 11 85])))
 (.reg [za 86 77 1,
 zm 77 86]))))
def l_w16_FamilyOf_7 : C :=
 .loop (rest 163 [11, 14, 139, 140, 141]) [7] (.seq (.reg [zb 142 .lss 141 140])
 (.seq (.cond (.t 142) (.skip) (.exit 7))
 (.seq (.blk 8 (.seq (.reg [zm 143 141,
 zi 144 2 139 141,
 zL 145 2 144,
 zq 17 (.alc 7 2 (.agg [.nils, .nils])),
 zm 16 143,
 zs 2 17 145])
  (.seq (.drw [zL 146 3 14,
 zm 147 16,
 zq 148 (.call f_r16_Product [(.t 146), (.t 147)] []),
 zL 149 2 17,
 zq 150 (.call f_r05_Equal [(.t 148), (.t 149)] []),
 zq 151 (.un .not (.t 150)),
 zm 152 151,
 zmg 153 11 152 false,
 zmg 154 16 152 false,
 zg 155 (.iad 2 (.t 153) (.t 154)) 152 false,
 zg 156 (.ld true 2 (.t 155)) 152 false,
 zg 157 (.ld true 2 (.t 17)) 152 false,
 zg 158 (.call f_r03_Same [(.t 156), (.t 157)] []) 152 false,
 zg 159 (.un .not (.t 158)) 152 false,
 zy 160 152 159] [(2, 3)])
  (.cond (.t 160) (.seq (.reg [zo 4 false])
   (.ret)) (.skip)))))
 (.reg [za 161 141 1,
 zm 141 161]))))
def c_w16_FamilyOf : C :=
 .seq (.reg [zo 4 false])
 (.seq (.seq (.reg [zm 18 0,
 zn 19 18,
 zq 20 (.bin .gtr (.t 19) (.c (.int .i64 100))),
 zm 21 20,
 zmg 22 1 21 false,
 zg 23 (.call f_w16_short [(.t 22)] []) 21 false,
 zg 24 (.un .not (.t 23)) 21 false,
 zy 25 21 24])
 (.cond (.t 25) (.seq (.reg [zq 26 (.call f_w16_awake [] []),
 zm 4 26])
  (.ret)) (.skip)))
 (.seq (.reg [zk 5 0,
 zk 6 1])
 (.seq (.blk 0 (.seq (.reg [zm 28 0,
 zq 29 (.call f_r01_Is [(.t 28)] []),
 zq 30 (.un .not (.t 29)),
 zm 27 30])
  (.cond (.t 27) (.reg [zk 5 10]) (.seq (.reg [zm 32 1,
 zn 33 32,
 zq 34 (.bin .lss (.t 33) (.c (.int .i64 1))),
 zm 35 34,
 zmg 36 1 35 false,
 zg 37 (.lenl (.t 36)) 35 false,
 zg 38 (.bin .gtr (.t 37) (.c (.int .i64 32))) 35 false,
 zy 39 35 38,
 zm 31 39])
  (.cond (.t 31) (.reg [zk 5 1]) (.skip))))))
 (.seq (.seq (.reg [zm 40 1,
 zn 41 40,
 zk 42 0])
 (.blk 1 (l_w16_FamilyOf_1)))
 (.seq (.seq (.reg [zm 59 1,
 zn 60 59,
 zk 61 0])
 (.blk 3 (l_w16_FamilyOf_3)))
 (.seq (.reg [zq 11 (.mov (.c .nils))])
 (.seq (.seq (.reg [zm 75 1,
 zn 76 75,
 zk 77 0])
 (.blk 5 (l_w16_FamilyOf_5)))
 (.frzt 11 (.seq (.reg [zm 88 0,
 zq 89 (.app 5 1 16 (.c .nils) (.t 88)),
 zm 90 11,
 zq 91 (.call f_family_Of [(.t 89), (.t 90)] []),
 zm 87 91,
 zq 92 (.ext (.t 87) 0),
 zq 93 (.ext (.t 87) 1),
 zq 14 (.alc 6 3 (.agg [.nils, (.int .i64 0), .nils])),
 zs 3 14 92,
 zm 15 93])
 (.seq (.seq (.reg [zm 94 15,
 zq 95 (.bin .neq (.t 94) (.c (.int .i64 0)))])
 (.cond (.t 95) (.seq (.reg [zm 96 15,
 zm 97 5,
 zb 98 .eql 96 97,
 zm 99 98,
 zmg 100 5 99 false,
 zg 101 (.bin .eql (.t 100) (.c (.int .i64 0))) 99 false,
 zmg 102 101 99 false,
 zmg 103 15 102 true,
 zg 104 (.bin .eql (.t 103) (.c (.int .i64 2))) 102 true,
 zg 105 (.pick (.t 102) (.t 104) (.c (.bool false))) 99 false,
 zmg 106 105 99 false,
 zmg 107 6 106 true,
 zg 108 (.bin .gtr (.t 107) (.c (.int .i64 500))) 106 true,
 zg 109 (.pick (.t 106) (.t 108) (.c (.bool false))) 99 false,
 zy 110 99 109,
 zm 111 110,
 zg 112 (.ld true 3 (.t 14)) 111 true,
 zg 113 (.call f_r16_None [(.t 112)] []) 111 true,
 zu 114 111 113,
 zm 115 114,
 zg 116 (.call f_w16_awake [] []) 115 true,
 zu 117 115 116,
 zm 4 117])
  (.ret)) (.skip)))
 (.seq (.seq (.reg [zm 118 5,
 zq 119 (.bin .neq (.t 118) (.c (.int .i64 0))),
 zm 120 119,
 zg 121 (.ld true 3 (.t 14)) 120 false,
 zg 122 (.call f_r16_Is [(.t 121)] []) 120 false,
 zg 123 (.un .not (.t 122)) 120 false,
 zy 124 120 123,
 zm 125 124,
 zfg 126 1 14 125 false,
 zlg 127 1 126 125 false,
 zmg 128 1 125 false,
 zg 129 (.lenl (.t 128)) 125 false,
 zg 130 (.bin .neq (.t 127) (.t 129)) 125 false,
 zy 131 125 130,
 zm 132 131,
 zfg 133 0 14 132 false,
 zlg 134 1 133 132 false,
 zmg 135 0 132 false,
 zg 136 (.call f_r01_SameStrings [(.t 134), (.t 135)] []) 132 false,
 zg 137 (.un .not (.t 136)) 132 false,
 zy 138 132 137])
 (.cond (.t 138) (.seq (.reg [zo 4 false])
  (.ret)) (.skip)))
 (.seq (.seq (.reg [zm 139 1,
 zn 140 139,
 zk 141 0])
 (.blk 7 (l_w16_FamilyOf_7)))
 (.seq (.reg [zq 162 (.call f_w16_awake [] []),
 zm 4 162])
 (.ret))))))))))))))
def s_w16_FamilyOf : List Nat := [8, 10, 13, 84, 85, 89, 14, 17]
def F_w16_FamilyOf : IF := ⟨2, 163, 8, c_w16_FamilyOf, [(4, none)], true, false, false⟩
def c_w16_awake : C :=
 .seq (.reg [zo 0 false])
 (.seq (.reg [⟨some 8, .bsl 0 1 1 [(.c (.str ⟨#[97]⟩))], none⟩,
 zq 9 (.bsl 1 1 1 [(.c .nils)]),
 zq 10 (.bld [.nils, .nils] [(0, 1, (.t 8)), (1, 1, (.t 9))]),
 zq 11 (.call f_w16_pair [] []),
 zq 12 (.call f_family_Satisfied [(.t 10), (.t 11)] []),
 zm 7 12,
 zq 13 (.ext (.t 7) 0),
 zq 14 (.ext (.t 7) 1),
 zm 1 13,
 zm 2 14])
 (.seq (.reg [zq 16 (.call f_w16_pair [] []),
 zq 17 (.call f_family_Full [(.t 16)] []),
 zm 15 17,
 zq 18 (.ext (.t 15) 0),
 zq 19 (.ext (.t 15) 1),
 zm 3 18,
 zm 4 19])
 (.seq (.reg [zq 21 (.call f_w16_pair [] []),
 zq 22 (.call f_family_Product [(.t 21), (.c (.int .i64 1))] []),
 zm 20 22,
 zq 23 (.ext (.t 20) 0),
 zq 24 (.ext (.t 20) 1),
 zq 5 (.alc 2 2 (.agg [.nils, .nils])),
 zs 2 5 23,
 zm 6 24])
 (.seq (.reg [zm 25 2,
 zq 26 (.bin .eql (.t 25) (.c (.int .i64 0))),
 zm 27 26,
 zmg 28 1 27 true,
 zg 29 (.bin .eql (.t 28) (.c (.int .i64 1))) 27 true,
 zu 30 27 29,
 zm 31 30,
 zmg 32 4 31 true,
 zg 33 (.bin .eql (.t 32) (.c (.int .i64 0))) 31 true,
 zu 34 31 33,
 zm 35 34,
 zmg 36 3 35 true,
 zg 37 (.bin .eql (.t 36) (.c (.int .i64 3))) 35 true,
 zu 38 35 37,
 zm 39 38,
 zmg 40 6 39 true,
 zg 41 (.bin .eql (.t 40) (.c (.int .i64 0))) 39 true,
 zu 42 39 41,
 zm 43 42,
 zfg 44 1 5 43 true,
 zlg 45 1 44 43 true,
 zg 46 (.lenl (.t 45)) 43 true,
 zg 47 (.bin .eql (.t 46) (.c (.int .i64 1))) 43 true,
 zu 48 43 47,
 zm 49 48,
 zfg 50 1 5 49 true,
 zlg 51 1 50 49 true,
 zg 52 (.iad 2 (.t 51) (.c (.int .i64 0))) 49 true,
 zfg 53 0 52 49 true,
 zlg 54 1 53 49 true,
 zg 55 (.bsl 3 1 1 [(.c (.int .i64 1))]) 49 true,
 zg 56 (.call f_r01_SameInts [(.t 54), (.t 55)] []) 49 true,
 zu 57 49 56,
 zm 0 57])
 (.ret)))))
def s_w16_awake : List Nat := [8, 9, 5, 55]
def F_w16_awake : IF := ⟨0, 58, 4, c_w16_awake, [(0, none)], true, false, false⟩
def l_r16_Is_0 : C :=
 .loop (rest 50 [1, 32, 33, 34]) [1] (.seq (.reg [zb 35 .lss 34 33])
 (.seq (.cond (.t 35) (.skip) (.exit 0))
 (.seq (.blk 1 (.seq (.reg [zi 36 2 32 34,
 zL 37 2 36,
 zq 4 (.alc 1 2 (.agg [.nils, .nils])),
 zs 2 4 37])
  (.seq (.reg [zL 38 2 4,
 zf 39 0 1,
 zl 40 1 39,
 zn 41 40,
 zf 42 2 1,
 zl 43 1 42,
 zn 44 43,
 zf 45 1 1,
 zl 46 1 45,
 zq 47 (.call f_r16_plan [(.t 38), (.t 41), (.t 44), (.t 46)] []),
 zq 48 (.un .not (.t 47))])
  (.cond (.t 48) (.seq (.reg [zo 2 false])
   (.ret)) (.skip)))))
 (.reg [za 49 34 1,
 zm 34 49]))))
def c_r16_Is : C :=
 .seq (.reg [zq 1 (.box 0 3 (.t 0)),
 zo 2 false])
 (.seq (.seq (.reg [zf 5 0 1,
 zl 6 1 5,
 zq 7 (.call f_r01_Is [(.t 6)] []),
 zq 8 (.un .not (.t 7)),
 zm 9 8,
 zfg 10 1 1 9 false,
 zlg 11 1 10 9 false,
 zg 12 (.bin .lss (.t 11) (.c (.int .i64 1))) 9 false,
 zy 13 9 12,
 zm 14 13,
 zfg 15 1 1 14 false,
 zlg 16 1 15 14 false,
 zg 17 (.bin .gtr (.t 16) (.c (.int .i64 32))) 14 false,
 zy 18 14 17,
 zm 19 18,
 zfg 20 2 1 19 false,
 zlg 21 1 20 19 false,
 zg 22 (.lenl (.t 21)) 19 false,
 zg 23 (.bin .lss (.t 22) (.c (.int .i64 1))) 19 false,
 zy 24 19 23,
 zm 25 24,
 zfg 26 2 1 25 false,
 zlg 27 1 26 25 false,
 zg 28 (.lenl (.t 27)) 25 false,
 zg 29 (.bin .gtr (.t 28) (.c (.int .i64 500))) 25 false,
 zy 30 25 29])
 (.cond (.t 30) (.seq (.reg [zo 2 false])
  (.ret)) (.skip)))
 (.seq (.seq (.reg [zf 31 2 1,
 zl 32 1 31,
 zn 33 32,
 zk 34 0])
 (.blk 0 (l_r16_Is_0)))
 (.seq (.reg [zo 2 true])
 (.ret))))
def s_r16_Is : List Nat := [1, 4]
def F_r16_Is : IF := ⟨1, 50, 2, c_r16_Is, [(2, none)], true, false, false⟩
def l_r01_SameStrings_0 : C :=
 .loop (rest 26 [1, 12, 13, 14]) [] (.seq (.reg [zb 15 .lss 14 13])
 (.seq (.cond (.t 15) (.skip) (.exit 0))
 (.seq (.blk 1 (.seq (.reg [zm 16 14,
 zi 17 1 12 14,
 zl 18 1 17,
 zm 5 16,
 zm 6 18])
  (.seq (.reg [zm 19 6,
 zm 20 1,
 zm 21 5,
 zi 22 1 20 21,
 zl 23 1 22,
 zb 24 .neq 19 23])
  (.cond (.t 24) (.seq (.reg [zo 4 false])
   (.ret)) (.skip)))))
 (.reg [za 25 14 1,
 zm 14 25]))))
def c_r01_SameStrings : C :=
 .seq (.reg [zo 4 false])
 (.seq (.seq (.reg [zm 7 0,
 zn 8 7,
 zm 9 1,
 zn 10 9,
 zb 11 .neq 8 10])
 (.cond (.t 11) (.seq (.reg [zo 4 false])
  (.ret)) (.skip)))
 (.seq (.seq (.reg [zm 12 0,
 zn 13 12,
 zk 14 0])
 (.blk 0 (l_r01_SameStrings_0)))
 (.seq (.reg [zo 4 true])
 (.ret))))
def s_r01_SameStrings : List Nat := []
def F_r01_SameStrings : IF := ⟨2, 26, 0, c_r01_SameStrings, [(4, none)], true, false, false⟩
def l_family_Satisfied_3 : C :=
 .loop (rest 152 [2, 3, 6, 7, 8, 9, 10, 11, 12, 13, 75, 76, 77]) [5] (.seq (.reg [zb 78 .lss 77 76])
 (.seq (.cond (.t 78) (.skip) (.exit 3))
 (.seq (.blk 4 (.seq (.reg [zi 79 2 75 77,
 zL 80 2 79,
 zq 15 (.alc 5 2 (.agg [(.int .i64 0), (.int .i64 0)])),
 zs 2 15 80])
  (.seq (.reg [zf 81 0 15,
 zl 82 1 81,
 zm 83 12,
 zb 84 .eql 82 83])
  (.cond (.t 84) (.reg [zf 85 1 15,
 zl 86 1 85,
 zm 13 86]) (.skip)))))
 (.reg [za 87 77 1,
 zm 77 87]))))
def l_family_Satisfied_7 : C :=
 .loop (rest 152 [2, 3, 6, 7, 8, 9, 10, 11, 17, 101, 102, 103, 117, 118, 119]) [7, 8, 9] (.seq (.reg [zb 120 .lss 119 118])
 (.seq (.cond (.t 120) (.skip) (.exit 7))
 (.seq (.blk 8 (.seq (.reg [zi 121 2 117 119,
 zL 122 2 121,
 zq 19 (.alc 7 2 (.agg [(.int .i64 0), (.int .i64 0)])),
 zs 2 19 122])
  (.seq (.reg [zf 123 1 17,
 zl 124 1 123,
 zf 125 0 19,
 zl 126 1 125,
 zq 127 (.bld [(.int .i64 0), (.int .i64 0)] [(0, 1, (.t 124)), (1, 1, (.t 126))]),
 zq 20 (.alc 8 2 (.agg [(.int .i64 0), (.int .i64 0)])),
 zs 2 20 127])
  (.seq (.drw [zm 128 11,
 zf 129 1 19,
 zl 130 1 129,
 zb 131 .and 128 130,
 zm 132 7,
 zL 133 2 20,
 zq 134 (.lok (true, [1, 1]) (.int .i64 0) false (.t 132) (.t 133)),
 zb 135 .andNot 131 134,
 zm 21 135] [])
  (.seq (.reg [zm 136 21,
 zq 137 (.bin .neq (.t 136) (.c (.int .i64 0)))])
  (.cond (.t 137) (.seq (.drw [zm 138 7,
 zL 139 2 20,
 zq 140 (.lok (true, [1, 1]) (.int .i64 0) false (.t 138) (.t 139)),
 zm 141 21,
 zb 142 .or 140 141,
 zq 143 (.men (true, [1, 1]) (.int .i64 0) (.t 138) (.t 139)),
 zq 144 (.ext (.t 143) 1),
 zr (.est (.t 138) (.t 144) (.t 142))] [])
  (.reg [zm 145 8,
 zL 146 2 20,
 zq 147 (.bsl 9 2 1 [(.t 146)]),
 zq 148 (.app 10 2 16 (.t 145) (.t 147)),
 zm 8 148])) (.skip)))))))
 (.reg [za 149 119 1,
 zm 119 149]))))
def l_family_Satisfied_5 : C :=
 .loop (rest 152 [2, 3, 6, 7, 8, 9, 10, 11, 101, 102, 103]) [6, 7, 8, 9] (.seq (.reg [zb 104 .lss 103 102])
 (.seq (.cond (.t 104) (.skip) (.exit 5))
 (.seq (.blk 6 (.seq (.reg [zi 105 2 101 103,
 zL 106 2 105,
 zq 17 (.alc 6 2 (.agg [(.int .i64 0), (.int .i64 0)])),
 zs 2 17 106])
  (.seq (.drw [zf 107 2 3,
 zl 108 1 107,
 zq 109 (.iaa 2 1 (.t 10) (.c (.int .i64 1))),
 zl 110 1 109,
 zi 111 2 108 110,
 zf 112 1 111,
 zl 113 1 112,
 zf 114 0 17,
 zl 115 1 114,
 zi 116 1 113 115,
 zl 117 1 116,
 zn 118 117,
 zk 119 0] [])
  (.blk 7 (l_family_Satisfied_7)))))
 (.reg [za 150 103 1,
 zm 103 150]))))
def l_family_Satisfied_1 : C :=
 .loop (rest 152 [2, 3, 6, 7, 8, 9]) [4, 5, 6, 7, 8, 9] (.mvt 8 10 (.seq (.seq (.reg [zm 47 9,
 zm 48 8,
 zn 49 48,
 zb 50 .lss 47 49])
 (.cond (.t 50) (.skip) (.exit 1)))
 (.seq (.blk 2 (.seq (.reg [zm 53 8,
 zm 54 9,
 zi 55 2 53 54,
 zL 56 2 55,
 zq 10 (.alc 4 2 (.agg [(.int .i64 0), (.int .i64 0)])),
 zs 2 10 56])
  (.seq (.drw [zm 57 7,
 zL 58 2 10,
 zq 59 (.lok (true, [1, 1]) (.int .i64 0) false (.t 57) (.t 58)),
 zm 60 6,
 zb 61 .and 59 60,
 zf 62 1 2,
 zl 63 1 62,
 zq 64 (.iaa 2 1 (.t 10) (.c (.int .i64 0))),
 zl 65 1 64,
 zi 66 1 63 65,
 zl 67 1 66,
 zq 68 (.call f_system_Offers [(.t 67)] []),
 zm 11 61,
 zm 12 68] [(1, 11), (2, 11)])
  (.seq (.reg [zk 13 0])
  (.seq (.seq (.reg [zf 69 2 3,
 zl 70 1 69,
 zq 71 (.iaa 2 1 (.t 10) (.c (.int .i64 1))),
 zl 72 1 71,
 zi 73 2 70 72,
 zf 74 0 73,
 zl 75 1 74,
 zn 76 75,
 zk 77 0])
  (.blk 3 (l_family_Satisfied_3)))
  (.seq (.reg [zm 88 6,
 zm 89 11,
 zm 90 13,
 zb 91 .andNot 89 90,
 zb 92 .andNot 88 91,
 zm 6 92])
  (.seq (.reg [zm 93 11,
 zm 94 13,
 zb 95 .and 93 94,
 zm 11 95])
  (.seq (.reg [zf 96 1 2,
 zl 97 1 96,
 zq 98 (.iaa 2 1 (.t 10) (.c (.int .i64 0))),
 zl 99 1 98,
 zi 100 1 97 99,
 zl 101 1 100,
 zn 102 101,
 zk 103 0])
  (.blk 5 (l_family_Satisfied_5))))))))))
 (.reg [zm 51 9,
 za 52 51 1,
 zm 9 52]))))
def c_family_Satisfied : C :=
 .seq (.reg [zq 2 (.box 0 2 (.t 0)),
 zq 3 (.box 1 3 (.t 1)),
 zk 4 0,
 zk 5 0])
 (.seq (.blk 0 (.seq (.reg [zL 23 2 2,
 zq 24 (.call f_system_Valid [(.t 23)] []),
 zq 25 (.un .not (.t 24)),
 zm 22 25])
  (.cond (.t 22) (.seq (.reg [zk 4 0,
 zk 5 20])
  (.ret)) (.seq (.reg [zL 27 3 3,
 zq 28 (.call f_family_Valid [(.t 27)] []),
 zq 29 (.un .not (.t 28)),
 zm 26 29])
  (.cond (.t 26) (.seq (.reg [zk 4 0,
 zk 5 160])
  (.ret)) (.seq (.reg [zf 31 0 2,
 zl 32 1 31,
 zf 33 0 3,
 zl 34 1 33,
 zq 35 (.call f_slices_EqualZsgsg [(.t 32), (.t 34)] []),
 zq 36 (.un .not (.t 35)),
 zm 30 36])
  (.cond (.t 30) (.seq (.reg [zk 4 0,
 zk 5 10])
  (.ret)) (.skip))))))))
 (.seq (.reg [zf 37 1 3,
 zl 38 1 37,
 zq 39 (.bin .shl (.c (.int .i64 1)) (.t 38)),
 zq 40 (.bin .sub (.t 39) (.c (.int .i64 1))),
 zm 6 40])
 (.seq (.reg [zq 41 (.mkm 2),
 zq 42 (.bld [(.int .i64 0), (.int .i64 0)] []),
 zm 43 6,
 zr (.mup (true, [1, 1]) (.t 41) (.t 42) (.t 43)),
 zm 44 41,
 zm 7 44])
 (.seq (.reg [zq 45 (.bld [(.int .i64 0), (.int .i64 0)] []),
 zq 46 (.bsl 3 2 1 [(.t 45)]),
 zm 8 46])
 (.seq (.seq (.reg [zk 9 0])
 (.blk 1 (l_family_Satisfied_1)))
 (.seq (.reg [zm 151 6,
 zm 4 151,
 zk 5 0])
 (.ret)))))))
def s_family_Satisfied : List Nat := [2, 3, 41, 46, 10, 15, 17, 19, 20, 147, 148]
def F_family_Satisfied : IF := ⟨2, 152, 11, c_family_Satisfied, [(4, none), (5, none)], true, false, false⟩
def c_family_Full : C :=
 .seq (.reg [zq 1 (.box 0 3 (.t 0)),
 zk 2 0,
 zk 3 0])
 (.seq (.seq (.reg [zL 4 3 1,
 zq 5 (.call f_family_Valid [(.t 4)] []),
 zq 6 (.un .not (.t 5))])
 (.cond (.t 6) (.seq (.reg [zk 2 0,
 zk 3 160])
  (.ret)) (.skip)))
 (.seq (.reg [zf 7 1 1,
 zl 8 1 7,
 zq 9 (.mkf f_family_Full_1 [(.t 1)]),
 zq 10 (.call f_family_which [(.t 8), (.t 9)] []),
 zm 2 10,
 zk 3 0])
 (.ret)))
def s_family_Full : List Nat := [1]
def F_family_Full : IF := ⟨1, 11, 1, c_family_Full, [(2, none), (3, none)], true, false, false⟩
def l_r16_Product_2 : C :=
 .loop (rest 60 [1, 4, 5, 8, 18, 19, 20, 30, 31, 32]) [6, 7] (.seq (.reg [zb 33 .lss 32 31])
 (.seq (.cond (.t 33) (.skip) (.exit 2))
 (.seq (.blk 3 (.seq (.reg [zi 34 1 30 32,
 zl 35 1 34,
 zm 10 35])
  (.seq (.reg [zk 11 (-1)])
  (.seq (.seq (.reg [zm 36 10,
 zm 37 1,
 zq 38 (.call f_r16_chosen [(.t 36), (.t 37)] []),
 zm 12 38])
  (.seq (.reg [zm 39 12,
 zn 40 39,
 zq 41 (.bin .gtr (.t 40) (.c (.int .i64 0)))])
  (.cond (.t 41) (.reg [zm 42 12,
 zq 43 (.iad 1 (.t 42) (.c (.int .i64 0))),
 zl 44 1 43,
 zm 11 44]) (.skip))))
  (.reg [zf 45 1 8,
 zl 46 1 45,
 zm 47 11,
 zq 48 (.bsl 6 1 1 [(.t 47)]),
 zq 49 (.app 7 1 8 (.t 46) (.t 48)),
 zf 50 1 8,
 zs 1 50 49])))))
 (.reg [za 51 32 1,
 zm 32 51]))))
def l_r16_Product_0 : C :=
 .loop (rest 60 [1, 4, 5, 18, 19, 20]) [4, 5, 6, 7, 8, 9] (.seq (.reg [zb 21 .lss 20 19])
 (.seq (.cond (.t 21) (.skip) (.exit 0))
 (.seq (.blk 1 (.seq (.reg [zi 22 2 18 20,
 zL 23 2 22,
 zq 7 (.alc 4 2 (.agg [.nils, .nils])),
 zs 2 7 23])
  (.seq (.reg [zf 24 0 7,
 zl 25 1 24,
 zm 26 1,
 zq 27 (.call f_r16_chosen [(.t 25), (.t 26)] []),
 zq 28 (.bld [.nils, .nils] [(0, 1, (.t 27))]),
 zq 8 (.alc 5 2 (.agg [.nils, .nils])),
 zs 2 8 28])
  (.seq (.seq (.reg [zf 29 1 7,
 zl 30 1 29,
 zn 31 30,
 zk 32 0])
  (.blk 2 (l_r16_Product_2)))
  (.reg [zf 52 1 5,
 zl 53 1 52,
 zL 54 2 8,
 zq 55 (.bsl 8 2 1 [(.t 54)]),
 zq 56 (.app 9 2 48 (.t 53) (.t 55)),
 zf 57 1 5,
 zs 1 57 56])))))
 (.reg [za 58 20 1,
 zm 20 58]))))
def c_r16_Product : C :=
 .seq (.reg [zq 2 (.box 0 3 (.t 0)),
 zq 4 (.alc 1 2 (.agg [.nils, .nils]))])
 (.seq (.reg [zf 13 0 2,
 zl 14 1 13,
 zq 15 (.app 2 1 16 (.c .nils) (.t 14)),
 zq 16 (.bld [.nils, .nils] [(0, 1, (.t 15))]),
 zq 5 (.alc 3 2 (.agg [.nils, .nils])),
 zs 2 5 16])
 (.seq (.seq (.reg [zf 17 2 2,
 zl 18 1 17,
 zn 19 18,
 zk 20 0])
 (.blk 0 (l_r16_Product_0)))
 (.seq (.reg [zL 59 2 5,
 zs 2 4 59])
 (.ret))))
def s_r16_Product : List Nat := [2, 4, 15, 5, 7, 8, 48, 49, 55, 56]
def F_r16_Product : IF := ⟨2, 60, 10, c_r16_Product, [(4, some (true, 2))], true, false, false⟩
def c_family_Product : C :=
 .seq (.reg [zq 2 (.box 0 3 (.t 0)),
 zq 4 (.alc 1 2 (.agg [.nils, .nils])),
 zk 5 0])
 (.seq (.blk 0 (.seq (.reg [zL 7 3 2,
 zq 8 (.call f_family_Valid [(.t 7)] []),
 zq 9 (.un .not (.t 8)),
 zm 6 9])
  (.cond (.t 6) (.seq (.reg [zq 10 (.bld [.nils, .nils] []),
 zs 2 4 10,
 zk 5 160])
  (.ret)) (.seq (.reg [zm 12 1,
 zq 13 (.bin .lss (.t 12) (.c (.int .i64 0))),
 zm 14 13,
 zmg 15 1 14 false,
 zfg 16 1 2 14 false,
 zlg 17 1 16 14 false,
 zg 18 (.bin .geq (.t 15) (.t 17)) 14 false,
 zy 19 14 18,
 zm 11 19])
  (.cond (.t 11) (.seq (.reg [zq 20 (.bld [.nils, .nils] []),
 zs 2 4 20,
 zk 5 1])
  (.ret)) (.skip))))))
 (.seq (.reg [zL 21 3 2,
 zm 22 1,
 zq 23 (.call f_family_single [(.t 21), (.t 22)] []),
 zs 2 4 23,
 zk 5 0])
 (.ret)))
def s_family_Product : List Nat := [2, 4]
def F_family_Product : IF := ⟨2, 24, 2, c_family_Product, [(4, some (true, 2)), (5, none)], true, false, false⟩
def l_r03_Same_0 : C :=
 .loop (rest 53 [3, 23, 24, 25]) [2] (.seq (.reg [zb 26 .lss 25 24])
 (.seq (.cond (.t 26) (.skip) (.exit 0))
 (.seq (.blk 1 (.seq (.reg [zm 27 25,
 zi 28 2 23 25,
 zL 29 2 28,
 zq 6 (.alc 2 2 (.agg [.nils, .nils])),
 zm 5 27,
 zs 2 6 29])
  (.seq (.drw [zf 30 0 6,
 zl 31 1 30,
 zf 32 1 3,
 zl 33 1 32,
 zm 34 5,
 zi 35 2 33 34,
 zf 36 0 35,
 zl 37 1 36,
 zq 38 (.call f_r01_SameInts [(.t 31), (.t 37)] []),
 zq 39 (.un .not (.t 38)),
 zm 40 39,
 zfg 41 1 6 40 false,
 zlg 42 1 41 40 false,
 zfg 43 1 3 40 false,
 zlg 44 1 43 40 false,
 zmg 45 5 40 false,
 zg 46 (.iad 2 (.t 44) (.t 45)) 40 false,
 zfg 47 1 46 40 false,
 zlg 48 1 47 40 false,
 zg 49 (.call f_r01_SameInts [(.t 42), (.t 48)] []) 40 false,
 zg 50 (.un .not (.t 49)) 40 false,
 zy 51 40 50] [])
  (.cond (.t 51) (.seq (.reg [zo 4 false])
   (.ret)) (.skip)))))
 (.reg [za 52 25 1,
 zm 25 52]))))
def c_r03_Same : C :=
 .seq (.reg [zq 2 (.box 0 2 (.t 0)),
 zq 3 (.box 1 2 (.t 1)),
 zo 4 false])
 (.seq (.seq (.reg [zf 7 0 2,
 zl 8 1 7,
 zf 9 0 3,
 zl 10 1 9,
 zq 11 (.call f_r01_SameStrings [(.t 8), (.t 10)] []),
 zq 12 (.un .not (.t 11)),
 zm 13 12,
 zfg 14 1 2 13 false,
 zlg 15 1 14 13 false,
 zg 16 (.lenl (.t 15)) 13 false,
 zfg 17 1 3 13 false,
 zlg 18 1 17 13 false,
 zg 19 (.lenl (.t 18)) 13 false,
 zg 20 (.bin .neq (.t 16) (.t 19)) 13 false,
 zy 21 13 20])
 (.cond (.t 21) (.seq (.reg [zo 4 false])
  (.ret)) (.skip)))
 (.seq (.seq (.reg [zf 22 1 2,
 zl 23 1 22,
 zn 24 23,
 zk 25 0])
 (.blk 0 (l_r03_Same_0)))
 (.seq (.reg [zo 4 true])
 (.ret))))
def s_r03_Same : List Nat := [2, 3, 6]
def F_r03_Same : IF := ⟨2, 53, 3, c_r03_Same, [(4, none)], true, false, false⟩
def l_w16_short_0 : C :=
 .loop (rest 32 [0, 3]) [] (.seq (.seq (.reg [zm 4 3,
 zm 5 0,
 zn 6 5,
 zb 7 .lss 4 6,
 zm 8 7,
 zmg 9 3 8 true,
 zg 10 (.bin .lss (.t 9) (.c (.int .i64 40))) 8 true,
 zu 11 8 10])
 (.cond (.t 11) (.skip) (.exit 0)))
 (.seq (.blk 1 (.seq (.reg [zm 14 0,
 zm 15 3,
 zi 16 2 14 15,
 zf 17 1 16,
 zl 18 1 17,
 zn 19 18,
 zq 20 (.bin .gtr (.t 19) (.c (.int .i64 60))),
 zm 21 20,
 zmg 22 0 21 false,
 zmg 23 3 21 false,
 zg 24 (.iad 2 (.t 22) (.t 23)) 21 false,
 zg 25 (.ld true 2 (.t 24)) 21 false,
 zg 26 (.call f_r03_Few [(.t 25), (.c (.int .i64 800))] []) 21 false,
 zg 27 (.un .not (.t 26)) 21 false,
 zy 28 21 27])
  (.cond (.t 28) (.seq (.reg [zo 2 false])
   (.ret)) (.skip))))
 (.reg [zm 12 3,
 za 13 12 1,
 zm 3 13])))
def c_w16_short : C :=
 .seq (.reg [zo 2 false])
 (.seq (.seq (.reg [zk 3 0])
 (.blk 0 (l_w16_short_0)))
 (.seq (.reg [zm 29 0,
 zn 30 29,
 zq 31 (.bin .leq (.t 30) (.c (.int .i64 40))),
 zm 2 31])
 (.ret)))
def s_w16_short : List Nat := []
def F_w16_short : IF := ⟨1, 32, 0, c_w16_short, [(2, none)], true, false, false⟩
def l_r01_Is_0 : C :=
 .loop (rest 26 [0, 8, 9, 10]) [] (.seq (.reg [zb 11 .lss 10 9])
 (.seq (.cond (.t 11) (.skip) (.exit 0))
 (.seq (.blk 1 (.seq (.reg [zm 12 10,
 zi 13 1 8 10,
 zl 14 1 13,
 zm 3 12,
 zm 4 14])
  (.seq (.reg [zm 15 4,
 zq 16 (.call f_r01_Name [(.t 15)] []),
 zq 17 (.un .not (.t 16)),
 zm 18 17,
 zmg 19 0 18 false,
 zmg 20 4 18 false,
 zg 21 (.call f_r01_Index [(.t 19), (.t 20)] []) 18 false,
 zmg 22 3 18 false,
 zg 23 (.bin .neq (.t 21) (.t 22)) 18 false,
 zy 24 18 23])
  (.cond (.t 24) (.seq (.reg [zo 2 false])
   (.ret)) (.skip)))))
 (.reg [za 25 10 1,
 zm 10 25]))))
def c_r01_Is : C :=
 .seq (.reg [zo 2 false])
 (.seq (.seq (.reg [zm 5 0,
 zn 6 5,
 zq 7 (.bin .gtr (.t 6) (.c (.int .i64 8)))])
 (.cond (.t 7) (.seq (.reg [zo 2 false])
  (.ret)) (.skip)))
 (.seq (.seq (.reg [zm 8 0,
 zn 9 8,
 zk 10 0])
 (.blk 0 (l_r01_Is_0)))
 (.seq (.reg [zo 2 true])
 (.ret))))
def s_r01_Is : List Nat := []
def F_r01_Is : IF := ⟨1, 26, 0, c_r01_Is, [(2, none)], true, false, false⟩
def l_r03_Is_0 : C :=
 .loop (rest 38 [1, 22, 23, 24]) [1] (.seq (.reg [zb 25 .lss 24 23])
 (.seq (.cond (.t 25) (.skip) (.exit 0))
 (.seq (.blk 1 (.seq (.reg [zi 26 2 22 24,
 zL 27 2 26,
 zq 4 (.alc 1 2 (.agg [.nils, .nils])),
 zs 2 4 27])
  (.seq (.reg [zL 28 2 4,
 zf 29 1 1,
 zl 30 1 29,
 zn 31 30,
 zf 32 0 1,
 zl 33 1 32,
 zn 34 33,
 zq 35 (.call f_r03_state [(.t 28), (.t 31), (.t 34)] []),
 zq 36 (.un .not (.t 35))])
  (.cond (.t 36) (.seq (.reg [zo 2 false])
   (.ret)) (.skip)))))
 (.reg [za 37 24 1,
 zm 24 37]))))
def c_r03_Is : C :=
 .seq (.reg [zq 1 (.box 0 2 (.t 0)),
 zo 2 false])
 (.seq (.seq (.reg [zf 5 0 1,
 zl 6 1 5,
 zq 7 (.call f_r01_Is [(.t 6)] []),
 zq 8 (.un .not (.t 7)),
 zm 9 8,
 zfg 10 1 1 9 false,
 zlg 11 1 10 9 false,
 zg 12 (.lenl (.t 11)) 9 false,
 zg 13 (.bin .lss (.t 12) (.c (.int .i64 1))) 9 false,
 zy 14 9 13,
 zm 15 14,
 zfg 16 1 1 15 false,
 zlg 17 1 16 15 false,
 zg 18 (.lenl (.t 17)) 15 false,
 zg 19 (.bin .gtr (.t 18) (.c (.int .i64 500))) 15 false,
 zy 20 15 19])
 (.cond (.t 20) (.seq (.reg [zo 2 false])
  (.ret)) (.skip)))
 (.seq (.seq (.reg [zf 21 1 1,
 zl 22 1 21,
 zn 23 22,
 zk 24 0])
 (.blk 0 (l_r03_Is_0)))
 (.seq (.reg [zo 2 true])
 (.ret))))
def s_r03_Is : List Nat := [1, 4]
def F_r03_Is : IF := ⟨1, 38, 2, c_r03_Is, [(2, none)], true, false, false⟩
def l_r03_Copy_0 : C :=
 .loop (rest 31 [2, 3, 11, 12, 13]) [4, 5, 6, 7, 8] (.seq (.reg [zb 14 .lss 13 12])
 (.seq (.cond (.t 14) (.skip) (.exit 0))
 (.seq (.blk 1 (.seq (.reg [zi 15 2 11 13,
 zL 16 2 15,
 zq 5 (.alc 4 2 (.agg [.nils, .nils])),
 zs 2 5 16])
  (.drw [zf 17 1 3,
 zl 18 1 17,
 zf 19 0 5,
 zl 20 1 19,
 zq 21 (.app 5 1 8 (.c .nils) (.t 20)),
 zf 22 1 5,
 zl 23 1 22,
 zq 24 (.app 6 1 8 (.c .nils) (.t 23)),
 zq 25 (.bld [.nils, .nils] [(0, 1, (.t 21)), (1, 1, (.t 24))]),
 zq 26 (.bsl 7 2 1 [(.t 25)]),
 zq 27 (.app 8 2 48 (.t 18) (.t 26)),
 zf 28 1 3,
 zs 1 28 27] [(0, 4), (1, 4), (4, 5), (4, 6), (0, 7), (1, 7), (0, 9), (1, 9)])))
 (.reg [za 29 13 1,
 zm 13 29]))))
def c_r03_Copy : C :=
 .seq (.reg [zq 1 (.box 0 2 (.t 0)),
 zq 2 (.alc 1 2 (.agg [.nils, .nils]))])
 (.seq (.reg [zf 6 0 1,
 zl 7 1 6,
 zq 8 (.app 2 1 16 (.c .nils) (.t 7)),
 zq 9 (.bld [.nils, .nils] [(0, 1, (.t 8))]),
 zq 3 (.alc 3 2 (.agg [.nils, .nils])),
 zs 2 3 9])
 (.seq (.seq (.reg [zf 10 1 1,
 zl 11 1 10,
 zn 12 11,
 zk 13 0])
 (.blk 0 (l_r03_Copy_0)))
 (.seq (.reg [zL 30 2 3,
 zs 2 2 30])
 (.ret))))
def s_r03_Copy : List Nat := [1, 2, 8, 3, 5, 21, 24, 26, 27]
def F_r03_Copy : IF := ⟨1, 31, 9, c_r03_Copy, [(2, some (true, 2))], true, false, false⟩
def l_family_Of_3 : C :=
 .loop (rest 202 [2, 4, 6, 7, 8, 10, 12, 59, 60, 61, 85, 86, 87]) [] (.seq (.reg [zb 88 .lss 87 86])
 (.seq (.cond (.t 88) (.skip) (.exit 3))
 (.seq (.blk 4 (.seq (.reg [zi 89 1 85 87,
 zl 90 1 89,
 zm 14 90])
  (.drw [zm 91 14,
 zq 92 (.iaa 256 1 (.t 7) (.t 91)),
 zl 93 1 92,
 zm 94 8,
 zq 95 (.bin .shl (.c (.int .i64 1)) (.t 94)),
 zb 96 .or 93 95,
 zq 97 (.iaa 256 1 (.t 7) (.t 91)),
 zs 1 97 96] [])))
 (.reg [za 98 87 1,
 zm 87 98]))))
def l_family_Of_7 : C :=
 .loop (rest 202 [2, 4, 6, 7, 8, 12, 15, 16, 17, 59, 60, 61, 100, 101, 102, 112, 113, 114]) [11, 12] (.seq (.reg [zb 115 .lss 114 113])
 (.seq (.cond (.t 115) (.skip) (.exit 7))
 (.seq (.blk 8 (.seq (.reg [zi 116 1 112 114,
 zl 117 1 116,
 zm 19 117])
  (.drw [zf 118 0 17,
 zl 119 1 118,
 zm 120 19,
 zm 121 8,
 zq 122 (.bin .shl (.c (.int .i64 1)) (.t 121)),
 zq 123 (.bld [(.int .i64 0), (.int .i64 0)] [(0, 1, (.t 120)), (1, 1, (.t 122))]),
 zq 124 (.bsl 11 2 1 [(.t 123)]),
 zq 125 (.app 12 2 16 (.t 119) (.t 124)),
 zf 126 0 17,
 zs 1 126 125] [(0, 6), (1, 6)])))
 (.reg [za 127 114 1,
 zm 114 127]))))
def l_family_Of_9 : C :=
 .loop (rest 202 [2, 4, 6, 7, 8, 12, 15, 17, 59, 60, 61, 100, 101, 102, 129, 130, 131]) [13, 14, 15, 16] (.seq (.reg [zb 132 .lss 131 130])
 (.seq (.cond (.t 132) (.skip) (.exit 9))
 (.seq (.blk 10 (.seq (.reg [zm 133 131,
 zi 134 1 129 131,
 zl 135 1 134,
 zm 20 133,
 zm 21 135])
  (.seq (.seq (.reg [zm 136 21,
 zq 137 (.bin .lss (.t 136) (.c (.int .i64 0)))])
  (.cond (.t 137) (.exit 10) (.skip)))
  (.seq (.reg [zm 138 12,
 zm 139 21,
 zb 140 .add 138 139,
 zm 141 8,
 zq 142 (.bin .shl (.c (.int .i64 1)) (.t 141)),
 zq 143 (.bld [(.int .i64 0), (.int .i64 0)] [(0, 1, (.t 140)), (1, 1, (.t 142))]),
 zq 22 (.alc 13 2 (.agg [(.int .i64 0), (.int .i64 0)])),
 zs 2 22 143])
  (.seq (.reg [zf 144 1 17,
 zl 145 1 144,
 zm 146 20,
 zL 147 2 22,
 zq 148 (.bsl 14 2 1 [(.t 147)]),
 zi 149 1 145 146,
 zs 1 149 148])
  (.seq (.reg [zm 150 15,
 zq 151 (.bin .eql (.t 150) (.c (.int .i64 0)))])
  (.cond (.t 151) (.drs [zf 152 2 6,
 zl 153 1 152,
 zq 154 (.iad 2 (.t 153) (.c (.int .i64 0))),
 zf 155 1 154,
 zl 156 1 155,
 zm 157 20,
 zf 158 2 6,
 zl 159 1 158,
 zq 160 (.iad 2 (.t 159) (.c (.int .i64 0))),
 zf 161 1 160,
 zl 162 1 161,
 zm 163 20,
 zi 164 1 162 163,
 zl 165 1 164,
 zL 166 2 22,
 zq 167 (.bsl 15 2 1 [(.t 166)]),
 zq 168 (.app 16 2 16 (.t 165) (.t 167)),
 zi 169 1 156 157,
 zs 1 169 168] [(0, 15), (1, 15), (2, 15), (3, 15), (4, 15), (6, 15), (7, 15), (8, 15), (9, 15), (10, 15), (12, 15), (13, 15), (0, 16), (1, 16), (2, 16), (3, 16), (4, 16)]) (.skip))))))))
 (.reg [za 170 131 1,
 zm 131 170]))))
def l_family_Of_5 : C :=
 .loop (rest 202 [2, 4, 6, 7, 8, 12, 59, 60, 61, 100, 101, 102]) [8, 9, 10, 11, 12, 13, 14, 15, 16, 17, 18] (.seq (.reg [zb 103 .lss 102 101])
 (.seq (.cond (.t 103) (.skip) (.exit 5))
 (.seq (.blk 6 (.seq (.reg [zm 104 102,
 zi 105 2 100 102,
 zL 106 2 105,
 zq 16 (.alc 8 2 (.agg [.nils, .nils])),
 zm 15 104,
 zs 2 16 106])
  (.seq (.reg [zl 107 1 2,
 zn 108 107,
 zq 109 (.mks 9 1 24 .nils (.t 108) (.t 108)),
 zq 110 (.bld [.nils, .nils] [(1, 1, (.t 109))]),
 zq 17 (.alc 10 2 (.agg [.nils, .nils])),
 zs 2 17 110])
  (.seq (.seq (.reg [zf 111 0 16,
 zl 112 1 111,
 zn 113 112,
 zk 114 0])
  (.blk 7 (l_family_Of_7)))
  (.seq (.seq (.reg [zf 128 1 16,
 zl 129 1 128,
 zn 130 129,
 zk 131 0])
  (.blk 9 (l_family_Of_9)))
  (.reg [zf 171 2 6,
 zl 172 1 171,
 zL 173 2 17,
 zq 174 (.bsl 17 2 1 [(.t 173)]),
 zq 175 (.app 18 2 48 (.t 172) (.t 174)),
 zf 176 2 6,
 zs 1 176 175]))))))
 (.reg [za 177 102 1,
 zm 102 177]))))
def l_family_Of_1 : C :=
 .loop (rest 202 [2, 4, 6, 7, 59, 60, 61]) [6, 7, 8, 9, 10, 11, 12, 13, 14, 15, 16, 17, 18] (.seq (.reg [zb 62 .lss 61 60])
 (.seq (.cond (.t 62) (.skip) (.exit 1))
 (.seq (.blk 2 (.seq (.reg [zm 63 61,
 zi 64 2 59 61,
 zL 65 2 64,
 zq 9 (.alc 6 2 (.agg [.nils, .nils])),
 zm 8 63,
 zs 2 9 65])
  (.seq (.reg [zL 67 2 9,
 zq 68 (.call f_prune_Trimmed [(.t 67)] []),
 zm 66 68,
 zq 69 (.ext (.t 66) 0),
 zq 70 (.ext (.t 66) 1),
 zq 10 (.alc 7 2 (.agg [.nils, .nils])),
 zs 2 10 69,
 zm 11 70])
  (.seq (.reg [zf 71 2 6,
 zl 72 1 71,
 zn 73 72,
 zm 12 73])
  (.seq (.seq (.reg [zm 74 12,
 zf 75 1 10,
 zl 76 1 75,
 zn 77 76,
 zb 78 .add 74 77,
 zq 79 (.bin .gtr (.t 78) (.c (.int .i64 500)))])
  (.cond (.t 79) (.seq (.reg [zq 80 (.bld [.nils, (.int .i64 0), .nils] []),
 zs 3 4 80,
 zk 5 2])
  (.ret)) (.skip)))
  (.seq (.seq (.reg [zf 81 1 10,
 zl 82 1 81,
 zq 83 (.iad 2 (.t 82) (.c (.int .i64 0))),
 zf 84 0 83,
 zl 85 1 84,
 zn 86 85,
 zk 87 0])
  (.blk 3 (l_family_Of_3)))
  (.seq (.reg [zf 99 1 10,
 zl 100 1 99,
 zn 101 100,
 zk 102 0])
  (.blk 5 (l_family_Of_5)))))))))
 (.reg [za 178 61 1,
 zm 61 178]))))
def l_family_Of_11 : C :=
 .loop (rest 202 [4, 6, 179, 180]) [19, 20] (.seq (.reg [zq 181 (.bin .lss (.t 180) (.c (.int .i64 256)))])
 (.seq (.cond (.t 181) (.skip) (.exit 11))
 (.seq (.blk 12 (.seq (.reg [zm 182 180,
 zq 183 (.ixa false 256 1 (.t 179) (.t 180)),
 zm 23 182,
 zm 24 183])
  (.seq (.reg [zm 184 24,
 zq 185 (.bin .neq (.t 184) (.c (.int .i64 0)))])
  (.cond (.t 185) (.drs [zf 186 2 6,
 zl 187 1 186,
 zf 188 2 6,
 zl 189 1 188,
 zq 190 (.iad 2 (.t 189) (.c (.int .i64 0))),
 zf 191 0 190,
 zl 192 1 191,
 zm 193 23,
 zm 194 24,
 zq 195 (.bld [(.int .i64 0), (.int .i64 0)] [(0, 1, (.t 193)), (1, 1, (.t 194))]),
 zq 196 (.bsl 19 2 1 [(.t 195)]),
 zq 197 (.app 20 2 16 (.t 192) (.t 196)),
 zq 198 (.iad 2 (.t 187) (.c (.int .i64 0))),
 zf 199 0 198,
 zs 1 199 197] [(0, 10), (1, 10), (2, 10), (3, 10), (4, 10), (5, 10), (6, 10), (0, 11), (1, 11)]) (.skip)))))
 (.reg [za 200 180 1,
 zm 180 200]))))
def c_family_Of : C :=
 .seq (.reg [zq 2 (.box 0 1 (.t 0)),
 zq 4 (.alc 1 3 (.agg [.nils, (.int .i64 0), .nils])),
 zk 5 0])
 (.seq (.blk 0 (.seq (.reg [zl 26 1 2,
 zq 27 (.call f_act_Valid [(.t 26)] []),
 zq 28 (.un .not (.t 27)),
 zm 25 28])
  (.cond (.t 25) (.seq (.reg [zq 29 (.bld [.nils, (.int .i64 0), .nils] []),
 zs 3 4 29,
 zk 5 10])
  (.ret)) (.seq (.reg [zm 31 1,
 zn 32 31,
 zq 33 (.bin .lss (.t 32) (.c (.int .i64 1))),
 zm 34 33,
 zmg 35 1 34 false,
 zg 36 (.lenl (.t 35)) 34 false,
 zg 37 (.bin .gtr (.t 36) (.c (.int .i64 32))) 34 false,
 zy 38 34 37,
 zm 30 38])
  (.cond (.t 30) (.seq (.reg [zq 39 (.bld [.nils, (.int .i64 0), .nils] []),
 zs 3 4 39,
 zk 5 1])
  (.ret)) (.seq (.reg [zm 41 1,
 zq 42 (.call f_slices_ContainsFuncZaiScai [(.t 41), (.c (.fn f_family_Of_1 []))] []),
 zm 40 42])
  (.cond (.t 40) (.seq (.reg [zq 43 (.bld [.nils, (.int .i64 0), .nils] []),
 zs 3 4 43,
 zk 5 30])
  (.ret)) (.seq (.reg [zm 45 1,
 zq 46 (.mkf f_family_Of_2 [(.t 2)]),
 zq 47 (.call f_slices_ContainsFuncZaiScai [(.t 45), (.t 46)] []),
 zm 44 47])
  (.cond (.t 44) (.seq (.reg [zq 48 (.bld [.nils, (.int .i64 0), .nils] []),
 zs 3 4 48,
 zk 5 10])
  (.ret)) (.skip))))))))))
 (.seq (.drw [zl 49 1 2,
 zq 50 (.call f_slices_CloneZsgsg [(.t 49)] []),
 zm 51 1,
 zn 52 51,
 zl 53 1 2,
 zn 54 53,
 zq 55 (.mks 2 1 24 .nils (.t 54) (.t 54)),
 zq 56 (.bld [.nils, .nils] [(1, 1, (.t 55))]),
 zq 57 (.bsl 3 2 1 [(.t 56)]),
 zq 58 (.bld [.nils, (.int .i64 0), .nils] [(0, 1, (.t 50)), (1, 1, (.t 52)), (2, 1, (.t 57))]),
 zq 6 (.alc 4 3 (.agg [.nils, (.int .i64 0), .nils])),
 zs 3 6 58] [(1, 3), (1, 4), (1, 5), (0, 6), (1, 6), (3, 6), (1, 7), (0, 8), (1, 8), (3, 8), (0, 10), (1, 10), (3, 10), (4, 10), (5, 10), (6, 10), (7, 10), (8, 10), (9, 10)])
 (.seq (.reg [zq 7 (.alc 5 256 (.agg (zeros 256)))])
 (.seq (.seq (.reg [zm 59 1,
 zn 60 59,
 zk 61 0])
 (.blk 1 (l_family_Of_1)))
 (.seq (.seq (.reg [zL 179 256 7,
 zk 180 0])
 (.blk 11 (l_family_Of_11)))
 (.seq (.reg [zL 201 3 6,
 zs 3 4 201,
 zk 5 0])
 (.ret)))))))
def s_family_Of : List Nat := [2, 4, 55, 57, 6, 7, 9, 10, 16, 109, 17, 124, 125, 22, 148, 167, 168, 174, 175, 196, 197]
def F_family_Of : IF := ⟨2, 202, 21, c_family_Of, [(4, some (true, 3)), (5, none)], true, false, false⟩
def c_r16_None : C :=
 .seq (.reg [zq 1 (.box 0 3 (.t 0)),
 zo 2 false])
 (.seq (.reg [zf 3 0 1,
 zl 4 1 3,
 zn 5 4,
 zq 6 (.bin .eql (.t 5) (.c (.int .i64 0))),
 zm 7 6,
 zfg 8 1 1 7 true,
 zlg 9 1 8 7 true,
 zg 10 (.bin .eql (.t 9) (.c (.int .i64 0))) 7 true,
 zu 11 7 10,
 zm 12 11,
 zfg 13 2 1 12 true,
 zlg 14 1 13 12 true,
 zg 15 (.lenl (.t 14)) 12 true,
 zg 16 (.bin .eql (.t 15) (.c (.int .i64 0))) 12 true,
 zu 17 12 16,
 zm 2 17])
 (.ret))
def s_r16_None : List Nat := [1]
def F_r16_None : IF := ⟨1, 18, 1, c_r16_None, [(2, none)], true, false, false⟩
def c_r05_Equal : C :=
 .seq (.reg [zq 2 (.box 0 2 (.t 0)),
 zq 3 (.box 1 2 (.t 1)),
 zo 4 false])
 (.seq (.reg [zL 5 2 2,
 zL 6 2 3,
 zq 7 (.call f_r05_Refines [(.t 5), (.t 6)] []),
 zm 8 7,
 zg 9 (.ld true 2 (.t 3)) 8 true,
 zg 10 (.ld true 2 (.t 2)) 8 true,
 zg 11 (.call f_r05_Refines [(.t 9), (.t 10)] []) 8 true,
 zu 12 8 11,
 zm 4 12])
 (.ret))
def s_r05_Equal : List Nat := [2, 3]
def F_r05_Equal : IF := ⟨2, 13, 2, c_r05_Equal, [(4, none)], true, false, false⟩
def c_w16_pair : C :=
 .seq (.reg [zq 0 (.alc 0 3 (.agg [.nils, (.int .i64 0), .nils]))])
 (.seq (.reg [⟨some 1, .bsl 1 1 1 [(.c (.str ⟨#[97]⟩))], none⟩,
 zq 2 (.bld [(.int .i64 0), (.int .i64 0)] [(0, 1, (.c (.int .i64 0))), (1, 1, (.c (.int .i64 1)))]),
 zq 3 (.bld [(.int .i64 0), (.int .i64 0)] [(0, 1, (.c (.int .i64 1))), (1, 1, (.c (.int .i64 3)))]),
 zq 4 (.bsl 2 2 2 [(.t 2), (.t 3)]),
 zq 5 (.bld [(.int .i64 0), (.int .i64 0)] [(0, 1, (.c (.int .i64 0))), (1, 1, (.c (.int .i64 3)))]),
 zq 6 (.bsl 3 2 1 [(.t 5)]),
 zq 7 (.bsl 4 1 1 [(.t 6)]),
 zq 8 (.bld [.nils, .nils] [(0, 1, (.t 4)), (1, 1, (.t 7))]),
 zq 9 (.bsl 5 2 1 [(.t 8)]),
 zq 10 (.bld [.nils, (.int .i64 0), .nils] [(0, 1, (.t 1)), (1, 1, (.c (.int .i64 2))), (2, 1, (.t 9))]),
 zs 3 0 10])
 (.ret))
def s_w16_pair : List Nat := [0, 1, 4, 6, 7, 9]
def F_w16_pair : IF := ⟨0, 11, 6, c_w16_pair, [(0, some (true, 3))], true, false, false⟩
def l_r01_SameInts_0 : C :=
 .loop (rest 26 [1, 12, 13, 14]) [] (.seq (.reg [zb 15 .lss 14 13])
 (.seq (.cond (.t 15) (.skip) (.exit 0))
 (.seq (.blk 1 (.seq (.reg [zm 16 14,
 zi 17 1 12 14,
 zl 18 1 17,
 zm 5 16,
 zm 6 18])
  (.seq (.reg [zm 19 6,
 zm 20 1,
 zm 21 5,
 zi 22 1 20 21,
 zl 23 1 22,
 zb 24 .neq 19 23])
  (.cond (.t 24) (.seq (.reg [zo 4 false])
   (.ret)) (.skip)))))
 (.reg [za 25 14 1,
 zm 14 25]))))
def c_r01_SameInts : C :=
 .seq (.reg [zo 4 false])
 (.seq (.seq (.reg [zm 7 0,
 zn 8 7,
 zm 9 1,
 zn 10 9,
 zb 11 .neq 8 10])
 (.cond (.t 11) (.seq (.reg [zo 4 false])
  (.ret)) (.skip)))
 (.seq (.seq (.reg [zm 12 0,
 zn 13 12,
 zk 14 0])
 (.blk 0 (l_r01_SameInts_0)))
 (.seq (.reg [zo 4 true])
 (.ret))))
def s_r01_SameInts : List Nat := []
def F_r01_SameInts : IF := ⟨2, 26, 0, c_r01_SameInts, [(4, none)], true, false, false⟩
def l_r16_plan_2 : C :=
 .loop (rest 92 [1, 2, 3, 4, 9, 12, 34, 35, 36, 45, 46, 47]) [1] (.seq (.reg [zb 48 .lss 47 46])
 (.seq (.cond (.t 48) (.skip) (.exit 2))
 (.seq (.blk 3 (.seq (.reg [zi 49 2 45 47,
 zL 50 2 49,
 zq 14 (.alc 1 2 (.agg [(.int .i64 0), (.int .i64 0)])),
 zs 2 14 50])
  (.seq (.seq (.reg [zm 51 12,
 zf 52 1 14,
 zl 53 1 52,
 zb 54 .and 51 53,
 zq 55 (.bin .neq (.t 54) (.c (.int .i64 0)))])
  (.cond (.t 55) (.seq (.reg [zo 8 false])
   (.ret)) (.skip)))
  (.reg [zm 56 12,
 zf 57 1 14,
 zl 58 1 57,
 zb 59 .or 56 58,
 zm 12 59]))))
 (.reg [za 60 47 1,
 zm 47 60]))))
def l_r16_plan_0 : C :=
 .loop (rest 92 [1, 2, 3, 4, 9, 34, 35, 36]) [1, 2] (.seq (.reg [zb 37 .lss 36 35])
 (.seq (.cond (.t 37) (.skip) (.exit 0))
 (.seq (.blk 1 (.seq (.reg [zi 38 1 34 36,
 zl 39 1 38,
 zm 11 39])
  (.seq (.seq (.reg [zm 40 11,
 zm 41 2,
 zm 42 3,
 zq 43 (.call f_r16_choices [(.t 40), (.t 41), (.t 42)] []),
 zq 44 (.un .not (.t 43))])
  (.cond (.t 44) (.seq (.reg [zo 8 false])
   (.ret)) (.skip)))
  (.seq (.reg [zk 12 0])
  (.seq (.seq (.reg [zm 45 11,
 zn 46 45,
 zk 47 0])
  (.blk 2 (l_r16_plan_2)))
  (.reg [zm 61 9,
 zm 62 12,
 zq 63 (.bsl 2 1 1 [(.t 62)]),
 zq 64 (.app 3 1 8 (.t 61) (.t 63)),
 zm 9 64]))))))
 (.reg [za 65 36 1,
 zm 36 65]))))
def l_r16_plan_6 : C :=
 .loop (rest 92 [1, 9, 16, 67, 68, 69, 76, 77, 78]) [] (.seq (.reg [zb 79 .lss 78 77])
 (.seq (.cond (.t 79) (.skip) (.exit 6))
 (.seq (.blk 7 (.seq (.reg [zi 80 1 76 78,
 zl 81 1 80,
 zm 18 81])
  (.seq (.drw [zf 82 1 16,
 zl 83 1 82,
 zm 84 9,
 zm 85 18,
 zi 86 1 84 85,
 zl 87 1 86,
 zb 88 .andNot 83 87,
 zq 89 (.bin .neq (.t 88) (.c (.int .i64 0)))] [])
  (.cond (.t 89) (.seq (.reg [zo 8 false])
   (.ret)) (.skip)))))
 (.reg [za 90 78 1,
 zm 78 90]))))
def l_r16_plan_4 : C :=
 .loop (rest 92 [1, 9, 67, 68, 69]) [4] (.seq (.reg [zb 70 .lss 69 68])
 (.seq (.cond (.t 70) (.skip) (.exit 4))
 (.seq (.blk 5 (.seq (.reg [zi 71 2 67 69,
 zL 72 2 71,
 zq 16 (.alc 4 2 (.agg [(.int .i64 0), (.int .i64 0)])),
 zs 2 16 72])
  (.seq (.reg [zm 73 1,
 zf 74 0 16,
 zl 75 1 74,
 zq 76 (.call f_r01_List [(.t 73), (.t 75)] []),
 zn 77 76,
 zk 78 0])
  (.blk 6 (l_r16_plan_6)))))
 (.reg [za 91 69 1,
 zm 69 91]))))
def c_r16_plan : C :=
 .seq (.reg [zq 4 (.box 0 2 (.t 0)),
 zo 8 false])
 (.seq (.seq (.drw [zf 19 1 4,
 zl 20 1 19,
 zn 21 20,
 zm 22 1,
 zb 23 .neq 21 22,
 zm 24 23,
 zfg 25 0 4 24 false,
 zlg 26 1 25 24 false,
 zmg 27 1 24 false,
 zg 28 (.bin .shl (.c (.int .i64 1)) (.t 27)) 24 false,
 zmg 29 3 24 false,
 zg 30 (.call f_r16_choices [(.t 26), (.t 28), (.t 29)] []) 24 false,
 zg 31 (.un .not (.t 30)) 24 false,
 zy 32 24 31] [])
 (.cond (.t 32) (.seq (.reg [zo 8 false])
  (.ret)) (.skip)))
 (.seq (.reg [zq 9 (.mov (.c .nils))])
 (.seq (.seq (.reg [zf 33 1 4,
 zl 34 1 33,
 zn 35 34,
 zk 36 0])
 (.blk 0 (l_r16_plan_0)))
 (.seq (.seq (.reg [zf 66 0 4,
 zl 67 1 66,
 zn 68 67,
 zk 69 0])
 (.blk 4 (l_r16_plan_4)))
 (.seq (.reg [zo 8 true])
 (.ret))))))
def s_r16_plan : List Nat := [4, 14, 63, 64, 16]
def F_r16_plan : IF := ⟨4, 92, 5, c_r16_plan, [(8, none)], true, false, false⟩
def l_r04_Hollow_2 : C :=
 .loop (rest 35 [1, 3, 4, 13, 14, 15]) [2] (.seq (.reg [zb 16 .lss 15 14])
 (.seq (.cond (.t 16) (.skip) (.exit 2))
 (.seq (.blk 3 (.seq (.reg [zm 17 15,
 zi 18 2 13 15,
 zL 19 2 18,
 zq 6 (.alc 2 2 (.agg [.nils, .nils])),
 zm 5 17,
 zs 2 6 19])
  (.seq (.reg [zm 20 3,
 zm 21 5,
 zi 22 1 20 21,
 zl 23 1 22,
 zq 24 (.un .not (.t 23)),
 zm 25 24,
 zg 26 (.ld true 2 (.t 6)) 25 true,
 zmg 27 3 25 true,
 zg 28 (.call f_r04_allFall [(.t 26), (.t 27)] []) 25 true,
 zu 29 25 28])
  (.cond (.t 29) (.reg [zm 30 3,
 zm 31 5,
 zi 32 1 30 31,
 zr (.sto 1 (.t 32) (.c (.bool true))),
 zo 4 true]) (.skip)))))
 (.reg [za 33 15 1,
 zm 15 33]))))
def l_r04_Hollow_0 : C :=
 .loop (rest 35 [1, 3, 4]) [2] (.seq (.seq (.reg [zm 11 4])
 (.cond (.t 11) (.skip) (.exit 0)))
 (.blk 1 (.seq (.reg [zo 4 false])
  (.seq (.reg [zf 12 1 1,
 zl 13 1 12,
 zn 14 13,
 zk 15 0])
  (.blk 2 (l_r04_Hollow_2))))))
def c_r04_Hollow : C :=
 .seq (.reg [zq 1 (.box 0 2 (.t 0)),
 zq 2 (.mov (.c .nils))])
 (.seq (.reg [zf 7 1 1,
 zl 8 1 7,
 zn 9 8,
 zq 10 (.mks 1 1 1 (.bool false) (.t 9) (.t 9)),
 zm 3 10])
 (.seq (.seq (.reg [zo 4 true])
 (.blk 0 (l_r04_Hollow_0)))
 (.seq (.reg [zm 34 3,
 zm 2 34])
 (.ret))))
def s_r04_Hollow : List Nat := [1, 10, 6]
def F_r04_Hollow : IF := ⟨1, 35, 3, c_r04_Hollow, [(2, none)], true, false, false⟩
def l_system_Valid_2 : C :=
 .loop (rest 82 [1, 3, 4, 6, 25, 26, 27, 37, 38, 39]) [1] (.seq (.reg [zb 40 .lss 39 38])
 (.seq (.cond (.t 40) (.skip) (.exit 2))
 (.seq (.blk 3 (.seq (.reg [zm 41 39,
 zi 42 2 37 39,
 zL 43 2 42,
 zq 8 (.alc 1 2 (.agg [(.int .i64 0), (.int .i64 0)])),
 zm 7 41,
 zs 2 8 43])
  (.seq (.drw [zf 44 0 8,
 zl 45 1 44,
 zq 46 (.bin .lss (.t 45) (.c (.int .i64 0))),
 zm 47 46,
 zfg 48 0 8 47 false,
 zlg 49 1 48 47 false,
 zfg 50 0 1 47 false,
 zlg 51 1 50 47 false,
 zg 52 (.lenl (.t 51)) 47 false,
 zg 53 (.bin .geq (.t 49) (.t 52)) 47 false,
 zy 54 47 53,
 zm 55 54,
 zfg 56 1 8 55 false,
 zlg 57 1 56 55 false,
 zg 58 (.bin .lss (.t 57) (.c (.int .i64 0))) 55 false,
 zy 59 55 58,
 zm 60 59,
 zfg 61 1 8 60 false,
 zlg 62 1 61 60 false,
 zmg 63 3 60 false,
 zg 64 (.bin .geq (.t 62) (.t 63)) 60 false,
 zy 65 60 64,
 zm 66 65,
 zmg 67 7 66 false,
 zg 68 (.bin .gtr (.t 67) (.c (.int .i64 0))) 66 false,
 zmg 69 68 66 false,
 zmg 70 6 69 true,
 zmg 71 7 69 true,
 zg 72 (.bin .sub (.t 71) (.c (.int .i64 1))) 69 true,
 zg 73 (.iad 2 (.t 70) (.t 72)) 69 true,
 zg 74 (.ld true 2 (.t 73)) 69 true,
 zg 75 (.ld true 2 (.t 8)) 69 true,
 zg 76 (.call f_system_order [(.t 74), (.t 75)] []) 69 true,
 zg 77 (.bin .geq (.t 76) (.c (.int .i64 0))) 69 true,
 zg 78 (.pick (.t 69) (.t 77) (.c (.bool false))) 66 false,
 zy 79 66 78] [])
  (.cond (.t 79) (.seq (.reg [zo 2 false])
   (.ret)) (.skip)))))
 (.reg [za 80 39 1,
 zm 39 80]))))
def l_system_Valid_0 : C :=
 .loop (rest 82 [1, 3, 4, 25, 26, 27]) [1] (.seq (.reg [zb 28 .lss 27 26])
 (.seq (.cond (.t 28) (.skip) (.exit 0))
 (.seq (.blk 1 (.seq (.reg [zi 29 1 25 27,
 zl 30 1 29,
 zm 6 30])
  (.seq (.reg [zm 31 4,
 zm 32 6,
 zn 33 32,
 zb 34 .add 31 33,
 zm 4 34])
  (.seq (.seq (.reg [zm 35 4,
 zq 36 (.bin .gtr (.t 35) (.c (.int .i64 400000)))])
  (.cond (.t 36) (.seq (.reg [zo 2 false])
   (.ret)) (.skip)))
  (.seq (.reg [zm 37 6,
 zn 38 37,
 zk 39 0])
  (.blk 2 (l_system_Valid_2)))))))
 (.reg [za 81 27 1,
 zm 27 81]))))
def c_system_Valid : C :=
 .seq (.reg [zq 1 (.box 0 2 (.t 0)),
 zo 2 false])
 (.seq (.reg [zf 9 1 1,
 zl 10 1 9,
 zn 11 10,
 zm 3 11])
 (.seq (.seq (.reg [zf 12 0 1,
 zl 13 1 12,
 zq 14 (.call f_act_Valid [(.t 13)] []),
 zq 15 (.un .not (.t 14)),
 zm 16 15,
 zmg 17 3 16 false,
 zg 18 (.bin .lss (.t 17) (.c (.int .i64 1))) 16 false,
 zy 19 16 18,
 zm 20 19,
 zmg 21 3 20 false,
 zg 22 (.bin .gtr (.t 21) (.c (.int .i64 5000))) 20 false,
 zy 23 20 22])
 (.cond (.t 23) (.seq (.reg [zo 2 false])
  (.ret)) (.skip)))
 (.seq (.reg [zk 4 0])
 (.seq (.seq (.reg [zf 24 1 1,
 zl 25 1 24,
 zn 26 25,
 zk 27 0])
 (.blk 0 (l_system_Valid_0)))
 (.seq (.reg [zo 2 true])
 (.ret))))))
def s_system_Valid : List Nat := [1, 8]
def F_system_Valid : IF := ⟨1, 82, 2, c_system_Valid, [(2, none)], true, false, false⟩
def l_family_Valid_4 : C :=
 .loop (rest 127 [1, 2, 3, 4, 6, 7, 8, 44, 45, 46, 70, 71, 72, 82, 83, 84]) [6] (.seq (.reg [zb 85 .lss 84 83])
 (.seq (.cond (.t 85) (.skip) (.exit 4))
 (.seq (.blk 5 (.seq (.reg [zi 86 2 82 84,
 zL 87 2 86,
 zq 11 (.alc 6 2 (.agg [(.int .i64 0), (.int .i64 0)])),
 zs 2 11 87])
  (.seq (.seq (.drw [zl 88 1 7,
 zm 89 8,
 zi 90 1 88 89,
 zl 91 1 90,
 zf 92 1 11,
 zl 93 1 92,
 zb 94 .and 91 93,
 zq 95 (.bin .neq (.t 94) (.c (.int .i64 0)))] [])
  (.cond (.t 95) (.seq (.reg [zr (.sto 1 (.t 2) (.c (.bool false)))])
   (.ret)) (.skip)))
  (.drw [zl 96 1 7,
 zm 97 8,
 zi 98 1 96 97,
 zl 99 1 98,
 zf 100 1 11,
 zl 101 1 100,
 zb 102 .or 99 101,
 zi 103 1 96 97,
 zs 1 103 102] []))))
 (.reg [za 104 84 1,
 zm 84 104]))))
def l_family_Valid_2 : C :=
 .loop (rest 127 [1, 2, 3, 4, 6, 7, 44, 45, 46, 70, 71, 72]) [6] (.seq (.reg [zb 73 .lss 72 71])
 (.seq (.cond (.t 73) (.skip) (.exit 2))
 (.seq (.blk 3 (.seq (.reg [zm 74 72,
 zi 75 1 70 72,
 zl 76 1 75,
 zm 8 74,
 zm 9 76])
  (.seq (.seq (.reg [zm 77 9,
 zm 78 4,
 zq 79 (.mkf f_family_Valid_2 [(.t 3)]),
 zq 80 (.call f_family_choices [(.t 77), (.t 78), (.t 79)] []),
 zq 81 (.un .not (.t 80))])
  (.cond (.t 81) (.seq (.reg [zr (.sto 1 (.t 2) (.c (.bool false)))])
   (.ret)) (.skip)))
  (.seq (.reg [zm 82 9,
 zn 83 82,
 zk 84 0])
  (.blk 4 (l_family_Valid_4))))))
 (.reg [za 105 72 1,
 zm 72 105]))))
def a_family_Valid_8 : C :=
 .reg [zm 14 116]
def b_family_Valid_8 : C :=
 .blk 9 (.seq (.drw [zf 117 1 13,
 zl 118 1 117,
 zl 119 1 7,
 zm 120 14,
 zi 121 1 119 120,
 zl 122 1 121,
 zb 123 .andNot 118 122,
 zq 124 (.bin .neq (.t 123) (.c (.int .i64 0)))] [])
  (.cond (.t 124) (.seq (.reg [zr (.sto 1 (.t 2) (.c (.bool false)))])
   (.ret)) (.skip)))
def l_family_Valid_6 : C :=
 .loop (rest 127 [1, 2, 3, 4, 7, 44, 45, 46, 107, 108, 109]) [7] (.seq (.reg [zb 110 .lss 109 108])
 (.seq (.cond (.t 110) (.skip) (.exit 6))
 (.seq (.blk 7 (.seq (.reg [zi 111 2 107 109,
 zL 112 2 111,
 zq 13 (.alc 7 2 (.agg [(.int .i64 0), (.int .i64 0)])),
 zs 2 13 112])
  (.seq (.reg [zf 113 0 13,
 zl 114 1 113,
 zq 115 (.call f_act_In [(.t 114)] [])])
  (.blk 8 (.rngf (.t 115) [116] (rest 127 [1, 2, 3, 4, 7, 13, 44, 45, 46, 107, 108, 109]) [] a_family_Valid_8 b_family_Valid_8)))))
 (.reg [za 125 109 1,
 zm 109 125]))))
def l_family_Valid_0 : C :=
 .loop (rest 127 [1, 2, 3, 4, 44, 45, 46]) [3, 4, 5, 6, 7] (.seq (.reg [zb 47 .lss 46 45])
 (.seq (.cond (.t 47) (.skip) (.exit 0))
 (.seq (.blk 1 (.seq (.reg [zi 48 2 44 46,
 zL 49 2 48,
 zq 6 (.alc 3 2 (.agg [.nils, .nils])),
 zs 2 6 49])
  (.seq (.seq (.reg [zf 50 1 6,
 zl 51 1 50,
 zn 52 51,
 zf 53 0 1,
 zl 54 1 53,
 zn 55 54,
 zb 56 .neq 52 55,
 zm 57 56,
 zfg 58 0 6 57 false,
 zlg 59 1 58 57 false,
 zmg 60 4 57 false,
 zg 61 (.mkf f_family_Valid_1 [(.t 1)]) 57 false,
 zg 62 (.call f_family_choices [(.t 59), (.t 60), (.t 61)] []) 57 false,
 zg 63 (.un .not (.t 62)) 57 false,
 zy 64 57 63])
  (.cond (.t 64) (.seq (.reg [zr (.sto 1 (.t 2) (.c (.bool false)))])
   (.ret)) (.skip)))
  (.seq (.reg [zf 65 0 1,
 zl 66 1 65,
 zn 67 66,
 zq 68 (.mks 4 1 8 (.int .i64 0) (.t 67) (.t 67)),
 zq 7 (.alc 5 1 .nils),
 zs 1 7 68])
  (.seq (.seq (.reg [zf 69 1 6,
 zl 70 1 69,
 zn 71 70,
 zk 72 0])
  (.blk 2 (l_family_Valid_2)))
  (.seq (.reg [zf 106 0 6,
 zl 107 1 106,
 zn 108 107,
 zk 109 0])
  (.blk 6 (l_family_Valid_6))))))))
 (.reg [za 126 46 1,
 zm 46 126]))))
def c_family_Valid : C :=
 .seq (.reg [zq 1 (.box 0 3 (.t 0)),
 zq 2 (.alc 1 1 (.bool false))])
 (.seq (.reg [zf 15 2 1,
 zl 16 1 15,
 zn 17 16,
 zq 3 (.alc 2 1 (.int .i64 0)),
 zs 1 3 17])
 (.seq (.seq (.reg [zf 18 0 1,
 zl 19 1 18,
 zq 20 (.call f_act_Valid [(.t 19)] []),
 zq 21 (.un .not (.t 20)),
 zm 22 21,
 zfg 23 1 1 22 false,
 zlg 24 1 23 22 false,
 zg 25 (.bin .lss (.t 24) (.c (.int .i64 1))) 22 false,
 zy 26 22 25,
 zm 27 26,
 zfg 28 1 1 27 false,
 zlg 29 1 28 27 false,
 zg 30 (.bin .gtr (.t 29) (.c (.int .i64 32))) 27 false,
 zy 31 27 30,
 zm 32 31,
 zlg 33 1 3 32 false,
 zg 34 (.bin .lss (.t 33) (.c (.int .i64 1))) 32 false,
 zy 35 32 34,
 zm 36 35,
 zlg 37 1 3 36 false,
 zg 38 (.bin .gtr (.t 37) (.c (.int .i64 500))) 36 false,
 zy 39 36 38])
 (.cond (.t 39) (.seq (.reg [zr (.sto 1 (.t 2) (.c (.bool false)))])
  (.ret)) (.skip)))
 (.seq (.reg [zf 40 1 1,
 zl 41 1 40,
 zq 42 (.bin .shl (.c (.int .i64 1)) (.t 41)),
 zm 4 42])
 (.seq (.seq (.reg [zf 43 2 1,
 zl 44 1 43,
 zn 45 44,
 zk 46 0])
 (.blk 0 (l_family_Valid_0)))
 (.seq (.reg [zr (.sto 1 (.t 2) (.c (.bool true)))])
 (.ret))))))
def s_family_Valid : List Nat := [1, 2, 3, 6, 68, 7, 11, 13]
def F_family_Valid : IF := ⟨1, 127, 8, c_family_Valid, [(2, some (false, 1))], true, false, false⟩
def l_slices_Equal___string_string__0 : C :=
 .loop (rest 26 [0, 1, 12, 13]) [] (.seq (.reg [zb 14 .lss 13 12])
 (.seq (.cond (.t 14) (.skip) (.exit 0))
 (.seq (.blk 1 (.seq (.reg [zm 15 13,
 zm 5 15])
  (.seq (.drw [zm 16 0,
 zm 17 5,
 zi 18 1 16 17,
 zl 19 1 18,
 zm 20 1,
 zm 21 5,
 zi 22 1 20 21,
 zl 23 1 22,
 zb 24 .neq 19 23] [])
  (.cond (.t 24) (.seq (.reg [zo 4 false])
   (.ret)) (.skip)))))
 (.reg [za 25 13 1,
 zm 13 25]))))
def c_slices_EqualZsgsg : C :=
 .seq (.reg [zo 4 false])
 (.seq (.seq (.reg [zm 6 0,
 zn 7 6,
 zm 8 1,
 zn 9 8,
 zb 10 .neq 7 9])
 (.cond (.t 10) (.seq (.reg [zo 4 false])
  (.ret)) (.skip)))
 (.seq (.seq (.reg [zm 11 0,
 zn 12 11,
 zk 13 0])
 (.blk 0 (l_slices_Equal___string_string__0)))
 (.seq (.reg [zo 4 true])
 (.ret))))
def s_slices_EqualZsgsg : List Nat := []
def F_slices_EqualZsgsg : IF := ⟨2, 26, 0, c_slices_EqualZsgsg, [(4, none)], true, false, false⟩
def l_system_Offers_0 : C :=
 .loop (rest 19 [3, 6, 7, 8]) [0] (.seq (.reg [zb 9 .lss 8 7])
 (.seq (.cond (.t 9) (.skip) (.exit 0))
 (.seq (.blk 1 (.seq (.reg [zi 10 2 6 8,
 zL 11 2 10,
 zq 5 (.alc 0 2 (.agg [(.int .i64 0), (.int .i64 0)])),
 zs 2 5 11])
  (.reg [zm 12 3,
 zf 13 0 5,
 zl 14 1 13,
 zq 15 (.bin .shl (.c (.int .i64 1)) (.t 14)),
 zb 16 .or 12 15,
 zm 3 16])))
 (.reg [za 17 8 1,
 zm 8 17]))))
def c_system_Offers : C :=
 .seq (.reg [zk 2 0])
 (.seq (.reg [zk 3 0])
 (.seq (.seq (.reg [zm 6 0,
 zn 7 6,
 zk 8 0])
 (.blk 0 (l_system_Offers_0)))
 (.seq (.reg [zm 18 3,
 zm 2 18])
 (.ret))))
def s_system_Offers : List Nat := [5]
def F_system_Offers : IF := ⟨1, 19, 1, c_system_Offers, [(2, none)], true, false, false⟩
def l_family_which_0 : C :=
 .loop (rest 19 [1, 5, 7, 8]) [] (.seq (.reg [zb 9 .lss 8 7])
 (.seq (.cond (.t 9) (.skip) (.exit 0))
 (.seq (.blk 1 (.seq (.reg [zm 10 8,
 zm 6 10])
  (.seq (.reg [zm 11 1,
 zm 12 6,
 zq 13 (.calv (.t 11) [(.t 12)] [])])
  (.cond (.t 13) (.reg [zm 14 5,
 zm 15 6,
 zq 16 (.call f__family_products__with [(.t 14), (.t 15)] []),
 zm 5 16]) (.skip)))))
 (.reg [za 17 8 1,
 zm 8 17]))))
def c_family_which : C :=
 .seq (.reg [zk 4 0])
 (.seq (.reg [zk 5 0])
 (.seq (.seq (.reg [zm 7 0,
 zk 8 0])
 (.blk 0 (l_family_which_0)))
 (.seq (.reg [zm 18 5,
 zm 4 18])
 (.ret))))
def s_family_which : List Nat := []
def F_family_which : IF := ⟨2, 19, 0, c_family_which, [(4, none)], true, false, false⟩
def c_family_Full_1 : C :=
 .seq (.reg [zo 3 false])
 (.seq (.reg [zL 4 3 1,
 zm 5 0,
 zq 6 (.call f_family_single [(.t 4), (.t 5)] []),
 zq 7 (.call f_prune_Hollows [(.t 6)] []),
 zq 8 (.iad 1 (.t 7) (.c (.int .i64 0))),
 zl 9 1 8,
 zq 10 (.un .not (.t 9)),
 zm 3 10])
 (.ret))
def s_family_Full_1 : List Nat := []
def F_family_Full_1 : IF := ⟨2, 11, 0, c_family_Full_1, [(3, none)], true, false, false⟩
def l_prune_Hollows_0 : C :=
 .loop (rest 22 [3, 11, 12, 13]) [] (.seq (.reg [zb 14 .lss 13 12])
 (.seq (.cond (.t 14) (.skip) (.exit 0))
 (.seq (.blk 1 (.seq (.reg [zi 15 1 11 13,
 zl 16 1 15,
 zm 5 16])
  (.reg [zm 17 3,
 zm 18 5,
 zi 19 1 17 18,
 zr (.sto 1 (.t 19) (.c (.bool true)))])))
 (.reg [za 20 13 1,
 zm 13 20]))))
def c_prune_Hollows : C :=
 .seq (.reg [zq 1 (.box 0 2 (.t 0)),
 zq 2 (.mov (.c .nils))])
 (.seq (.reg [zf 6 1 1,
 zl 7 1 6,
 zn 8 7,
 zq 9 (.mks 1 1 1 (.bool false) (.t 8) (.t 8)),
 zm 3 9])
 (.seq (.seq (.reg [zL 10 2 1,
 zq 11 (.call f_prune_rungs [(.t 10)] []),
 zn 12 11,
 zk 13 0])
 (.blk 0 (l_prune_Hollows_0)))
 (.seq (.reg [zm 21 3,
 zm 2 21])
 (.ret))))
def s_prune_Hollows : List Nat := [1, 9]
def F_prune_Hollows : IF := ⟨1, 22, 2, c_prune_Hollows, [(2, none)], true, false, false⟩
def l_family_single_2 : C :=
 .loop (rest 75 [1, 4, 5, 7, 8, 20, 21, 22, 27, 28, 29]) [5, 6, 7] (.seq (.reg [zb 30 .lss 29 28])
 (.seq (.cond (.t 30) (.skip) (.exit 2))
 (.seq (.blk 3 (.seq (.reg [zi 31 2 27 29,
 zL 32 2 31,
 zq 10 (.alc 5 2 (.agg [(.int .i64 0), (.int .i64 0)])),
 zs 2 10 32])
  (.seq (.reg [zf 33 1 10,
 zl 34 1 33,
 zm 35 1,
 zq 36 (.call f__family_products__has [(.t 34), (.t 35)] [])])
  (.cond (.t 36) (.reg [zf 37 0 8,
 zl 38 1 37,
 zf 39 0 10,
 zl 40 1 39,
 zq 41 (.bsl 6 1 1 [(.t 40)]),
 zq 42 (.app 7 1 8 (.t 38) (.t 41)),
 zf 43 0 8,
 zs 1 43 42]) (.skip)))))
 (.reg [za 44 29 1,
 zm 29 44]))))
def l_family_single_4 : C :=
 .loop (rest 75 [1, 4, 5, 8, 20, 21, 22, 46, 47, 48]) [8, 9] (.seq (.reg [zb 49 .lss 48 47])
 (.seq (.cond (.t 49) (.skip) (.exit 4))
 (.seq (.blk 5 (.seq (.reg [zi 50 1 46 48,
 zl 51 1 50,
 zm 12 51])
  (.seq (.reg [zm 53 12,
 zm 54 1,
 zq 55 (.call f_family_chosen [(.t 53), (.t 54)] []),
 zm 52 55,
 zq 56 (.ext (.t 52) 0),
 zq 57 (.ext (.t 52) 1),
 zm 13 56,
 zm 14 57])
  (.seq (.seq (.reg [zm 58 14,
 zq 59 (.un .not (.t 58))])
  (.cond (.t 59) (.reg [zk 13 (-1)]) (.skip)))
  (.reg [zf 60 1 8,
 zl 61 1 60,
 zm 62 13,
 zq 63 (.bsl 8 1 1 [(.t 62)]),
 zq 64 (.app 9 1 8 (.t 61) (.t 63)),
 zf 65 1 8,
 zs 1 65 64])))))
 (.reg [za 66 48 1,
 zm 48 66]))))
def l_family_single_0 : C :=
 .loop (rest 75 [1, 4, 5, 20, 21, 22]) [3, 4, 5, 6, 7, 8, 9, 10, 11] (.seq (.reg [zb 23 .lss 22 21])
 (.seq (.cond (.t 23) (.skip) (.exit 0))
 (.seq (.blk 1 (.seq (.reg [zi 24 2 20 22,
 zL 25 2 24,
 zq 7 (.alc 3 2 (.agg [.nils, .nils])),
 zs 2 7 25])
  (.seq (.reg [zq 8 (.alc 4 2 (.agg [.nils, .nils]))])
  (.seq (.seq (.reg [zf 26 0 7,
 zl 27 1 26,
 zn 28 27,
 zk 29 0])
  (.blk 2 (l_family_single_2)))
  (.seq (.seq (.reg [zf 45 1 7,
 zl 46 1 45,
 zn 47 46,
 zk 48 0])
  (.blk 4 (l_family_single_4)))
  (.reg [zf 67 1 5,
 zl 68 1 67,
 zL 69 2 8,
 zq 70 (.bsl 10 2 1 [(.t 69)]),
 zq 71 (.app 11 2 48 (.t 68) (.t 70)),
 zf 72 1 5,
 zs 1 72 71]))))))
 (.reg [za 73 22 1,
 zm 22 73]))))
def c_family_single : C :=
 .seq (.reg [zq 2 (.box 0 3 (.t 0)),
 zq 4 (.alc 1 2 (.agg [.nils, .nils]))])
 (.seq (.reg [zf 15 0 2,
 zl 16 1 15,
 zq 17 (.call f_slices_CloneZsgsg [(.t 16)] []),
 zq 18 (.bld [.nils, .nils] [(0, 1, (.t 17))]),
 zq 5 (.alc 2 2 (.agg [.nils, .nils])),
 zs 2 5 18])
 (.seq (.seq (.reg [zf 19 2 2,
 zl 20 1 19,
 zn 21 20,
 zk 22 0])
 (.blk 0 (l_family_single_0)))
 (.seq (.reg [zL 74 2 5,
 zs 2 4 74])
 (.ret))))
def s_family_single : List Nat := [2, 4, 5, 7, 8, 10, 41, 42, 63, 64, 70, 71]
def F_family_single : IF := ⟨2, 75, 12, c_family_single, [(4, some (true, 2))], true, false, false⟩
def l_r16_chosen_0 : C :=
 .loop (rest 25 [1, 5, 8, 9, 10]) [0, 1] (.seq (.reg [zb 11 .lss 10 9])
 (.seq (.cond (.t 11) (.skip) (.exit 0))
 (.seq (.blk 1 (.seq (.reg [zi 12 2 8 10,
 zL 13 2 12,
 zq 7 (.alc 0 2 (.agg [(.int .i64 0), (.int .i64 0)])),
 zs 2 7 13])
  (.seq (.reg [zf 14 1 7,
 zl 15 1 14,
 zm 16 1,
 zq 17 (.call f_r01_Has [(.t 15), (.t 16)] [])])
  (.cond (.t 17) (.reg [zm 18 5,
 zf 19 0 7,
 zl 20 1 19,
 zq 21 (.bsl 1 1 1 [(.t 20)]),
 zq 22 (.app 2 1 8 (.t 18) (.t 21)),
 zm 5 22]) (.skip)))))
 (.reg [za 23 10 1,
 zm 10 23]))))
def c_r16_chosen : C :=
 .seq (.reg [zq 4 (.mov (.c .nils))])
 (.seq (.reg [zq 5 (.mov (.c .nils))])
 (.seq (.seq (.reg [zm 8 0,
 zn 9 8,
 zk 10 0])
 (.blk 0 (l_r16_chosen_0)))
 (.seq (.reg [zm 24 5,
 zm 4 24])
 (.ret))))
def s_r16_chosen : List Nat := [7, 21, 22]
def F_r16_chosen : IF := ⟨2, 25, 3, c_r16_chosen, [(4, none)], true, false, false⟩
def c__family_products__has : C :=
 .seq (.reg [zo 4 false])
 (.seq (.reg [zm 5 0,
 zm 6 1,
 zb 7 .shr 5 6,
 zq 8 (.bin .and (.t 7) (.c (.int .i64 1))),
 zq 9 (.bin .eql (.t 8) (.c (.int .i64 1))),
 zm 4 9])
 (.ret))
def s__family_products__has : List Nat := []
def F__family_products__has : IF := ⟨2, 10, 0, c__family_products__has, [(4, none)], true, false, false⟩
def c_slices_CloneZsgsg : C :=
 .seq (.reg [zq 2 (.mov (.c .nils))])
 (.seq (.seq (.reg [zm 3 0,
 zq 4 (.nilc false (.t 3) (.c .nils))])
 (.cond (.t 4) (.seq (.reg [zq 2 (.mov (.c .nils))])
  (.ret)) (.skip)))
 (.seq (.reg [zq 5 (.bsl 0 1 0 []),
 zm 6 0,
 zq 7 (.app 1 1 16 (.t 5) (.t 6)),
 zm 2 7])
 (.ret)))
def s_slices_CloneZsgsg : List Nat := [5, 7]
def F_slices_CloneZsgsg : IF := ⟨1, 8, 2, c_slices_CloneZsgsg, [(2, none)], true, false, true⟩
def l_r03_Few_0 : C :=
 .loop (rest 46 [1, 2, 5, 6]) [] (.seq (.seq (.reg [zm 14 6,
 zf 15 1 2,
 zl 16 1 15,
 zn 17 16,
 zb 18 .lss 14 17,
 zm 19 18,
 zmg 20 5 19 true,
 zmg 21 1 19 true,
 zg 22 (.bin .leq (.t 20) (.t 21)) 19 true,
 zu 23 19 22])
 (.cond (.t 23) (.skip) (.exit 0)))
 (.seq (.blk 1 (.drw [zm 26 5,
 zf 27 1 2,
 zl 28 1 27,
 zm 29 6,
 zi 30 2 28 29,
 zf 31 0 30,
 zl 32 1 31,
 zn 33 32,
 zf 34 1 2,
 zl 35 1 34,
 zm 36 6,
 zi 37 2 35 36,
 zf 38 1 37,
 zl 39 1 38,
 zn 40 39,
 zb 41 .add 33 40,
 zb 42 .add 26 41,
 zm 5 42] []))
 (.reg [zm 24 6,
 za 25 24 1,
 zm 6 25])))
def c_r03_Few : C :=
 .seq (.reg [zq 2 (.box 0 2 (.t 0)),
 zo 4 false])
 (.seq (.reg [zf 7 0 2,
 zl 8 1 7,
 zn 9 8,
 zf 10 1 2,
 zl 11 1 10,
 zn 12 11,
 zb 13 .add 9 12,
 zm 5 13])
 (.seq (.seq (.reg [zk 6 0])
 (.blk 0 (l_r03_Few_0)))
 (.seq (.reg [zm 43 5,
 zm 44 1,
 zb 45 .leq 43 44,
 zm 4 45])
 (.ret))))
def s_r03_Few : List Nat := [2]
def F_r03_Few : IF := ⟨2, 46, 1, c_r03_Few, [(4, none)], true, false, false⟩
def l_r01_Name_0 : C :=
 .loop (rest 47 [0, 20, 21]) [] (.seq (.reg [zb 22 .lss 21 20])
 (.seq (.cond (.t 22) (.skip) (.exit 0))
 (.seq (.blk 1 (.seq (.reg [zm 23 21,
 zm 3 23])
  (.seq (.reg [zm 24 0,
 zm 25 3,
 zq 26 (.idx (.t 24) (.t 25)),
 zm 4 26])
  (.seq (.reg [zm 27 4,
 zq 28 (.call f_r01_letter [(.t 27)] []),
 zq 29 (.un .not (.t 28)),
 zm 30 29,
 zmg 31 4 30 true,
 zg 32 (.bin .lss (.t 31) (.c (.int .u8 48))) 30 true,
 zmg 33 32 30 true,
 zmg 34 4 33 false,
 zg 35 (.bin .gtr (.t 34) (.c (.int .u8 57))) 33 false,
 zg 36 (.pick (.t 33) (.c (.bool true)) (.t 35)) 30 true,
 zu 37 30 36,
 zm 38 37,
 zmg 39 4 38 true,
 zg 40 (.bin .neq (.t 39) (.c (.int .u8 45))) 38 true,
 zu 41 38 40,
 zm 42 41,
 zmg 43 4 42 true,
 zg 44 (.bin .neq (.t 43) (.c (.int .u8 95))) 42 true,
 zu 45 42 44])
  (.cond (.t 45) (.seq (.reg [zo 2 false])
   (.ret)) (.skip))))))
 (.reg [za 46 21 1,
 zm 21 46]))))
def c_r01_Name : C :=
 .seq (.reg [zo 2 false])
 (.seq (.seq (.reg [zm 5 0,
 zq 6 (.lens (.t 5)),
 zq 7 (.bin .lss (.t 6) (.c (.int .i64 1))),
 zm 8 7,
 zmg 9 0 8 false,
 zg 10 (.lens (.t 9)) 8 false,
 zg 11 (.bin .gtr (.t 10) (.c (.int .i64 20))) 8 false,
 zy 12 8 11,
 zm 13 12,
 zmg 14 0 13 false,
 zg 15 (.idx (.t 14) (.c (.int .i64 0))) 13 false,
 zg 16 (.call f_r01_letter [(.t 15)] []) 13 false,
 zg 17 (.un .not (.t 16)) 13 false,
 zy 18 13 17])
 (.cond (.t 18) (.seq (.reg [zo 2 false])
  (.ret)) (.skip)))
 (.seq (.seq (.reg [zm 19 0,
 zq 20 (.lens (.t 19)),
 zk 21 0])
 (.blk 0 (l_r01_Name_0)))
 (.seq (.reg [zo 2 true])
 (.ret))))
def s_r01_Name : List Nat := []
def F_r01_Name : IF := ⟨1, 47, 0, c_r01_Name, [(2, none)], true, false, false⟩
def l_r01_Index_0 : C :=
 .loop (rest 19 [1, 7, 8, 9]) [] (.seq (.reg [zb 10 .lss 9 8])
 (.seq (.cond (.t 10) (.skip) (.exit 0))
 (.seq (.blk 1 (.seq (.reg [zm 11 9,
 zi 12 1 7 9,
 zl 13 1 12,
 zm 5 11,
 zm 6 13])
  (.seq (.reg [zm 14 6,
 zm 15 1,
 zb 16 .eql 14 15])
  (.cond (.t 16) (.seq (.reg [zm 17 5,
 zm 4 17])
  (.ret)) (.skip)))))
 (.reg [za 18 9 1,
 zm 9 18]))))
def c_r01_Index : C :=
 .seq (.reg [zk 4 0])
 (.seq (.seq (.reg [zm 7 0,
 zn 8 7,
 zk 9 0])
 (.blk 0 (l_r01_Index_0)))
 (.seq (.reg [zk 4 (-1)])
 (.ret)))
def s_r01_Index : List Nat := []
def F_r01_Index : IF := ⟨2, 19, 0, c_r01_Index, [(4, none)], true, false, false⟩
def l_r03_state_0 : C :=
 .loop (rest 66 [1, 2, 3, 25, 26, 27]) [] (.seq (.reg [zb 28 .lss 27 26])
 (.seq (.cond (.t 28) (.skip) (.exit 0))
 (.seq (.blk 1 (.seq (.reg [zi 29 1 25 27,
 zl 30 1 29,
 zm 8 30])
  (.seq (.reg [zm 31 8,
 zq 32 (.bin .lss (.t 31) (.c (.int .i64 (-1)))),
 zm 33 32,
 zmg 34 8 33 false,
 zmg 35 1 33 false,
 zg 36 (.bin .geq (.t 34) (.t 35)) 33 false,
 zy 37 33 36])
  (.cond (.t 37) (.seq (.reg [zo 6 false])
   (.ret)) (.skip)))))
 (.reg [za 38 27 1,
 zm 27 38]))))
def l_r03_state_4 : C :=
 .loop (rest 66 [2, 3, 40, 41, 42, 52, 53, 54]) [] (.seq (.reg [zb 55 .lss 54 53])
 (.seq (.cond (.t 55) (.skip) (.exit 4))
 (.seq (.blk 5 (.seq (.reg [zi 56 1 52 54,
 zl 57 1 56,
 zm 12 57])
  (.seq (.reg [zf 58 1 3,
 zl 59 1 58,
 zm 60 12,
 zi 61 1 59 60,
 zl 62 1 61,
 zq 63 (.bin .lss (.t 62) (.c (.int .i64 0)))])
  (.cond (.t 63) (.seq (.reg [zo 6 false])
   (.ret)) (.skip)))))
 (.reg [za 64 54 1,
 zm 54 64]))))
def l_r03_state_2 : C :=
 .loop (rest 66 [2, 3, 40, 41, 42]) [] (.seq (.reg [zb 43 .lss 42 41])
 (.seq (.cond (.t 43) (.skip) (.exit 2))
 (.seq (.blk 3 (.seq (.reg [zi 44 1 40 42,
 zl 45 1 44,
 zm 10 45])
  (.seq (.seq (.reg [zm 46 2,
 zm 47 10,
 zq 48 (.call f_r01_Set [(.t 46), (.t 47)] []),
 zq 49 (.un .not (.t 48))])
  (.cond (.t 49) (.seq (.reg [zo 6 false])
   (.ret)) (.skip)))
  (.seq (.reg [zm 50 2,
 zm 51 10,
 zq 52 (.call f_r01_List [(.t 50), (.t 51)] []),
 zn 53 52,
 zk 54 0])
  (.blk 4 (l_r03_state_4))))))
 (.reg [za 65 42 1,
 zm 42 65]))))
def c_r03_state : C :=
 .seq (.reg [zq 3 (.box 0 2 (.t 0)),
 zo 6 false])
 (.seq (.seq (.reg [zf 13 1 3,
 zl 14 1 13,
 zn 15 14,
 zm 16 2,
 zb 17 .neq 15 16,
 zm 18 17,
 zfg 19 0 3 18 false,
 zlg 20 1 19 18 false,
 zg 21 (.call f_r01_Rising [(.t 20)] []) 18 false,
 zg 22 (.un .not (.t 21)) 18 false,
 zy 23 18 22])
 (.cond (.t 23) (.seq (.reg [zo 6 false])
  (.ret)) (.skip)))
 (.seq (.seq (.reg [zf 24 1 3,
 zl 25 1 24,
 zn 26 25,
 zk 27 0])
 (.blk 0 (l_r03_state_0)))
 (.seq (.seq (.reg [zf 39 0 3,
 zl 40 1 39,
 zn 41 40,
 zk 42 0])
 (.blk 2 (l_r03_state_2)))
 (.seq (.reg [zo 6 true])
 (.ret)))))
def s_r03_state : List Nat := [3]
def F_r03_state : IF := ⟨3, 66, 1, c_r03_state, [(6, none)], true, false, false⟩
def l_act_Valid_0 : C :=
 .loop (rest 26 [0, 8, 9, 10]) [] (.seq (.reg [zb 11 .lss 10 9])
 (.seq (.cond (.t 11) (.skip) (.exit 0))
 (.seq (.blk 1 (.seq (.reg [zm 12 10,
 zi 13 1 8 10,
 zl 14 1 13,
 zm 3 12,
 zm 4 14])
  (.seq (.reg [zm 15 4,
 zq 16 (.call f_act_Name [(.t 15)] []),
 zq 17 (.un .not (.t 16)),
 zm 18 17,
 zmg 19 0 18 false,
 zmg 20 3 18 false,
 zg 21 (.sli 1 (.t 19) none (some (.t 20)) none) 18 false,
 zmg 22 4 18 false,
 zg 23 (.call f_slices_ContainsZsgsg [(.t 21), (.t 22)] []) 18 false,
 zy 24 18 23])
  (.cond (.t 24) (.seq (.reg [zo 2 false])
   (.ret)) (.skip)))))
 (.reg [za 25 10 1,
 zm 10 25]))))
def c_act_Valid : C :=
 .seq (.reg [zo 2 false])
 (.seq (.seq (.reg [zm 5 0,
 zn 6 5,
 zq 7 (.bin .gtr (.t 6) (.c (.int .i64 8)))])
 (.cond (.t 7) (.seq (.reg [zo 2 false])
  (.ret)) (.skip)))
 (.seq (.seq (.reg [zm 8 0,
 zn 9 8,
 zk 10 0])
 (.blk 0 (l_act_Valid_0)))
 (.seq (.reg [zo 2 true])
 (.ret))))
def s_act_Valid : List Nat := []
def F_act_Valid : IF := ⟨1, 26, 0, c_act_Valid, [(2, none)], true, false, false⟩
def c_slices_ContainsFuncZaiScai : C :=
 .seq (.reg [zo 4 false])
 (.seq (.reg [zm 5 0,
 zm 6 1,
 zq 7 (.call f_slices_IndexFuncZaiScai [(.t 5), (.t 6)] []),
 zq 8 (.bin .geq (.t 7) (.c (.int .i64 0))),
 zm 4 8])
 (.ret))
def s_slices_ContainsFuncZaiScai : List Nat := []
def F_slices_ContainsFuncZaiScai : IF := ⟨2, 9, 0, c_slices_ContainsFuncZaiScai, [(4, none)], true, false, false⟩
def c_family_Of_1 : C :=
 .seq (.reg [zq 1 (.box 0 2 (.t 0)),
 zo 2 false])
 (.seq (.reg [zL 3 2 1,
 zq 4 (.call f_spec_Valid [(.t 3)] []),
 zq 5 (.un .not (.t 4)),
 zm 2 5])
 (.ret))
def s_family_Of_1 : List Nat := [1]
def F_family_Of_1 : IF := ⟨1, 6, 1, c_family_Of_1, [(2, none)], true, false, false⟩
def l_spec_Valid_2 : C :=
 .loop (rest 94 [1, 3, 5, 6, 27, 28, 29, 41, 42, 43]) [] (.seq (.reg [zb 44 .lss 43 42])
 (.seq (.cond (.t 44) (.skip) (.exit 2))
 (.seq (.blk 3 (.seq (.reg [zm 45 43,
 zi 46 1 41 43,
 zl 47 1 46,
 zm 7 45,
 zm 8 47])
  (.seq (.seq (.reg [zm 48 8,
 zq 49 (.bin .lss (.t 48) (.c (.int .i64 (-1)))),
 zm 50 49,
 zmg 51 8 50 false,
 zmg 52 3 50 false,
 zg 53 (.bin .geq (.t 51) (.t 52)) 50 false,
 zy 54 50 53])
  (.cond (.t 54) (.seq (.reg [zo 2 false])
   (.ret)) (.skip)))
  (.seq (.reg [zm 55 8,
 zq 56 (.bin .geq (.t 55) (.c (.int .i64 0)))])
  (.cond (.t 56) (.reg [zm 57 6,
 zm 58 7,
 zq 59 (.bin .shl (.c (.int .i64 1)) (.t 58)),
 zb 60 .or 57 59,
 zm 6 60]) (.skip))))))
 (.reg [za 61 43 1,
 zm 43 61]))))
def l_spec_Valid_4 : C :=
 .loop (rest 94 [1, 3, 5, 6, 27, 28, 29, 63, 64, 65]) [] (.seq (.reg [zb 66 .lss 65 64])
 (.seq (.cond (.t 66) (.skip) (.exit 4))
 (.seq (.blk 5 (.seq (.reg [zm 67 65,
 zi 68 1 63 65,
 zl 69 1 68,
 zm 9 67,
 zm 10 69])
  (.seq (.reg [zm 70 10,
 zq 71 (.bin .lss (.t 70) (.c (.int .i64 0))),
 zm 72 71,
 zmg 73 10 72 false,
 zmg 74 6 72 false,
 zg 75 (.bin .andNot (.t 73) (.t 74)) 72 false,
 zg 76 (.bin .neq (.t 75) (.c (.int .i64 0))) 72 false,
 zy 77 72 76,
 zm 78 77,
 zmg 79 9 78 false,
 zg 80 (.bin .gtr (.t 79) (.c (.int .i64 0))) 78 false,
 zmg 81 80 78 false,
 zfg 82 0 5 81 true,
 zlg 83 1 82 81 true,
 zmg 84 9 81 true,
 zg 85 (.bin .sub (.t 84) (.c (.int .i64 1))) 81 true,
 zg 86 (.iad 1 (.t 83) (.t 85)) 81 true,
 zlg 87 1 86 81 true,
 zmg 88 10 81 true,
 zg 89 (.bin .geq (.t 87) (.t 88)) 81 true,
 zg 90 (.pick (.t 81) (.t 89) (.c (.bool false))) 78 false,
 zy 91 78 90])
  (.cond (.t 91) (.seq (.reg [zo 2 false])
   (.ret)) (.skip)))))
 (.reg [za 92 65 1,
 zm 65 92]))))
def l_spec_Valid_0 : C :=
 .loop (rest 94 [1, 3, 27, 28, 29]) [1] (.seq (.reg [zb 30 .lss 29 28])
 (.seq (.cond (.t 30) (.skip) (.exit 0))
 (.seq (.blk 1 (.seq (.reg [zi 31 2 27 29,
 zL 32 2 31,
 zq 5 (.alc 1 2 (.agg [.nils, .nils])),
 zs 2 5 32])
  (.seq (.seq (.reg [zf 33 1 5,
 zl 34 1 33,
 zn 35 34,
 zf 36 0 1,
 zl 37 1 36,
 zn 38 37,
 zb 39 .neq 35 38])
  (.cond (.t 39) (.seq (.reg [zo 2 false])
   (.ret)) (.skip)))
  (.seq (.reg [zk 6 0])
  (.seq (.seq (.reg [zf 40 1 5,
 zl 41 1 40,
 zn 42 41,
 zk 43 0])
  (.blk 2 (l_spec_Valid_2)))
  (.seq (.reg [zf 62 0 5,
 zl 63 1 62,
 zn 64 63,
 zk 65 0])
  (.blk 4 (l_spec_Valid_4))))))))
 (.reg [za 93 29 1,
 zm 29 93]))))
def c_spec_Valid : C :=
 .seq (.reg [zq 1 (.box 0 2 (.t 0)),
 zo 2 false])
 (.seq (.reg [zf 11 1 1,
 zl 12 1 11,
 zn 13 12,
 zm 3 13])
 (.seq (.seq (.reg [zf 14 0 1,
 zl 15 1 14,
 zq 16 (.call f_act_Valid [(.t 15)] []),
 zq 17 (.un .not (.t 16)),
 zm 18 17,
 zmg 19 3 18 false,
 zg 20 (.bin .lss (.t 19) (.c (.int .i64 1))) 18 false,
 zy 21 18 20,
 zm 22 21,
 zmg 23 3 22 false,
 zg 24 (.bin .gtr (.t 23) (.c (.int .i64 500))) 22 false,
 zy 25 22 24])
 (.cond (.t 25) (.seq (.reg [zo 2 false])
  (.ret)) (.skip)))
 (.seq (.seq (.reg [zf 26 1 1,
 zl 27 1 26,
 zn 28 27,
 zk 29 0])
 (.blk 0 (l_spec_Valid_0)))
 (.seq (.reg [zo 2 true])
 (.ret)))))
def s_spec_Valid : List Nat := [1, 5]
def F_spec_Valid : IF := ⟨1, 94, 2, c_spec_Valid, [(2, none)], true, false, false⟩
def c_family_Of_2 : C :=
 .seq (.reg [zq 2 (.box 0 2 (.t 0)),
 zo 3 false])
 (.seq (.reg [zf 4 0 2,
 zl 5 1 4,
 zl 6 1 1,
 zq 7 (.call f_slices_EqualZsgsg [(.t 5), (.t 6)] []),
 zq 8 (.un .not (.t 7)),
 zm 3 8])
 (.ret))
def s_family_Of_2 : List Nat := [2]
def F_family_Of_2 : IF := ⟨2, 9, 1, c_family_Of_2, [(3, none)], true, false, false⟩
def a_prune_Trimmed_0 : C :=
 .seq (.reg [zm 7 26])
 (.reg [zm 8 27])
def b_prune_Trimmed_0 : C :=
 .blk 1 (.seq (.reg [zl 28 1 6,
 zm 29 7,
 zl 30 1 5,
 zn 31 30,
 zi 32 1 28 29,
 zs 1 32 31])
  (.seq (.reg [zl 33 1 5,
 zm 34 7,
 zq 35 (.bsl 6 1 1 [(.t 34)]),
 zq 36 (.app 7 1 8 (.t 33) (.t 35)),
 zs 1 5 36])
  (.reg [zf 37 1 4,
 zl 38 1 37,
 zm 39 8,
 zq 40 (.bld [.nils, .nils] [(0, 1, (.t 39))]),
 zq 41 (.bsl 8 2 1 [(.t 40)]),
 zq 42 (.app 9 2 48 (.t 38) (.t 41)),
 zf 43 1 4,
 zs 1 43 42])))
def l_prune_Trimmed_4 : C :=
 .loop (rest 104 [1, 2, 3, 4, 5, 6, 9, 10, 11, 50, 51, 52, 62, 63, 64]) [] (.seq (.reg [zb 65 .lss 64 63])
 (.seq (.cond (.t 65) (.skip) (.exit 4))
 (.seq (.blk 5 (.seq (.reg [zi 66 1 62 64,
 zl 67 1 66,
 zm 13 67])
  (.reg [zm 68 11,
 zm 69 13,
 zb 70 .or 68 69,
 zm 11 70])))
 (.reg [za 71 64 1,
 zm 64 71]))))
def a_prune_Trimmed_6 : C :=
 .reg [zm 15 79]
def b_prune_Trimmed_6 : C :=
 .blk 7 (.drw [zl 80 1 14,
 zm 81 15,
 zl 82 1 6,
 zf 83 1 1,
 zl 84 1 83,
 zl 85 1 10,
 zi 86 2 84 85,
 zf 87 1 86,
 zl 88 1 87,
 zm 89 15,
 zi 90 1 88 89,
 zl 91 1 90,
 zi 92 1 82 91,
 zl 93 1 92,
 zi 94 1 80 81,
 zs 1 94 93] [])
def l_prune_Trimmed_2 : C :=
 .loop (rest 104 [1, 2, 3, 4, 5, 6, 50, 51, 52]) [10, 11, 12, 13] (.seq (.reg [zb 53 .lss 52 51])
 (.seq (.cond (.t 53) (.skip) (.exit 2))
 (.seq (.blk 3 (.seq (.reg [zm 54 52,
 zi 55 1 50 52,
 zl 56 1 55,
 zq 10 (.alc 10 1 (.int .i64 0)),
 zm 9 54,
 zs 1 10 56])
  (.seq (.reg [zk 11 0])
  (.seq (.seq (.reg [zf 57 1 4,
 zl 58 1 57,
 zm 59 9,
 zi 60 2 58 59,
 zf 61 0 60,
 zl 62 1 61,
 zn 63 62,
 zk 64 0])
  (.blk 4 (l_prune_Trimmed_4)))
  (.seq (.reg [zq 72 (.bsl 11 1 1 [(.c (.int .i64 (-1)))]),
 zf 73 0 1,
 zl 74 1 73,
 zn 75 74,
 zq 76 (.call f_slices_RepeatZitit [(.t 72), (.t 75)] [12]),
 zq 14 (.alc 13 1 .nils),
 zs 1 14 76])
  (.seq (.seq (.reg [zm 77 11,
 zq 78 (.call f_act_In [(.t 77)] [])])
  (.blk 6 (.rngf (.t 78) [79] (rest 104 [1, 2, 3, 4, 5, 6, 9, 10, 14, 50, 51, 52]) [] a_prune_Trimmed_6 b_prune_Trimmed_6)))
  (.reg [zf 95 1 4,
 zl 96 1 95,
 zm 97 9,
 zl 98 1 14,
 zi 99 2 96 97,
 zf 100 1 99,
 zs 1 100 98])))))))
 (.reg [za 101 52 1,
 zm 52 101]))))
def c_prune_Trimmed : C :=
 .seq (.reg [zq 1 (.box 0 2 (.t 0)),
 zq 2 (.alc 1 2 (.agg [.nils, .nils])),
 zq 3 (.mov (.c .nils))])
 (.seq (.reg [zf 16 0 1,
 zl 17 1 16,
 zq 18 (.call f_slices_CloneZsgsg [(.t 17)] []),
 zq 19 (.bld [.nils, .nils] [(0, 1, (.t 18))]),
 zq 4 (.alc 2 2 (.agg [.nils, .nils])),
 zs 2 4 19])
 (.seq (.reg [zq 5 (.alc 3 1 .nils)])
 (.seq (.reg [zf 20 1 1,
 zl 21 1 20,
 zn 22 21,
 zq 23 (.mks 4 1 8 (.int .i64 0) (.t 22) (.t 22)),
 zq 6 (.alc 5 1 .nils),
 zs 1 6 23])
 (.seq (.seq (.reg [zL 24 2 1,
 zq 25 (.call f_prune_Left [(.t 24)] [])])
 (.blk 0 (.rngf (.t 25) [26, 27] (rest 104 [1, 2, 3, 4, 5, 6]) [6, 7, 8, 9] a_prune_Trimmed_0 b_prune_Trimmed_0)))
 (.seq (.seq (.reg [zl 44 1 5,
 zn 45 44,
 zq 46 (.bin .eql (.t 45) (.c (.int .i64 0)))])
 (.cond (.t 46) (.seq (.reg [zf 47 0 1,
 zl 48 1 47,
 zq 49 (.call f_spec_Nothing [(.t 48)] []),
 zs 2 2 49,
 zq 3 (.mov (.c .nils))])
  (.ret)) (.skip)))
 (.seq (.seq (.reg [zl 50 1 5,
 zn 51 50,
 zk 52 0])
 (.blk 2 (l_prune_Trimmed_2)))
 (.seq (.drw [zL 102 2 4,
 zl 103 1 5,
 zs 2 2 102,
 zm 3 103] [(1, 2)])
 (.ret))))))))
def s_prune_Trimmed : List Nat := [1, 2, 4, 5, 23, 6, 35, 36, 41, 42, 10, 72, 76, 14]
def F_prune_Trimmed : IF := ⟨1, 104, 14, c_prune_Trimmed, [(2, some (true, 2)), (3, none)], true, false, false⟩
def c_r05_Refines : C :=
 .seq (.reg [zq 2 (.box 0 2 (.t 0)),
 zq 3 (.box 1 2 (.t 1)),
 zo 4 false])
 (.seq (.reg [zL 5 2 2,
 zL 6 2 3,
 zq 7 (.call f_r05_Depth [(.t 5), (.t 6)] []),
 zq 8 (.bin .lss (.t 7) (.c (.int .i64 0))),
 zm 4 8])
 (.ret))
def s_r05_Refines : List Nat := [2, 3]
def F_r05_Refines : IF := ⟨2, 9, 2, c_r05_Refines, [(4, none)], true, false, false⟩
def l_r16_choices_0 : C :=
 .loop (rest 53 [0, 1, 2, 9, 10, 11]) [0] (.seq (.reg [zb 12 .lss 11 10])
 (.seq (.cond (.t 12) (.skip) (.exit 0))
 (.seq (.blk 1 (.seq (.reg [zm 13 11,
 zi 14 2 9 11,
 zL 15 2 14,
 zq 8 (.alc 0 2 (.agg [(.int .i64 0), (.int .i64 0)])),
 zm 7 13,
 zs 2 8 15])
  (.seq (.drw [zf 16 0 8,
 zl 17 1 16,
 zq 18 (.bin .lss (.t 17) (.c (.int .i64 0))),
 zm 19 18,
 zfg 20 0 8 19 false,
 zlg 21 1 20 19 false,
 zmg 22 1 19 false,
 zg 23 (.bin .geq (.t 21) (.t 22)) 19 false,
 zy 24 19 23,
 zm 25 24,
 zfg 26 1 8 25 false,
 zlg 27 1 26 25 false,
 zg 28 (.bin .lss (.t 27) (.c (.int .i64 1))) 25 false,
 zy 29 25 28,
 zm 30 29,
 zfg 31 1 8 30 false,
 zlg 32 1 31 30 false,
 zmg 33 2 30 false,
 zg 34 (.bin .shl (.c (.int .i64 1)) (.t 33)) 30 false,
 zg 35 (.bin .geq (.t 32) (.t 34)) 30 false,
 zy 36 30 35,
 zm 37 36,
 zmg 38 7 37 false,
 zg 39 (.bin .gtr (.t 38) (.c (.int .i64 0))) 37 false,
 zmg 40 39 37 false,
 zmg 41 0 40 true,
 zmg 42 7 40 true,
 zg 43 (.bin .sub (.t 42) (.c (.int .i64 1))) 40 true,
 zg 44 (.iad 2 (.t 41) (.t 43)) 40 true,
 zfg 45 0 44 40 true,
 zlg 46 1 45 40 true,
 zfg 47 0 8 40 true,
 zlg 48 1 47 40 true,
 zg 49 (.bin .geq (.t 46) (.t 48)) 40 true,
 zg 50 (.pick (.t 40) (.t 49) (.c (.bool false))) 37 false,
 zy 51 37 50] [])
  (.cond (.t 51) (.seq (.reg [zo 6 false])
   (.ret)) (.skip)))))
 (.reg [za 52 11 1,
 zm 11 52]))))
def c_r16_choices : C :=
 .seq (.reg [zo 6 false])
 (.seq (.seq (.reg [zm 9 0,
 zn 10 9,
 zk 11 0])
 (.blk 0 (l_r16_choices_0)))
 (.seq (.reg [zo 6 true])
 (.ret)))
def s_r16_choices : List Nat := [8]
def F_r16_choices : IF := ⟨3, 53, 1, c_r16_choices, [(6, none)], true, false, false⟩
def l_r01_List_0 : C :=
 .loop (rest 20 [1, 5, 7, 8]) [0] (.seq (.reg [zb 9 .lss 8 7])
 (.seq (.cond (.t 9) (.skip) (.exit 0))
 (.seq (.blk 1 (.seq (.reg [zm 10 8,
 zm 6 10])
  (.seq (.reg [zm 11 1,
 zm 12 6,
 zq 13 (.call f_r01_Has [(.t 11), (.t 12)] [])])
  (.cond (.t 13) (.reg [zm 14 5,
 zm 15 6,
 zq 16 (.bsl 0 1 1 [(.t 15)]),
 zq 17 (.app 1 1 8 (.t 14) (.t 16)),
 zm 5 17]) (.skip)))))
 (.reg [za 18 8 1,
 zm 8 18]))))
def c_r01_List : C :=
 .seq (.reg [zq 4 (.mov (.c .nils))])
 (.seq (.reg [zq 5 (.mov (.c .nils))])
 (.seq (.seq (.reg [zm 7 0,
 zk 8 0])
 (.blk 0 (l_r01_List_0)))
 (.seq (.reg [zm 19 5,
 zm 4 19])
 (.ret))))
def s_r01_List : List Nat := [16, 17]
def F_r01_List : IF := ⟨2, 20, 2, c_r01_List, [(4, none)], true, false, false⟩
def l_r04_allFall_0 : C :=
 .loop (rest 20 [1, 2, 8, 9, 10]) [] (.seq (.reg [zb 11 .lss 10 9])
 (.seq (.cond (.t 11) (.skip) (.exit 0))
 (.seq (.blk 1 (.seq (.reg [zi 12 1 8 10,
 zl 13 1 12,
 zm 6 13])
  (.seq (.reg [zL 14 2 2,
 zm 15 6,
 zm 16 1,
 zq 17 (.call f_r04_falls [(.t 14), (.t 15), (.t 16)] []),
 zq 18 (.un .not (.t 17))])
  (.cond (.t 18) (.seq (.reg [zo 4 false])
   (.ret)) (.skip)))))
 (.reg [za 19 10 1,
 zm 10 19]))))
def c_r04_allFall : C :=
 .seq (.reg [zq 2 (.box 0 2 (.t 0)),
 zo 4 false])
 (.seq (.seq (.reg [zf 7 0 2,
 zl 8 1 7,
 zn 9 8,
 zk 10 0])
 (.blk 0 (l_r04_allFall_0)))
 (.seq (.reg [zo 4 true])
 (.ret)))
def s_r04_allFall : List Nat := [2]
def F_r04_allFall : IF := ⟨2, 20, 1, c_r04_allFall, [(4, none)], true, false, false⟩
def c_system_order : C :=
 .seq (.reg [zq 2 (.box 0 2 (.t 0)),
 zq 3 (.box 1 2 (.t 1)),
 zk 4 0])
 (.seq (.seq (.reg [zf 5 0 2,
 zl 6 1 5,
 zf 7 0 3,
 zl 8 1 7,
 zb 9 .neq 6 8])
 (.cond (.t 9) (.seq (.reg [zf 10 0 2,
 zl 11 1 10,
 zf 12 0 3,
 zl 13 1 12,
 zb 14 .sub 11 13,
 zm 4 14])
  (.ret)) (.skip)))
 (.seq (.reg [zf 15 1 2,
 zl 16 1 15,
 zf 17 1 3,
 zl 18 1 17,
 zb 19 .sub 16 18,
 zm 4 19])
 (.ret)))
def s_system_order : List Nat := [2, 3]
def F_system_order : IF := ⟨2, 20, 2, c_system_order, [(4, none)], true, false, false⟩
def l_family_choices_0 : C :=
 .loop (rest 48 [0, 1, 2, 9, 10, 11]) [0] (.seq (.reg [zb 12 .lss 11 10])
 (.seq (.cond (.t 12) (.skip) (.exit 0))
 (.seq (.blk 1 (.seq (.reg [zm 13 11,
 zi 14 2 9 11,
 zL 15 2 14,
 zq 8 (.alc 0 2 (.agg [(.int .i64 0), (.int .i64 0)])),
 zm 7 13,
 zs 2 8 15])
  (.seq (.drw [zm 16 2,
 zf 17 0 8,
 zl 18 1 17,
 zq 19 (.calv (.t 16) [(.t 18)] []),
 zq 20 (.un .not (.t 19)),
 zm 21 20,
 zfg 22 1 8 21 false,
 zlg 23 1 22 21 false,
 zg 24 (.bin .lss (.t 23) (.c (.int .i64 1))) 21 false,
 zy 25 21 24,
 zm 26 25,
 zfg 27 1 8 26 false,
 zlg 28 1 27 26 false,
 zmg 29 1 26 false,
 zg 30 (.bin .geq (.t 28) (.t 29)) 26 false,
 zy 31 26 30,
 zm 32 31,
 zmg 33 7 32 false,
 zg 34 (.bin .gtr (.t 33) (.c (.int .i64 0))) 32 false,
 zmg 35 34 32 false,
 zmg 36 0 35 true,
 zmg 37 7 35 true,
 zg 38 (.bin .sub (.t 37) (.c (.int .i64 1))) 35 true,
 zg 39 (.iad 2 (.t 36) (.t 38)) 35 true,
 zfg 40 0 39 35 true,
 zlg 41 1 40 35 true,
 zfg 42 0 8 35 true,
 zlg 43 1 42 35 true,
 zg 44 (.bin .geq (.t 41) (.t 43)) 35 true,
 zg 45 (.pick (.t 35) (.t 44) (.c (.bool false))) 32 false,
 zy 46 32 45] [])
  (.cond (.t 46) (.seq (.reg [zo 6 false])
   (.ret)) (.skip)))))
 (.reg [za 47 11 1,
 zm 11 47]))))
def c_family_choices : C :=
 .seq (.reg [zo 6 false])
 (.seq (.seq (.reg [zm 9 0,
 zn 10 9,
 zk 11 0])
 (.blk 0 (l_family_choices_0)))
 (.seq (.reg [zo 6 true])
 (.ret)))
def s_family_choices : List Nat := [8]
def F_family_choices : IF := ⟨3, 48, 1, c_family_choices, [(6, none)], true, false, false⟩
def c_family_Valid_1 : C :=
 .seq (.reg [zo 3 false])
 (.seq (.reg [zf 4 0 1,
 zl 5 1 4,
 zn 6 5,
 zm 7 0,
 zq 8 (.call f_act_Is [(.t 6), (.t 7)] []),
 zm 3 8])
 (.ret))
def s_family_Valid_1 : List Nat := []
def F_family_Valid_1 : IF := ⟨2, 9, 0, c_family_Valid_1, [(3, none)], true, false, false⟩
def c_act_Is : C :=
 .seq (.reg [zo 4 false])
 (.seq (.reg [zm 5 1,
 zq 6 (.bin .geq (.t 5) (.c (.int .i64 0))),
 zm 7 6,
 zmg 8 1 7 true,
 zmg 9 0 7 true,
 zg 10 (.bin .shl (.c (.int .i64 1)) (.t 9)) 7 true,
 zg 11 (.bin .lss (.t 8) (.t 10)) 7 true,
 zu 12 7 11,
 zm 4 12])
 (.ret))
def s_act_Is : List Nat := []
def F_act_Is : IF := ⟨2, 13, 0, c_act_Is, [(4, none)], true, false, false⟩
def c_family_Valid_2 : C :=
 .seq (.reg [zo 3 false])
 (.seq (.reg [zm 4 0,
 zq 5 (.bin .geq (.t 4) (.c (.int .i64 0))),
 zm 6 5,
 zmg 7 0 6 true,
 zlg 8 1 1 6 true,
 zg 9 (.bin .lss (.t 7) (.t 8)) 6 true,
 zu 10 6 9,
 zm 3 10])
 (.ret))
def s_family_Valid_2 : List Nat := []
def F_family_Valid_2 : IF := ⟨2, 11, 0, c_family_Valid_2, [(3, none)], true, false, false⟩
def c_act_In : C :=
 .seq (.reg [zq 1 (.box 0 1 (.t 0)),
 zq 2 (.mov (.c .nilf))])
 (.seq (.reg [zq 3 (.mkf f_act_In_1 [(.t 1)]),
 zm 2 3])
 (.ret))
def s_act_In : List Nat := [1]
def F_act_In : IF := ⟨1, 4, 1, c_act_In, [(2, none)], true, false, false⟩
def c__family_products__with : C :=
 .seq (.reg [zk 4 0])
 (.seq (.reg [zm 5 0,
 zm 6 1,
 zq 7 (.bin .shl (.c (.int .i64 1)) (.t 6)),
 zb 8 .or 5 7,
 zm 4 8])
 (.ret))
def s__family_products__with : List Nat := []
def F__family_products__with : IF := ⟨2, 9, 0, c__family_products__with, [(4, none)], true, false, false⟩
def l_prune_rungs_2 : C :=
 .loop (rest 106 [1, 4, 5, 6, 7, 8, 26, 27, 28, 56, 57, 58]) [11, 12] (.seq (.reg [zb 59 .lss 58 57])
 (.seq (.cond (.t 59) (.skip) (.exit 2))
 (.seq (.blk 3 (.seq (.reg [zm 60 58,
 zi 61 1 56 58,
 zl 62 1 61,
 zm 10 60,
 zm 11 62])
  (.seq (.reg [zm 63 11,
 zq 64 (.bin .geq (.t 63) (.c (.int .i64 0)))])
  (.cond (.t 64) (.reg [zm 65 6,
 zm 66 11,
 zm 67 6,
 zm 68 11,
 zi 69 1 67 68,
 zl 70 1 69,
 zm 71 8,
 zm 72 10,
 zq 73 (.bld [(.int .i64 0), (.int .i64 0)] [(0, 1, (.t 71)), (1, 1, (.t 72))]),
 zq 74 (.bsl 11 2 1 [(.t 73)]),
 zq 75 (.app 12 2 16 (.t 70) (.t 74)),
 zi 76 1 65 66,
 zs 1 76 75]) (.skip)))))
 (.reg [za 77 58 1,
 zm 58 77]))))
def l_prune_rungs_0 : C :=
 .loop (rest 106 [1, 4, 5, 6, 7, 26, 27, 28]) [7, 8, 9, 10, 11, 12] (.seq (.reg [zb 29 .lss 28 27])
 (.seq (.cond (.t 29) (.skip) (.exit 0))
 (.seq (.blk 1 (.seq (.reg [zm 30 28,
 zi 31 2 26 28,
 zL 32 2 31,
 zq 9 (.alc 7 2 (.agg [.nils, .nils])),
 zm 8 30,
 zs 2 9 32])
  (.seq (.drw [zl 33 1 4,
 zm 34 8,
 zl 35 1 5,
 zm 36 8,
 zf 37 0 9,
 zl 38 1 37,
 zn 39 38,
 zf 40 0 9,
 zl 41 1 40,
 zn 42 41,
 zq 43 (.mks 8 1 1 (.bool false) (.t 42) (.t 42)),
 zi 44 1 33 34,
 zs 1 44 39,
 zi 45 1 35 36,
 zs 1 45 43] [(0, 10), (2, 10), (4, 10), (5, 10), (6, 10), (10, 11), (2, 12), (7, 12), (8, 12), (9, 12), (10, 12)])
  (.seq (.seq (.reg [zl 46 1 4,
 zm 47 8,
 zi 48 1 46 47,
 zl 49 1 48,
 zq 50 (.bin .eql (.t 49) (.c (.int .i64 0)))])
  (.cond (.t 50) (.reg [zl 51 1 7,
 zm 52 8,
 zq 53 (.bsl 9 1 1 [(.t 52)]),
 zq 54 (.app 10 1 8 (.t 51) (.t 53)),
 zs 1 7 54]) (.skip)))
  (.seq (.reg [zf 55 1 9,
 zl 56 1 55,
 zn 57 56,
 zk 58 0])
  (.blk 2 (l_prune_rungs_2)))))))
 (.reg [za 78 28 1,
 zm 28 78]))))
def l_prune_rungs_6 : C :=
 .loop (rest 106 [6, 7, 12, 13, 92, 93, 94]) [13] (.seq (.reg [zb 95 .lss 94 93])
 (.seq (.cond (.t 95) (.skip) (.exit 6))
 (.seq (.blk 7 (.seq (.reg [zi 96 2 92 94,
 zL 97 2 96,
 zq 15 (.alc 13 2 (.agg [(.int .i64 0), (.int .i64 0)])),
 zs 2 15 97])
  (.reg [zm 98 12,
 zq 99 (.iaa 2 1 (.t 15) (.c (.int .i64 0))),
 zl 100 1 99,
 zq 101 (.iaa 2 1 (.t 15) (.c (.int .i64 1))),
 zl 102 1 101,
 zq 103 (.calv (.t 98) [(.t 100), (.t 102)] [])])))
 (.reg [za 104 94 1,
 zm 94 104]))))
def l_prune_rungs_4 : C :=
 .loop (rest 106 [6, 7, 12, 13]) [13] (.seq (.seq (.reg [zm 80 13,
 zl 81 1 7,
 zn 82 81,
 zb 83 .lss 80 82])
 (.cond (.t 83) (.skip) (.exit 4)))
 (.seq (.blk 5 (.seq (.reg [zm 86 6,
 zl 87 1 7,
 zm 88 13,
 zi 89 1 87 88,
 zl 90 1 89,
 zi 91 1 86 90,
 zl 92 1 91,
 zn 93 92,
 zk 94 0])
  (.blk 6 (l_prune_rungs_6))))
 (.reg [zm 84 13,
 za 85 84 1,
 zm 13 85])))
def c_prune_rungs : C :=
 .seq (.reg [zq 1 (.box 0 2 (.t 0)),
 zq 2 (.mov (.c .nils))])
 (.seq (.reg [zf 16 1 1,
 zl 17 1 16,
 zn 18 17,
 zm 3 18])
 (.seq (.reg [zm 19 3,
 zq 20 (.mks 1 1 8 (.int .i64 0) (.t 19) (.t 19)),
 zq 4 (.alc 2 1 .nils),
 zs 1 4 20])
 (.seq (.reg [zm 21 3,
 zq 22 (.mks 3 1 24 .nils (.t 21) (.t 21)),
 zq 5 (.alc 4 1 .nils),
 zs 1 5 22])
 (.seq (.reg [zm 23 3,
 zq 24 (.mks 5 1 24 .nils (.t 23) (.t 23)),
 zm 6 24])
 (.seq (.reg [zq 7 (.alc 6 1 .nils)])
 (.seq (.seq (.reg [zf 25 1 1,
 zl 26 1 25,
 zn 27 26,
 zk 28 0])
 (.blk 0 (l_prune_rungs_0)))
 (.seq (.reg [zq 79 (.mkf f_prune_rungs_1 [(.t 1), (.t 5), (.t 4), (.t 7)]),
 zm 12 79])
 (.seq (.seq (.reg [zk 13 0])
 (.blk 4 (l_prune_rungs_4)))
 (.seq (.reg [zl 105 1 7,
 zm 2 105])
 (.ret))))))))))
def s_prune_rungs : List Nat := [1, 20, 4, 22, 5, 24, 7, 9, 43, 53, 54, 74, 75, 15]
def F_prune_rungs : IF := ⟨1, 106, 14, c_prune_rungs, [(2, none)], true, false, false⟩
def c_family_chosen : C :=
 .seq (.reg [zq 3 (.box 0 1 (.t 1)),
 zk 4 0,
 zo 5 false])
 (.seq (.reg [zm 7 0,
 zq 8 (.mkf f_family_chosen_1 [(.t 3)]),
 zq 9 (.call f_slices_IndexFuncZaiCeai [(.t 7), (.t 8)] []),
 zm 6 9])
 (.seq (.seq (.reg [zm 10 6,
 zq 11 (.bin .lss (.t 10) (.c (.int .i64 0)))])
 (.cond (.t 11) (.seq (.reg [zk 4 0,
 zo 5 false])
  (.ret)) (.skip)))
 (.seq (.reg [zm 12 0,
 zm 13 6,
 zi 14 2 12 13,
 zf 15 0 14,
 zl 16 1 15,
 zm 4 16,
 zo 5 true])
 (.ret))))
def s_family_chosen : List Nat := [3]
def F_family_chosen : IF := ⟨2, 17, 1, c_family_chosen, [(4, none), (5, none)], true, false, false⟩
def c_r01_Has : C :=
 .seq (.reg [zo 4 false])
 (.seq (.reg [zm 5 0,
 zm 6 1,
 zb 7 .shr 5 6,
 zq 8 (.bin .and (.t 7) (.c (.int .i64 1))),
 zq 9 (.bin .eql (.t 8) (.c (.int .i64 1))),
 zm 4 9])
 (.ret))
def s_r01_Has : List Nat := []
def F_r01_Has : IF := ⟨2, 10, 0, c_r01_Has, [(4, none)], true, false, false⟩
def c_r01_letter : C :=
 .seq (.reg [zo 2 false])
 (.seq (.reg [zm 3 0,
 zq 4 (.bin .geq (.t 3) (.c (.int .u8 97))),
 zm 5 4,
 zmg 6 0 5 true,
 zg 7 (.bin .leq (.t 6) (.c (.int .u8 122))) 5 true,
 zu 8 5 7,
 zm 9 8,
 zmg 10 0 9 false,
 zg 11 (.bin .geq (.t 10) (.c (.int .u8 65))) 9 false,
 zmg 12 11 9 false,
 zmg 13 0 12 true,
 zg 14 (.bin .leq (.t 13) (.c (.int .u8 90))) 12 true,
 zg 15 (.pick (.t 12) (.t 14) (.c (.bool false))) 9 false,
 zy 16 9 15,
 zm 2 16])
 (.ret))
def s_r01_letter : List Nat := []
def F_r01_letter : IF := ⟨1, 17, 0, c_r01_letter, [(2, none)], true, false, false⟩
def l_r01_Rising_0 : C :=
 .loop (rest 20 [0, 3]) [] (.seq (.seq (.reg [zm 4 3,
 zm 5 0,
 zn 6 5,
 zb 7 .lss 4 6])
 (.cond (.t 7) (.skip) (.exit 0)))
 (.seq (.blk 1 (.seq (.drw [zm 10 0,
 zm 11 3,
 zq 12 (.bin .sub (.t 11) (.c (.int .i64 1))),
 zi 13 1 10 12,
 zl 14 1 13,
 zm 15 0,
 zm 16 3,
 zi 17 1 15 16,
 zl 18 1 17,
 zb 19 .geq 14 18] [])
  (.cond (.t 19) (.seq (.reg [zo 2 false])
   (.ret)) (.skip))))
 (.reg [zm 8 3,
 za 9 8 1,
 zm 3 9])))
def c_r01_Rising : C :=
 .seq (.reg [zo 2 false])
 (.seq (.seq (.reg [zk 3 1])
 (.blk 0 (l_r01_Rising_0)))
 (.seq (.reg [zo 2 true])
 (.ret)))
def s_r01_Rising : List Nat := []
def F_r01_Rising : IF := ⟨1, 20, 0, c_r01_Rising, [(2, none)], true, false, false⟩
def c_r01_Set : C :=
 .seq (.reg [zo 4 false])
 (.seq (.reg [zm 5 1,
 zq 6 (.bin .geq (.t 5) (.c (.int .i64 0))),
 zm 7 6,
 zmg 8 1 7 true,
 zmg 9 0 7 true,
 zg 10 (.bin .shl (.c (.int .i64 1)) (.t 9)) 7 true,
 zg 11 (.bin .lss (.t 8) (.t 10)) 7 true,
 zu 12 7 11,
 zm 4 12])
 (.ret))
def s_r01_Set : List Nat := []
def F_r01_Set : IF := ⟨2, 13, 0, c_r01_Set, [(4, none)], true, false, false⟩
def l_act_Name_0 : C :=
 .loop (rest 46 [0, 19, 20]) [] (.seq (.reg [zb 21 .lss 20 19])
 (.seq (.cond (.t 21) (.skip) (.exit 0))
 (.seq (.blk 1 (.seq (.reg [zm 22 20,
 zm 3 22])
  (.seq (.reg [zm 23 0,
 zm 24 3,
 zq 25 (.idx (.t 23) (.t 24)),
 zm 4 25])
  (.seq (.reg [zm 26 4,
 zq 27 (.call f_act_letter [(.t 26)] []),
 zq 28 (.un .not (.t 27)),
 zm 29 28,
 zmg 30 4 29 true,
 zg 31 (.bin .lss (.t 30) (.c (.int .u8 48))) 29 true,
 zmg 32 31 29 true,
 zmg 33 4 32 false,
 zg 34 (.bin .gtr (.t 33) (.c (.int .u8 57))) 32 false,
 zg 35 (.pick (.t 32) (.c (.bool true)) (.t 34)) 29 true,
 zu 36 29 35,
 zm 37 36,
 zmg 38 4 37 true,
 zg 39 (.bin .neq (.t 38) (.c (.int .u8 45))) 37 true,
 zu 40 37 39,
 zm 41 40,
 zmg 42 4 41 true,
 zg 43 (.bin .neq (.t 42) (.c (.int .u8 95))) 41 true,
 zu 44 41 43])
  (.cond (.t 44) (.seq (.reg [zo 2 false])
   (.ret)) (.skip))))))
 (.reg [za 45 20 1,
 zm 20 45]))))
def c_act_Name : C :=
 .seq (.reg [zo 2 false])
 (.seq (.seq (.reg [zm 5 0,
   ⟨some 6, .bin .eql (.t 5) (.c (.str ⟨#[]⟩)), none⟩,
 zm 7 6,
 zmg 8 0 7 false,
 zg 9 (.lens (.t 8)) 7 false,
 zg 10 (.bin .gtr (.t 9) (.c (.int .i64 20))) 7 false,
 zy 11 7 10,
 zm 12 11,
 zmg 13 0 12 false,
 zg 14 (.idx (.t 13) (.c (.int .i64 0))) 12 false,
 zg 15 (.call f_act_letter [(.t 14)] []) 12 false,
 zg 16 (.un .not (.t 15)) 12 false,
 zy 17 12 16])
 (.cond (.t 17) (.seq (.reg [zo 2 false])
  (.ret)) (.skip)))
 (.seq (.seq (.reg [zm 18 0,
 zq 19 (.lens (.t 18)),
 zk 20 0])
 (.blk 0 (l_act_Name_0)))
 (.seq (.reg [zo 2 true])
 (.ret))))
def s_act_Name : List Nat := []
def F_act_Name : IF := ⟨1, 46, 0, c_act_Name, [(2, none)], true, false, false⟩
def c_slices_ContainsZsgsg : C :=
 .seq (.reg [zo 4 false])
 (.seq (.reg [zm 5 0,
 zm 6 1,
 zq 7 (.call f_slices_IndexZsgsg [(.t 5), (.t 6)] []),
 zq 8 (.bin .geq (.t 7) (.c (.int .i64 0))),
 zm 4 8])
 (.ret))
def s_slices_ContainsZsgsg : List Nat := []
def F_slices_ContainsZsgsg : IF := ⟨2, 9, 0, c_slices_ContainsZsgsg, [(4, none)], true, false, false⟩
def l_slices_IndexFunc___api_Spec_api_Spec__0 : C :=
 .loop (rest 19 [0, 1, 7, 8]) [] (.seq (.reg [zb 9 .lss 8 7])
 (.seq (.cond (.t 9) (.skip) (.exit 0))
 (.seq (.blk 1 (.seq (.reg [zm 10 8,
 zm 5 10])
  (.seq (.reg [zm 11 1,
 zm 12 0,
 zm 13 5,
 zi 14 2 12 13,
 zL 15 2 14,
 zq 16 (.calv (.t 11) [(.t 15)] [])])
  (.cond (.t 16) (.seq (.reg [zm 17 5,
 zm 4 17])
  (.ret)) (.skip)))))
 (.reg [za 18 8 1,
 zm 8 18]))))
def c_slices_IndexFuncZaiScai : C :=
 .seq (.reg [zk 4 0])
 (.seq (.seq (.reg [zm 6 0,
 zn 7 6,
 zk 8 0])
 (.blk 0 (l_slices_IndexFunc___api_Spec_api_Spec__0)))
 (.seq (.reg [zk 4 (-1)])
 (.ret)))
def s_slices_IndexFuncZaiScai : List Nat := []
def F_slices_IndexFuncZaiScai : IF := ⟨2, 19, 0, c_slices_IndexFuncZaiScai, [(4, none)], true, false, false⟩
def c_prune_Left : C :=
 .seq (.reg [zq 1 (.box 0 2 (.t 0)),
 zq 2 (.mov (.c .nilf))])
 (.seq (.reg [zq 3 (.mkf f_prune_Left_1 [(.t 1)]),
 zm 2 3])
 (.ret))
def s_prune_Left : List Nat := [1]
def F_prune_Left : IF := ⟨1, 4, 1, c_prune_Left, [(2, none)], true, false, false⟩
def c_spec_Nothing : C :=
 .seq (.reg [zq 2 (.alc 0 2 (.agg [.nils, .nils]))])
 (.seq (.reg [zm 3 0,
 zq 4 (.call f_slices_CloneZsgsg [(.t 3)] []),
 zq 5 (.bsl 1 1 1 [(.c (.int .i64 (-1)))]),
 zm 6 0,
 zn 7 6,
 zq 8 (.call f_slices_RepeatZitit [(.t 5), (.t 7)] [2]),
 zq 9 (.bld [.nils, .nils] [(1, 1, (.t 8))]),
 zq 10 (.bsl 3 2 1 [(.t 9)]),
 zq 11 (.bld [.nils, .nils] [(0, 1, (.t 4)), (1, 1, (.t 10))]),
 zs 2 2 11])
 (.ret))
def s_spec_Nothing : List Nat := [2, 5, 8, 10]
def F_spec_Nothing : IF := ⟨1, 12, 4, c_spec_Nothing, [(2, some (true, 2))], true, false, false⟩
def l_slices_Repeat___int_int__0 : C :=
 .loop (rest 48 [7, 8]) [] (.seq (.seq (.reg [zm 34 8,
 zm 35 7,
 zn 36 35,
 zb 37 .lss 34 36])
 (.cond (.t 37) (.skip) (.exit 0)))
 (.blk 1 (.drw [zm 38 8,
 zm 39 7,
 zm 40 8,
 zq 41 (.sli 1 (.t 39) (some (.t 40)) none none),
 zm 42 7,
 zm 43 8,
 zq 44 (.sli 1 (.t 42) none (some (.t 43)) none),
 zq 45 (.cpy (.t 41) (.t 44)),
 zb 46 .add 38 45,
 zm 8 46] [])))
def c_slices_RepeatZitit : C :=
 .seq (.reg [zq 4 (.mov (.c .nils))])
 (.seq (.seq (.reg [zm 9 1,
 zq 10 (.bin .lss (.t 9) (.c (.int .i64 0)))])
 (.cond (.t 10) (.reg [zq 11 (.bad),
 zr (.bad)]) (.skip)))
 (.seq (.reg [zm 13 0,
 zn 14 13,
 zq 15 (.cvi .u64 (.t 14)),
 zm 16 1,
 zq 17 (.cvi .u64 (.t 16)),
 zq 18 (.call f_math_bits_Mul [(.t 15), (.t 17)] []),
 zm 12 18,
 zq 19 (.ext (.t 12) 0),
 zq 20 (.ext (.t 12) 1),
 zm 5 19,
 zm 6 20])
 (.seq (.seq (.reg [zm 21 5,
 zq 22 (.bin .gtr (.t 21) (.c (.int .u64 0))),
 zm 23 22,
 zmg 24 6 23 false,
 zg 25 (.bin .gtr (.t 24) (.c (.int .u64 9223372036854775807))) 23 false,
 zy 26 23 25])
 (.cond (.t 26) (.reg [zq 27 (.bad),
 zr (.bad)]) (.skip)))
 (.seq (.reg [zm 28 6,
 zq 29 (.cvi .i64 (.t 28)),
 zq 30 (.mks 0 1 8 (.int .i64 0) (.t 29) (.t 29)),
 zm 7 30])
 (.seq (.reg [zm 31 7,
 zm 32 0,
 zq 33 (.cpy (.t 31) (.t 32)),
 zm 8 33])
 (.seq (.blk 0 (l_slices_Repeat___int_int__0))
 (.seq (.reg [zm 47 7,
 zm 4 47])
 (.ret))))))))
def s_slices_RepeatZitit : List Nat := [30]
def F_slices_RepeatZitit : IF := ⟨2, 48, 1, c_slices_RepeatZitit, [(4, none)], true, true, false⟩
def l_r05_Depth_0 : C :=
 .loop (rest 120 [2, 3, 5, 25, 26]) [3] (.seq (.reg [zb 27 .lss 26 25])
 (.seq (.cond (.t 27) (.skip) (.exit 0))
 (.seq (.blk 1 (.seq (.reg [zm 28 26,
 zm 6 28])
  (.reg [zm 29 5,
 zm 30 6,
 zf 31 1 3,
 zl 32 1 31,
 zn 33 32,
 zq 34 (.mks 3 1 1 (.bool false) (.t 33) (.t 33)),
 zi 35 1 29 30,
 zs 1 35 34])))
 (.reg [za 36 26 1,
 zm 26 36]))))
def l_r05_Depth_6 : C :=
 .loop (rest 120 [2, 3, 5, 8, 9, 11, 48, 49, 50, 74, 75, 76]) [6, 7] (.seq (.reg [zb 77 .lss 76 75])
 (.seq (.cond (.t 77) (.skip) (.exit 6))
 (.seq (.blk 7 (.seq (.reg [zm 78 76,
 zi 79 1 74 76,
 zl 80 1 79,
 zm 12 78,
 zm 13 80])
  (.seq (.seq (.reg [zm 81 13,
 zq 82 (.bin .lss (.t 81) (.c (.int .i64 0)))])
  (.cond (.t 82) (.exit 7) (.skip)))
  (.seq (.reg [zm 83 13,
 zf 84 1 3,
 zl 85 1 84,
 zq 86 (.iaa 2 1 (.t 11) (.c (.int .i64 1))),
 zl 87 1 86,
 zi 88 2 85 87,
 zf 89 1 88,
 zl 90 1 89,
 zm 91 12,
 zi 92 1 90 91,
 zl 93 1 92,
 zq 94 (.bld [(.int .i64 0), (.int .i64 0)] [(0, 1, (.t 83)), (1, 1, (.t 93))]),
 zq 14 (.alc 6 2 (.agg [(.int .i64 0), (.int .i64 0)])),
 zs 2 14 94])
  (.seq (.drw [zm 95 5,
 zq 96 (.iaa 2 1 (.t 14) (.c (.int .i64 0))),
 zl 97 1 96,
 zi 98 1 95 97,
 zl 99 1 98,
 zq 100 (.iaa 2 1 (.t 14) (.c (.int .i64 1))),
 zl 101 1 100,
 zi 102 1 99 101,
 zl 103 1 102,
 zq 104 (.un .not (.t 103))] [])
  (.cond (.t 104) (.seq (.drw [zm 105 5,
 zq 106 (.iaa 2 1 (.t 14) (.c (.int .i64 0))),
 zl 107 1 106,
 zi 108 1 105 107,
 zl 109 1 108,
 zq 110 (.iaa 2 1 (.t 14) (.c (.int .i64 1))),
 zl 111 1 110,
 zi 112 1 109 111,
 zr (.sto 1 (.t 112) (.c (.bool true)))] [])
  (.reg [zm 113 9,
 zL 114 2 14,
 zq 115 (.bsl 7 2 1 [(.t 114)]),
 zq 116 (.app 8 2 16 (.t 113) (.t 115)),
 zm 9 116])) (.skip)))))))
 (.reg [za 117 76 1,
 zm 76 117]))))
def l_r05_Depth_4 : C :=
 .loop (rest 120 [2, 3, 5, 8, 9, 48, 49, 50]) [5, 6, 7] (.seq (.reg [zb 51 .lss 50 49])
 (.seq (.cond (.t 51) (.skip) (.exit 4))
 (.seq (.blk 5 (.seq (.reg [zi 52 2 48 50,
 zL 53 2 52,
 zq 11 (.alc 5 2 (.agg [(.int .i64 0), (.int .i64 0)])),
 zs 2 11 53])
  (.seq (.seq (.drw [zf 54 1 2,
 zl 55 1 54,
 zq 56 (.iaa 2 1 (.t 11) (.c (.int .i64 0))),
 zl 57 1 56,
 zi 58 2 55 57,
 zL 59 2 58,
 zf 60 1 3,
 zl 61 1 60,
 zq 62 (.iaa 2 1 (.t 11) (.c (.int .i64 1))),
 zl 63 1 62,
 zi 64 2 61 63,
 zL 65 2 64,
 zq 66 (.call f_r05_parts [(.t 59), (.t 65)] [])] [])
  (.cond (.t 66) (.seq (.reg [zm 67 8,
 zm 4 67])
  (.ret)) (.skip)))
  (.seq (.reg [zf 68 1 2,
 zl 69 1 68,
 zq 70 (.iaa 2 1 (.t 11) (.c (.int .i64 0))),
 zl 71 1 70,
 zi 72 2 69 71,
 zf 73 1 72,
 zl 74 1 73,
 zn 75 74,
 zk 76 0])
  (.blk 6 (l_r05_Depth_6))))))
 (.reg [za 118 50 1,
 zm 50 118]))))
def l_r05_Depth_2 : C :=
 .loop (rest 120 [2, 3, 5, 7, 8]) [5, 6, 7] (.frzt 7 (.seq (.seq (.reg [zm 43 7,
 zn 44 43,
 zq 45 (.bin .gtr (.t 44) (.c (.int .i64 0)))])
 (.cond (.t 45) (.skip) (.exit 2)))
 (.seq (.blk 3 (.seq (.reg [zq 9 (.mov (.c .nils))])
  (.seq (.seq (.reg [zm 48 7,
 zn 49 48,
 zk 50 0])
  (.blk 4 (l_r05_Depth_4)))
  (.reg [zm 119 9,
 zm 7 119]))))
 (.reg [zm 46 8,
 za 47 46 1,
 zm 8 47]))))
def c_r05_Depth : C :=
 .seq (.reg [zq 2 (.box 0 2 (.t 0)),
 zq 3 (.box 1 2 (.t 1)),
 zk 4 0])
 (.seq (.reg [zL 16 2 2,
 zq 17 (.call f_r04_Trim [(.t 16)] []),
 zm 15 17,
 zq 18 (.ext (.t 15) 0),
 zq 19 (.ext (.t 15) 1),
 zs 2 2 18])
 (.seq (.reg [zf 20 1 2,
 zl 21 1 20,
 zn 22 21,
 zq 23 (.mks 2 1 24 .nils (.t 22) (.t 22)),
 zm 5 23])
 (.seq (.seq (.reg [zm 24 5,
 zn 25 24,
 zk 26 0])
 (.blk 0 (l_r05_Depth_0)))
 (.seq (.reg [zm 37 5,
 zq 38 (.iad 1 (.t 37) (.c (.int .i64 0))),
 zl 39 1 38,
 zq 40 (.iad 1 (.t 39) (.c (.int .i64 0))),
 zr (.sto 1 (.t 40) (.c (.bool true)))])
 (.seq (.reg [zq 41 (.bld [(.int .i64 0), (.int .i64 0)] [(0, 1, (.c (.int .i64 0))), (1, 1, (.c (.int .i64 0)))]),
 zq 42 (.bsl 4 2 1 [(.t 41)]),
 zm 7 42])
 (.seq (.seq (.reg [zk 8 0])
 (.blk 2 (l_r05_Depth_2)))
 (.seq (.reg [zk 4 (-1)])
 (.ret))))))))
def s_r05_Depth : List Nat := [2, 3, 23, 34, 42, 11, 14, 115, 116]
def F_r05_Depth : IF := ⟨2, 120, 9, c_r05_Depth, [(4, none)], true, false, false⟩
def l_r04_falls_0 : C :=
 .loop (rest 31 [1, 2, 10, 11, 12]) [] (.seq (.reg [zb 13 .lss 12 11])
 (.seq (.cond (.t 13) (.skip) (.exit 0))
 (.seq (.blk 1 (.seq (.reg [zm 14 12,
 zi 15 1 10 12,
 zl 16 1 15,
 zm 7 14,
 zm 8 16])
  (.seq (.reg [zm 17 8,
 zq 18 (.bin .geq (.t 17) (.c (.int .i64 0))),
 zm 19 18,
 zmg 20 1 19 true,
 zmg 21 7 19 true,
 zg 22 (.call f_r01_Has [(.t 20), (.t 21)] []) 19 true,
 zu 23 19 22,
 zm 24 23,
 zmg 25 2 24 true,
 zmg 26 8 24 true,
 zg 27 (.iad 1 (.t 25) (.t 26)) 24 true,
 zlg 28 1 27 24 true,
 zu 29 24 28])
  (.cond (.t 29) (.seq (.reg [zo 6 true])
   (.ret)) (.skip)))))
 (.reg [za 30 12 1,
 zm 12 30]))))
def c_r04_falls : C :=
 .seq (.reg [zq 3 (.box 0 2 (.t 0)),
 zo 6 false])
 (.seq (.seq (.reg [zf 9 1 3,
 zl 10 1 9,
 zn 11 10,
 zk 12 0])
 (.blk 0 (l_r04_falls_0)))
 (.seq (.reg [zo 6 false])
 (.ret)))
def s_r04_falls : List Nat := [3]
def F_r04_falls : IF := ⟨3, 31, 1, c_r04_falls, [(6, none)], true, false, false⟩
def l_act_In_1_0 : C :=
 .loop (rest 21 [0, 1, 3]) [] (.seq (.seq (.reg [zl 4 1 1,
 zm 5 3,
 zb 6 .shr 4 5,
 zq 7 (.bin .gtr (.t 6) (.c (.int .i64 0)))])
 (.cond (.t 7) (.skip) (.exit 0)))
 (.seq (.blk 1 (.seq (.reg [zl 10 1 1,
 zm 11 3,
 zb 12 .shr 10 11,
 zq 13 (.bin .and (.t 12) (.c (.int .i64 1))),
 zq 14 (.bin .eql (.t 13) (.c (.int .i64 1))),
 zm 15 14,
 zmg 16 0 15 true,
 zmg 17 3 15 true,
 zg 18 (.calv (.t 16) [(.t 17)] []) 15 true,
 zg 19 (.un .not (.t 18)) 15 true,
 zu 20 15 19])
  (.cond (.t 20) (.ret) (.skip))))
 (.reg [zm 8 3,
 za 9 8 1,
 zm 3 9])))
def c_act_In_1 : C :=
 .seq (.reg [zk 3 0])
 (.blk 0 (l_act_In_1_0))
def s_act_In_1 : List Nat := []
def F_act_In_1 : IF := ⟨2, 21, 0, c_act_In_1, [], false, false, false⟩
def l_prune_rungs_1_0 : C :=
 .loop (rest 59 [0, 1, 3, 4, 5, 15, 16, 17]) [0, 1] (.seq (.reg [zb 18 .lss 17 16])
 (.seq (.cond (.t 18) (.skip) (.exit 0))
 (.seq (.blk 1 (.seq (.reg [zm 19 17,
 zi 20 1 15 17,
 zl 21 1 20,
 zm 8 19,
 zm 9 21])
  (.seq (.reg [zm 22 9,
 zm 23 1,
 zb 24 .shr 22 23,
 zq 25 (.bin .and (.t 24) (.c (.int .i64 1))),
 zq 26 (.bin .eql (.t 25) (.c (.int .i64 1))),
 zm 27 26,
 zlg 28 1 3 27 true,
 zmg 29 0 27 true,
 zg 30 (.iad 1 (.t 28) (.t 29)) 27 true,
 zlg 31 1 30 27 true,
 zmg 32 8 27 true,
 zg 33 (.iad 1 (.t 31) (.t 32)) 27 true,
 zlg 34 1 33 27 true,
 zg 35 (.un .not (.t 34)) 27 true,
 zu 36 27 35])
  (.cond (.t 36) (.seq (.reg [zl 37 1 3,
 zm 38 0,
 zi 39 1 37 38,
 zl 40 1 39,
 zm 41 8,
 zi 42 1 40 41,
 zr (.sto 1 (.t 42) (.c (.bool true)))])
  (.seq (.reg [zl 43 1 4,
 zm 44 0,
 zi 45 1 43 44,
 zl 46 1 45,
 zq 47 (.bin .sub (.t 46) (.c (.int .i64 1))),
 zi 48 1 43 44,
 zs 1 48 47])
  (.seq (.reg [zl 49 1 4,
 zm 50 0,
 zi 51 1 49 50,
 zl 52 1 51,
 zq 53 (.bin .eql (.t 52) (.c (.int .i64 0)))])
  (.cond (.t 53) (.reg [zl 54 1 5,
 zm 55 0,
 zq 56 (.bsl 0 1 1 [(.t 55)]),
 zq 57 (.app 1 1 8 (.t 54) (.t 56)),
 zs 1 5 57]) (.skip))))) (.skip)))))
 (.reg [za 58 17 1,
 zm 17 58]))))
def c_prune_rungs_1 : C :=
 .seq (.reg [zf 10 1 2,
 zl 11 1 10,
 zm 12 0,
 zi 13 2 11 12,
 zf 14 0 13,
 zl 15 1 14,
 zn 16 15,
 zk 17 0])
 (.blk 0 (l_prune_rungs_1_0))
def s_prune_rungs_1 : List Nat := [56, 57]
def F_prune_rungs_1 : IF := ⟨6, 59, 2, c_prune_rungs_1, [], false, false, false⟩
def l_slices_IndexFunc___api_Choice_api_Choice__0 : C :=
 .loop (rest 19 [0, 1, 7, 8]) [] (.seq (.reg [zb 9 .lss 8 7])
 (.seq (.cond (.t 9) (.skip) (.exit 0))
 (.seq (.blk 1 (.seq (.reg [zm 10 8,
 zm 5 10])
  (.seq (.reg [zm 11 1,
 zm 12 0,
 zm 13 5,
 zi 14 2 12 13,
 zL 15 2 14,
 zq 16 (.calv (.t 11) [(.t 15)] [])])
  (.cond (.t 16) (.seq (.reg [zm 17 5,
 zm 4 17])
  (.ret)) (.skip)))))
 (.reg [za 18 8 1,
 zm 8 18]))))
def c_slices_IndexFuncZaiCeai : C :=
 .seq (.reg [zk 4 0])
 (.seq (.seq (.reg [zm 6 0,
 zn 7 6,
 zk 8 0])
 (.blk 0 (l_slices_IndexFunc___api_Choice_api_Choice__0)))
 (.seq (.reg [zk 4 (-1)])
 (.ret)))
def s_slices_IndexFuncZaiCeai : List Nat := []
def F_slices_IndexFuncZaiCeai : IF := ⟨2, 19, 0, c_slices_IndexFuncZaiCeai, [(4, none)], true, false, false⟩
def c_family_chosen_1 : C :=
 .seq (.reg [zq 2 (.box 0 2 (.t 0)),
 zo 3 false])
 (.seq (.reg [zf 4 1 2,
 zl 5 1 4,
 zl 6 1 1,
 zq 7 (.call f__family_products__has [(.t 5), (.t 6)] []),
 zm 3 7])
 (.ret))
def s_family_chosen_1 : List Nat := [2]
def F_family_chosen_1 : IF := ⟨2, 8, 1, c_family_chosen_1, [(3, none)], true, false, false⟩
def c_act_letter : C :=
 .seq (.reg [zo 2 false])
 (.seq (.reg [zm 3 0,
 zq 4 (.bin .geq (.t 3) (.c (.int .u8 97))),
 zm 5 4,
 zmg 6 0 5 true,
 zg 7 (.bin .leq (.t 6) (.c (.int .u8 122))) 5 true,
 zu 8 5 7,
 zm 9 8,
 zmg 10 0 9 false,
 zg 11 (.bin .geq (.t 10) (.c (.int .u8 65))) 9 false,
 zmg 12 11 9 false,
 zmg 13 0 12 true,
 zg 14 (.bin .leq (.t 13) (.c (.int .u8 90))) 12 true,
 zg 15 (.pick (.t 12) (.t 14) (.c (.bool false))) 9 false,
 zy 16 9 15,
 zm 2 16])
 (.ret))
def s_act_letter : List Nat := []
def F_act_letter : IF := ⟨1, 17, 0, c_act_letter, [(2, none)], true, false, false⟩
def l_slices_Index___string_string__0 : C :=
 .loop (rest 19 [0, 1, 7, 8]) [] (.seq (.reg [zb 9 .lss 8 7])
 (.seq (.cond (.t 9) (.skip) (.exit 0))
 (.seq (.blk 1 (.seq (.reg [zm 10 8,
 zm 5 10])
  (.seq (.reg [zm 11 1,
 zm 12 0,
 zm 13 5,
 zi 14 1 12 13,
 zl 15 1 14,
 zb 16 .eql 11 15])
  (.cond (.t 16) (.seq (.reg [zm 17 5,
 zm 4 17])
  (.ret)) (.skip)))))
 (.reg [za 18 8 1,
 zm 8 18]))))
def c_slices_IndexZsgsg : C :=
 .seq (.reg [zk 4 0])
 (.seq (.seq (.reg [zm 6 0,
 zn 7 6,
 zk 8 0])
 (.blk 0 (l_slices_Index___string_string__0)))
 (.seq (.reg [zk 4 (-1)])
 (.ret)))
def s_slices_IndexZsgsg : List Nat := []
def F_slices_IndexZsgsg : IF := ⟨2, 19, 0, c_slices_IndexZsgsg, [(4, none)], true, false, false⟩
def a_prune_Left_1_4 : C :=
 .reg [zm 13 51]
def b_prune_Left_1_4 : C :=
 .blk 5 (.drw [zl 52 1 12,
 zm 53 52,
 zlg 54 1 3 53 true,
 zfg 55 1 7 53 true,
 zlg 56 1 55 53 true,
 zmg 57 13 53 true,
 zg 58 (.iad 1 (.t 56) (.t 57)) 53 true,
 zlg 59 1 58 53 true,
 zg 60 (.iad 1 (.t 54) (.t 59)) 53 true,
 zlg 61 1 60 53 true,
 zg 62 (.un .not (.t 61)) 53 true,
 zu 63 53 62,
 zs 1 12 63] [])
def l_prune_Left_1_2 : C :=
 .loop (rest 101 [0, 1, 3, 4, 5, 6, 7, 8, 9, 43, 44, 45]) [6, 7] (.seq (.reg [zb 46 .lss 45 44])
 (.seq (.cond (.t 46) (.skip) (.exit 2))
 (.seq (.blk 3 (.seq (.reg [zi 47 1 43 45,
 zl 48 1 47,
 zm 11 48])
  (.seq (.reg [zq 12 (.alc 6 1 (.bool false)),
 zr (.sto 1 (.t 12) (.c (.bool true)))])
  (.seq (.seq (.reg [zm 49 11,
 zq 50 (.call f_act_In [(.t 49)] [])])
  (.blk 4 (.rngf (.t 50) [51] (rest 101 [0, 1, 3, 4, 5, 6, 7, 8, 9, 11, 12, 43, 44, 45]) [] a_prune_Left_1_4 b_prune_Left_1_4)))
  (.seq (.reg [zl 64 1 12])
  (.cond (.t 64) (.seq (.reg [zm 65 8,
 zm 66 11,
 zq 67 (.bsl 7 1 1 [(.t 66)]),
 zq 68 (.app 8 1 8 (.t 65) (.t 67)),
 zm 8 68])
  (.reg [zm 69 9,
 zm 70 11,
 zb 71 .or 69 70,
 zm 9 71])) (.skip)))))))
 (.reg [za 72 45 1,
 zm 45 72]))))
def a_prune_Left_1_6 : C :=
 .reg [zm 14 75]
def b_prune_Left_1_6 : C :=
 .blk 7 (.seq (.reg [zf 76 1 7,
 zl 77 1 76,
 zm 78 14,
 zi 79 1 77 78,
 zl 80 1 79,
 zm 15 80])
  (.seq (.reg [zl 81 1 4,
 zm 82 15,
 zi 83 1 81 82,
 zl 84 1 83,
 zq 85 (.un .not (.t 84))])
  (.cond (.t 85) (.seq (.reg [zl 86 1 4,
 zm 87 15,
 zi 88 1 86 87,
 zr (.sto 1 (.t 88) (.c (.bool true)))])
  (.reg [zl 89 1 5,
 zm 90 15,
 zq 91 (.bsl 9 1 1 [(.t 90)]),
 zq 92 (.app 10 1 8 (.t 89) (.t 91)),
 zs 1 5 92])) (.skip))))
def l_prune_Left_1_0 : C :=
 .loop (rest 101 [0, 1, 3, 4, 5, 6]) [5, 6, 7, 8, 9, 10] (.seq (.seq (.reg [zm 28 6,
 zl 29 1 5,
 zn 30 29,
 zb 31 .lss 28 30])
 (.cond (.t 31) (.skip) (.exit 0)))
 (.seq (.blk 1 (.seq (.drw [zf 34 1 1,
 zl 35 1 34,
 zl 36 1 5,
 zm 37 6,
 zi 38 1 36 37,
 zl 39 1 38,
 zi 40 2 35 39,
 zL 41 2 40,
 zq 7 (.alc 5 2 (.agg [.nils, .nils])),
 zs 2 7 41] [(0, 8), (1, 8), (2, 8), (4, 8), (5, 8), (6, 8), (7, 8)])
  (.seq (.reg [zq 8 (.mov (.c .nils))])
  (.seq (.reg [zk 9 0])
  (.seq (.seq (.reg [zf 42 0 7,
 zl 43 1 42,
 zn 44 43,
 zk 45 0])
  (.blk 2 (l_prune_Left_1_2)))
  (.seq (.seq (.reg [zm 73 9,
 zq 74 (.call f_act_In [(.t 73)] [])])
  (.blk 6 (.rngf (.t 74) [75] (rest 101 [0, 1, 3, 4, 5, 6, 7, 8]) [9, 10] a_prune_Left_1_6 b_prune_Left_1_6)))
  (.seq (.reg [zm 93 0,
 zl 94 1 5,
 zm 95 6,
 zi 96 1 94 95,
 zl 97 1 96,
 zm 98 8,
 zq 99 (.calv (.t 93) [(.t 97), (.t 98)] []),
 zq 100 (.un .not (.t 99))])
  (.cond (.t 100) (.ret) (.skip)))))))))
 (.reg [zm 32 6,
 za 33 32 1,
 zm 6 33])))
def c_prune_Left_1 : C :=
 .seq (.reg [zL 16 2 1,
 zq 17 (.call f_prune_Hollows [(.t 16)] []),
 zq 3 (.alc 0 1 .nils),
 zs 1 3 17])
 (.seq (.seq (.reg [zl 18 1 3,
 zq 19 (.iad 1 (.t 18) (.c (.int .i64 0))),
 zl 20 1 19])
 (.cond (.t 20) (.ret) (.skip)))
 (.seq (.reg [zf 21 1 1,
 zl 22 1 21,
 zn 23 22,
 zq 24 (.mks 1 1 1 (.bool false) (.t 23) (.t 23)),
 zq 4 (.alc 2 1 .nils),
 zs 1 4 24])
 (.seq (.reg [zl 25 1 4,
 zq 26 (.iad 1 (.t 25) (.c (.int .i64 0))),
 zr (.sto 1 (.t 26) (.c (.bool true)))])
 (.seq (.reg [zq 27 (.bsl 3 1 1 [(.c (.int .i64 0))]),
 zq 5 (.alc 4 1 .nils),
 zs 1 5 27])
 (.seq (.reg [zk 6 0])
 (.blk 0 (l_prune_Left_1_0)))))))
def s_prune_Left_1 : List Nat := [3, 24, 4, 27, 5, 7, 12, 67, 68, 91, 92]
def F_prune_Left_1 : IF := ⟨2, 101, 11, c_prune_Left_1, [], false, false, false⟩
def c_math_bits_Mul : C :=
 .seq (.reg [zq 4 (.mov (.c (.int .u64 0))),
 zq 5 (.mov (.c (.int .u64 0)))])
 (.seq (.cond (.c (.bool false)) (.seq (.reg [zm 11 0,
 zq 12 (.cvi .u32 (.t 11)),
 zm 13 1,
 zq 14 (.cvi .u32 (.t 13)),
 zq 15 (.call f_math_bits_Mul32 [(.t 12), (.t 14)] []),
 zm 10 15,
 zq 16 (.ext (.t 10) 0),
 zq 17 (.ext (.t 10) 1),
 zm 6 16,
 zm 7 17])
  (.seq (.reg [zm 18 6,
 zq 19 (.cvi .u64 (.t 18)),
 zm 20 7,
 zq 21 (.cvi .u64 (.t 20)),
 zm 4 19,
 zm 5 21])
  (.ret))) (.skip))
 (.seq (.reg [zm 23 0,
 zm 24 1,
 zq 25 (.call f_math_bits_Mul64 [(.t 23), (.t 24)] []),
 zm 22 25,
 zq 26 (.ext (.t 22) 0),
 zq 27 (.ext (.t 22) 1),
 zm 8 26,
 zm 9 27])
 (.seq (.reg [zm 28 8,
 zm 29 9,
 zm 4 28,
 zm 5 29])
 (.ret))))
def s_math_bits_Mul : List Nat := []
def F_math_bits_Mul : IF := ⟨2, 30, 0, c_math_bits_Mul, [(4, none), (5, none)], true, false, false⟩
def l_r04_Trim_0 : C :=
 .loop (rest 92 [1, 2, 4, 5, 6, 30, 31, 32]) [] (.seq (.reg [zb 33 .lss 32 31])
 (.seq (.cond (.t 33) (.skip) (.exit 0))
 (.seq (.blk 1 (.seq (.reg [zm 34 32,
 zi 35 1 30 32,
 zl 36 1 35,
 zm 7 34,
 zm 8 36])
  (.reg [zm 37 6,
 zm 38 8,
 zm 39 7,
 zi 40 1 37 38,
 zs 1 40 39])))
 (.reg [za 41 32 1,
 zm 32 41]))))
def l_r04_Trim_4 : C :=
 .loop (rest 92 [2, 4, 5, 6, 9, 12, 46, 47, 48, 64, 65, 66]) [7, 8] (.seq (.reg [zb 67 .lss 66 65])
 (.seq (.cond (.t 67) (.skip) (.exit 4))
 (.seq (.blk 5 (.seq (.reg [zi 68 1 64 66,
 zl 69 1 68,
 zm 14 69])
  (.seq (.seq (.reg [zm 70 14,
 zq 71 (.bin .geq (.t 70) (.c (.int .i64 0)))])
  (.cond (.t 71) (.reg [zm 72 6,
 zm 73 14,
 zi 74 1 72 73,
 zl 75 1 74,
 zm 14 75]) (.skip)))
  (.reg [zf 76 1 12,
 zl 77 1 76,
 zm 78 14,
 zq 79 (.bsl 7 1 1 [(.t 78)]),
 zq 80 (.app 8 1 8 (.t 77) (.t 79)),
 zf 81 1 12,
 zs 1 81 80]))))
 (.reg [za 82 66 1,
 zm 66 82]))))
def l_r04_Trim_2 : C :=
 .loop (rest 92 [2, 4, 5, 6, 9, 46, 47, 48]) [6, 7, 8, 9, 10] (.seq (.reg [zb 49 .lss 48 47])
 (.seq (.cond (.t 49) (.skip) (.exit 2))
 (.seq (.blk 3 (.seq (.reg [zi 50 1 46 48,
 zl 51 1 50,
 zm 11 51])
  (.seq (.reg [zf 52 1 4,
 zl 53 1 52,
 zm 54 11,
 zi 55 2 53 54,
 zf 56 0 55,
 zl 57 1 56,
 zq 58 (.bld [.nils, .nils] [(0, 1, (.t 57))]),
 zq 12 (.alc 6 2 (.agg [.nils, .nils])),
 zs 2 12 58])
  (.seq (.seq (.reg [zf 59 1 4,
 zl 60 1 59,
 zm 61 11,
 zi 62 2 60 61,
 zf 63 1 62,
 zl 64 1 63,
 zn 65 64,
 zk 66 0])
  (.blk 4 (l_r04_Trim_4)))
  (.reg [zf 83 1 9,
 zl 84 1 83,
 zL 85 2 12,
 zq 86 (.bsl 9 2 1 [(.t 85)]),
 zq 87 (.app 10 2 48 (.t 84) (.t 86)),
 zf 88 1 9,
 zs 1 88 87])))))
 (.reg [za 89 48 1,
 zm 48 89]))))
def c_r04_Trim : C :=
 .seq (.reg [zq 1 (.box 0 2 (.t 0)),
 zq 2 (.alc 1 2 (.agg [.nils, .nils])),
 zq 3 (.mov (.c .nils))])
 (.seq (.seq (.reg [zL 15 2 1,
 zq 16 (.call f_r04_Hollow [(.t 15)] []),
 zq 17 (.iad 1 (.t 16) (.c (.int .i64 0))),
 zl 18 1 17])
 (.cond (.t 18) (.seq (.reg [zf 19 0 1,
 zl 20 1 19,
 zq 21 (.call f_r03_Nothing [(.t 20)] []),
 zs 2 2 21,
 zq 3 (.mov (.c .nils))])
  (.ret)) (.skip)))
 (.seq (.reg [zL 22 2 1,
 zq 23 (.call f_r04_Solid [(.t 22)] []),
 zq 4 (.alc 2 2 (.agg [.nils, .nils])),
 zs 2 4 23])
 (.seq (.reg [zL 24 2 4,
 zq 25 (.call f_r04_Order [(.t 24)] []),
 zm 5 25])
 (.seq (.reg [zf 26 1 1,
 zl 27 1 26,
 zn 28 27,
 zq 29 (.mks 3 1 8 (.int .i64 0) (.t 28) (.t 28)),
 zm 6 29])
 (.seq (.seq (.reg [zm 30 5,
 zn 31 30,
 zk 32 0])
 (.blk 0 (l_r04_Trim_0)))
 (.seq (.reg [zf 42 0 1,
 zl 43 1 42,
 zq 44 (.app 4 1 16 (.c .nils) (.t 43)),
 zq 45 (.bld [.nils, .nils] [(0, 1, (.t 44))]),
 zq 9 (.alc 5 2 (.agg [.nils, .nils])),
 zs 2 9 45])
 (.seq (.seq (.reg [zm 46 5,
 zn 47 46,
 zk 48 0])
 (.blk 2 (l_r04_Trim_2)))
 (.seq (.reg [zL 90 2 9,
 zm 91 5,
 zs 2 2 90,
 zm 3 91])
 (.ret)))))))))
def s_r04_Trim : List Nat := [1, 2, 4, 29, 44, 9, 12, 79, 80, 86, 87]
def F_r04_Trim : IF := ⟨1, 92, 11, c_r04_Trim, [(2, some (true, 2)), (3, none)], true, false, false⟩
def l_r05_parts_0 : C :=
 .loop (rest 20 [3, 8, 9, 10]) [] (.seq (.reg [zb 11 .lss 10 9])
 (.seq (.cond (.t 11) (.skip) (.exit 0))
 (.seq (.blk 1 (.seq (.reg [zi 12 1 8 10,
 zl 13 1 12,
 zm 6 13])
  (.seq (.reg [zf 14 0 3,
 zl 15 1 14,
 zm 16 6,
 zq 17 (.call f_r01_In [(.t 15), (.t 16)] []),
 zq 18 (.un .not (.t 17))])
  (.cond (.t 18) (.seq (.reg [zo 4 true])
   (.ret)) (.skip)))))
 (.reg [za 19 10 1,
 zm 10 19]))))
def c_r05_parts : C :=
 .seq (.reg [zq 2 (.box 0 2 (.t 0)),
 zq 3 (.box 1 2 (.t 1)),
 zo 4 false])
 (.seq (.seq (.reg [zf 7 0 2,
 zl 8 1 7,
 zn 9 8,
 zk 10 0])
 (.blk 0 (l_r05_parts_0)))
 (.seq (.reg [zo 4 false])
 (.ret)))
def s_r05_parts : List Nat := [2, 3]
def F_r05_parts : IF := ⟨2, 20, 2, c_r05_parts, [(4, none)], true, false, false⟩
def c_math_bits_Mul32 : C :=
 .seq (.reg [zq 4 (.mov (.c (.int .u32 0))),
 zq 5 (.mov (.c (.int .u32 0)))])
 (.seq (.reg [zm 7 0,
 zq 8 (.cvi .u64 (.t 7)),
 zm 9 1,
 zq 10 (.cvi .u64 (.t 9)),
 zb 11 .mul 8 10,
 zm 6 11])
 (.seq (.reg [zm 12 6,
 zq 13 (.bin .shr (.t 12) (.c (.int .u64 32))),
 zq 14 (.cvi .u32 (.t 13)),
 zm 15 6,
 zq 16 (.cvi .u32 (.t 15)),
 zm 4 14,
 zm 5 16])
 (.ret)))
def s_math_bits_Mul32 : List Nat := []
def F_math_bits_Mul32 : IF := ⟨2, 17, 0, c_math_bits_Mul32, [(4, none), (5, none)], true, false, false⟩
def c_math_bits_Mul64 : C :=
 .seq (.reg [zq 4 (.mov (.c (.int .u64 0))),
 zq 5 (.mov (.c (.int .u64 0)))])
 (.seq (.reg [zm 14 0,
 zq 15 (.bin .and (.t 14) (.c (.int .u64 4294967295))),
 zm 6 15])
 (.seq (.reg [zm 16 0,
 zq 17 (.bin .shr (.t 16) (.c (.int .u64 32))),
 zm 7 17])
 (.seq (.reg [zm 18 1,
 zq 19 (.bin .and (.t 18) (.c (.int .u64 4294967295))),
 zm 8 19])
 (.seq (.reg [zm 20 1,
 zq 21 (.bin .shr (.t 20) (.c (.int .u64 32))),
 zm 9 21])
 (.seq (.reg [zm 22 6,
 zm 23 8,
 zb 24 .mul 22 23,
 zm 10 24])
 (.seq (.reg [zm 25 7,
 zm 26 8,
 zb 27 .mul 25 26,
 zm 28 10,
 zq 29 (.bin .shr (.t 28) (.c (.int .u64 32))),
 zb 30 .add 27 29,
 zm 11 30])
 (.seq (.reg [zm 31 11,
 zq 32 (.bin .and (.t 31) (.c (.int .u64 4294967295))),
 zm 12 32])
 (.seq (.reg [zm 33 11,
 zq 34 (.bin .shr (.t 33) (.c (.int .u64 32))),
 zm 13 34])
 (.seq (.reg [zm 35 12,
 zm 36 6,
 zm 37 9,
 zb 38 .mul 36 37,
 zb 39 .add 35 38,
 zm 12 39])
 (.seq (.reg [zm 40 7,
 zm 41 9,
 zb 42 .mul 40 41,
 zm 43 13,
 zb 44 .add 42 43,
 zm 45 12,
 zq 46 (.bin .shr (.t 45) (.c (.int .u64 32))),
 zb 47 .add 44 46,
 zm 4 47])
 (.seq (.reg [zm 48 0,
 zm 49 1,
 zb 50 .mul 48 49,
 zm 5 50])
 (.ret))))))))))))
def s_math_bits_Mul64 : List Nat := []
def F_math_bits_Mul64 : IF := ⟨2, 51, 0, c_math_bits_Mul64, [(4, none), (5, none)], true, false, false⟩
def l_r03_Nothing_0 : C :=
 .loop (rest 19 [0, 2, 3, 5, 6]) [2, 3] (.seq (.reg [zb 7 .lss 6 5])
 (.seq (.cond (.t 7) (.skip) (.exit 0))
 (.seq (.blk 1 (.reg [zf 8 1 3,
 zl 9 1 8,
 zq 10 (.bsl 2 1 1 [(.c (.int .i64 (-1)))]),
 zq 11 (.app 3 1 8 (.t 9) (.t 10)),
 zf 12 1 3,
 zs 1 12 11]))
 (.reg [za 13 6 1,
 zm 6 13]))))
def c_r03_Nothing : C :=
 .seq (.reg [zq 2 (.alc 0 2 (.agg [.nils, .nils]))])
 (.seq (.reg [zq 3 (.alc 1 2 (.agg [.nils, .nils]))])
 (.seq (.seq (.reg [zm 4 0,
 zn 5 4,
 zk 6 0])
 (.blk 0 (l_r03_Nothing_0)))
 (.seq (.drw [zm 14 0,
 zq 15 (.app 4 1 16 (.c .nils) (.t 14)),
 zL 16 2 3,
 zq 17 (.bsl 5 2 1 [(.t 16)]),
 zq 18 (.bld [.nils, .nils] [(0, 1, (.t 15)), (1, 1, (.t 17))]),
 zs 2 2 18] [(1, 2), (1, 3)])
 (.ret))))
def s_r03_Nothing : List Nat := [2, 3, 10, 11, 15, 17]
def F_r03_Nothing : IF := ⟨1, 19, 6, c_r03_Nothing, [(2, some (true, 2))], true, false, false⟩
def l_r04_Solid_2 : C :=
 .loop (rest 84 [2, 3, 4, 5, 6, 7, 8, 20, 21, 22, 29, 30, 31]) [6, 7] (.seq (.reg [zb 32 .lss 31 30])
 (.seq (.cond (.t 32) (.skip) (.exit 2))
 (.seq (.blk 3 (.seq (.reg [zi 33 1 29 31,
 zl 34 1 33,
 zm 10 34])
  (.seq (.reg [zm 35 3,
 zm 36 5,
 zi 37 1 35 36,
 zl 38 1 37,
 zq 39 (.un .not (.t 38)),
 zm 40 39,
 zg 41 (.ld true 2 (.t 6)) 40 true,
 zmg 42 10 40 true,
 zmg 43 3 40 true,
 zg 44 (.call f_r04_falls [(.t 41), (.t 42), (.t 43)] []) 40 true,
 zg 45 (.un .not (.t 44)) 40 true,
 zu 46 40 45])
  (.cond (.t 46) (.seq (.reg [zf 47 0 7,
 zl 48 1 47,
 zm 49 10,
 zq 50 (.bsl 6 1 1 [(.t 49)]),
 zq 51 (.app 7 1 8 (.t 48) (.t 50)),
 zf 52 0 7,
 zs 1 52 51])
  (.reg [zm 53 8,
 zm 54 10,
 zb 55 .or 53 54,
 zm 8 55])) (.skip)))))
 (.reg [za 56 31 1,
 zm 31 56]))))
def l_r04_Solid_4 : C :=
 .loop (rest 84 [2, 3, 4, 7, 8, 20, 21, 22, 58, 59, 60]) [8, 9] (.seq (.reg [zb 61 .lss 60 59])
 (.seq (.cond (.t 61) (.skip) (.exit 4))
 (.seq (.blk 5 (.seq (.reg [zm 62 60,
 zi 63 1 58 60,
 zl 64 1 63,
 zm 11 62,
 zm 12 64])
  (.seq (.seq (.reg [zm 65 8,
 zm 66 11,
 zq 67 (.call f_r01_Has [(.t 65), (.t 66)] []),
 zq 68 (.un .not (.t 67))])
  (.cond (.t 68) (.reg [zk 12 (-1)]) (.skip)))
  (.reg [zf 69 1 7,
 zl 70 1 69,
 zm 71 12,
 zq 72 (.bsl 8 1 1 [(.t 71)]),
 zq 73 (.app 9 1 8 (.t 70) (.t 72)),
 zf 74 1 7,
 zs 1 74 73]))))
 (.reg [za 75 60 1,
 zm 60 75]))))
def l_r04_Solid_0 : C :=
 .loop (rest 84 [2, 3, 4, 20, 21, 22]) [4, 5, 6, 7, 8, 9, 10, 11] (.seq (.reg [zb 23 .lss 22 21])
 (.seq (.cond (.t 23) (.skip) (.exit 0))
 (.seq (.blk 1 (.seq (.reg [zm 24 22,
 zi 25 2 20 22,
 zL 26 2 25,
 zq 6 (.alc 4 2 (.agg [.nils, .nils])),
 zm 5 24,
 zs 2 6 26])
  (.seq (.reg [zq 27 (.bld [.nils, .nils] []),
 zq 7 (.alc 5 2 (.agg [.nils, .nils])),
 zs 2 7 27,
 zk 8 0])
  (.seq (.seq (.reg [zf 28 0 6,
 zl 29 1 28,
 zn 30 29,
 zk 31 0])
  (.blk 2 (l_r04_Solid_2)))
  (.seq (.seq (.reg [zf 57 1 6,
 zl 58 1 57,
 zn 59 58,
 zk 60 0])
  (.blk 4 (l_r04_Solid_4)))
  (.reg [zf 76 1 4,
 zl 77 1 76,
 zL 78 2 7,
 zq 79 (.bsl 10 2 1 [(.t 78)]),
 zq 80 (.app 11 2 48 (.t 77) (.t 79)),
 zf 81 1 4,
 zs 1 81 80]))))))
 (.reg [za 82 22 1,
 zm 22 82]))))
def c_r04_Solid : C :=
 .seq (.reg [zq 1 (.box 0 2 (.t 0)),
 zq 2 (.alc 1 2 (.agg [.nils, .nils]))])
 (.seq (.reg [zL 13 2 1,
 zq 14 (.call f_r04_Hollow [(.t 13)] []),
 zm 3 14])
 (.seq (.reg [zf 15 0 1,
 zl 16 1 15,
 zq 17 (.app 2 1 16 (.c .nils) (.t 16)),
 zq 18 (.bld [.nils, .nils] [(0, 1, (.t 17))]),
 zq 4 (.alc 3 2 (.agg [.nils, .nils])),
 zs 2 4 18])
 (.seq (.seq (.reg [zf 19 1 1,
 zl 20 1 19,
 zn 21 20,
 zk 22 0])
 (.blk 0 (l_r04_Solid_0)))
 (.seq (.reg [zL 83 2 4,
 zs 2 2 83])
 (.ret)))))
def s_r04_Solid : List Nat := [1, 2, 17, 4, 6, 7, 50, 51, 72, 73, 79, 80]
def F_r04_Solid : IF := ⟨1, 84, 12, c_r04_Solid, [(2, some (true, 2))], true, false, false⟩
def l_r04_Order_2 : C :=
 .loop (rest 53 [1, 3, 4, 5, 29, 30, 31]) [3] (.seq (.reg [zb 32 .lss 31 30])
 (.seq (.cond (.t 32) (.skip) (.exit 2))
 (.seq (.blk 3 (.seq (.reg [zi 33 1 29 31,
 zl 34 1 33,
 zm 7 34])
  (.seq (.reg [zm 35 7,
 zq 36 (.bin .geq (.t 35) (.c (.int .i64 0))),
 zm 37 36,
 zmg 38 3 37 true,
 zmg 39 7 37 true,
 zg 40 (.iad 1 (.t 38) (.t 39)) 37 true,
 zlg 41 1 40 37 true,
 zg 42 (.un .not (.t 41)) 37 true,
 zu 43 37 42])
  (.cond (.t 43) (.seq (.reg [zm 44 3,
 zm 45 7,
 zi 46 1 44 45,
 zr (.sto 1 (.t 46) (.c (.bool true)))])
  (.reg [zm 47 4,
 zm 48 7,
 zq 49 (.bsl 3 1 1 [(.t 48)]),
 zq 50 (.app 4 1 8 (.t 47) (.t 49)),
 zm 4 50])) (.skip)))))
 (.reg [za 51 31 1,
 zm 31 51]))))
def l_r04_Order_0 : C :=
 .loop (rest 53 [1, 3, 4, 5]) [3] (.mvt 4 4 (.seq (.seq (.reg [zm 15 5,
 zm 16 4,
 zn 17 16,
 zb 18 .lss 15 17])
 (.cond (.t 18) (.skip) (.exit 0)))
 (.seq (.blk 1 (.seq (.drw [zf 21 1 1,
 zl 22 1 21,
 zm 23 4,
 zm 24 5,
 zi 25 1 23 24,
 zl 26 1 25,
 zi 27 2 22 26,
 zf 28 1 27,
 zl 29 1 28,
 zn 30 29,
 zk 31 0] [])
  (.blk 2 (l_r04_Order_2))))
 (.reg [zm 19 5,
 za 20 19 1,
 zm 5 20]))))
def c_r04_Order : C :=
 .seq (.reg [zq 1 (.box 0 2 (.t 0)),
 zq 2 (.mov (.c .nils))])
 (.seq (.reg [zf 8 1 1,
 zl 9 1 8,
 zn 10 9,
 zq 11 (.mks 1 1 1 (.bool false) (.t 10) (.t 10)),
 zm 3 11])
 (.seq (.reg [zm 12 3,
 zq 13 (.iad 1 (.t 12) (.c (.int .i64 0))),
 zr (.sto 1 (.t 13) (.c (.bool true)))])
 (.seq (.reg [zq 14 (.bsl 2 1 1 [(.c (.int .i64 0))]),
 zm 4 14])
 (.seq (.seq (.reg [zk 5 0])
 (.blk 0 (l_r04_Order_0)))
 (.seq (.reg [zm 52 4,
 zm 2 52])
 (.ret))))))
def s_r04_Order : List Nat := [1, 11, 14, 49, 50]
def F_r04_Order : IF := ⟨1, 53, 5, c_r04_Order, [(2, none)], true, false, false⟩
def l_r01_In_0 : C :=
 .loop (rest 17 [1, 7, 8, 9]) [] (.seq (.reg [zb 10 .lss 9 8])
 (.seq (.cond (.t 10) (.skip) (.exit 0))
 (.seq (.blk 1 (.seq (.reg [zi 11 1 7 9,
 zl 12 1 11,
 zm 6 12])
  (.seq (.reg [zm 13 1,
 zm 14 6,
 zb 15 .eql 13 14])
  (.cond (.t 15) (.seq (.reg [zo 4 true])
   (.ret)) (.skip)))))
 (.reg [za 16 9 1,
 zm 9 16]))))
def c_r01_In : C :=
 .seq (.reg [zo 4 false])
 (.seq (.seq (.reg [zm 7 0,
 zn 8 7,
 zk 9 0])
 (.blk 0 (l_r01_In_0)))
 (.seq (.reg [zo 4 false])
 (.ret)))
def s_r01_In : List Nat := []
def F_r01_In : IF := ⟨2, 17, 0, c_r01_In, [(4, none)], true, false, false⟩
def G : Prg := fun f => match f with
 | 7 => some F_w16_FamilyOf
 | 10 => some F_w16_awake
 | 11 => some F_r16_Is
 | 14 => some F_r01_SameStrings
 | 16 => some F_family_Satisfied
 | 19 => some F_family_Full
 | 20 => some F_r16_Product
 | 22 => some F_family_Product
 | 23 => some F_r03_Same
 | 27 => some F_w16_short
 | 28 => some F_r01_Is
 | 29 => some F_r03_Is
 | 30 => some F_r03_Copy
 | 31 => some F_family_Of
 | 32 => some F_r16_None
 | 33 => some F_r05_Equal
 | 36 => some F_w16_pair
 | 37 => some F_r01_SameInts
 | 38 => some F_r16_plan
 | 39 => some F_r04_Hollow
 | 42 => some F_system_Valid
 | 43 => some F_family_Valid
 | 44 => some F_slices_EqualZsgsg
 | 45 => some F_system_Offers
 | 46 => some F_family_which
 | 47 => some F_family_Full_1
 | 48 => some F_prune_Hollows
 | 49 => some F_family_single
 | 50 => some F_r16_chosen
 | 56 => some F__family_products__has
 | 57 => some F_slices_CloneZsgsg
 | 59 => some F_r03_Few
 | 60 => some F_r01_Name
 | 61 => some F_r01_Index
 | 62 => some F_r03_state
 | 63 => some F_act_Valid
 | 64 => some F_slices_ContainsFuncZaiScai
 | 65 => some F_family_Of_1
 | 66 => some F_spec_Valid
 | 67 => some F_family_Of_2
 | 68 => some F_prune_Trimmed
 | 69 => some F_r05_Refines
 | 70 => some F_r16_choices
 | 71 => some F_r01_List
 | 72 => some F_r04_allFall
 | 74 => some F_system_order
 | 75 => some F_family_choices
 | 76 => some F_family_Valid_1
 | 77 => some F_act_Is
 | 78 => some F_family_Valid_2
 | 79 => some F_act_In
 | 80 => some F__family_products__with
 | 81 => some F_prune_rungs
 | 82 => some F_family_chosen
 | 83 => some F_r01_Has
 | 85 => some F_r01_letter
 | 86 => some F_r01_Rising
 | 87 => some F_r01_Set
 | 88 => some F_act_Name
 | 89 => some F_slices_ContainsZsgsg
 | 90 => some F_slices_IndexFuncZaiScai
 | 91 => some F_prune_Left
 | 92 => some F_spec_Nothing
 | 93 => some F_slices_RepeatZitit
 | 94 => some F_r05_Depth
 | 95 => some F_r04_falls
 | 97 => some F_act_In_1
 | 98 => some F_prune_rungs_1
 | 99 => some F_slices_IndexFuncZaiCeai
 | 100 => some F_family_chosen_1
 | 101 => some F_act_letter
 | 102 => some F_slices_IndexZsgsg
 | 103 => some F_prune_Left_1
 | 104 => some F_math_bits_Mul
 | 105 => some F_r04_Trim
 | 106 => some F_r05_parts
 | 109 => some F_math_bits_Mul32
 | 110 => some F_math_bits_Mul64
 | 111 => some F_r03_Nothing
 | 112 => some F_r04_Solid
 | 113 => some F_r04_Order
 | 114 => some F_r01_In
 | _ => none
theorem g_w16_FamilyOf : G f_w16_FamilyOf = some F_w16_FamilyOf := rfl
theorem pure_w16_FamilyOf : PureF G f_w16_FamilyOf := ⟨F_w16_FamilyOf, rfl, rfl⟩
theorem g_w16_awake : G f_w16_awake = some F_w16_awake := rfl
theorem pure_w16_awake : PureF G f_w16_awake := ⟨F_w16_awake, rfl, rfl⟩
theorem g_r16_Is : G f_r16_Is = some F_r16_Is := rfl
theorem pure_r16_Is : PureF G f_r16_Is := ⟨F_r16_Is, rfl, rfl⟩
theorem g_r01_SameStrings : G f_r01_SameStrings = some F_r01_SameStrings := rfl
theorem pure_r01_SameStrings : PureF G f_r01_SameStrings := ⟨F_r01_SameStrings, rfl, rfl⟩
theorem g_family_Satisfied : G f_family_Satisfied = some F_family_Satisfied := rfl
theorem pure_family_Satisfied : PureF G f_family_Satisfied := ⟨F_family_Satisfied, rfl, rfl⟩
theorem g_family_Full : G f_family_Full = some F_family_Full := rfl
theorem pure_family_Full : PureF G f_family_Full := ⟨F_family_Full, rfl, rfl⟩
theorem g_r16_Product : G f_r16_Product = some F_r16_Product := rfl
theorem pure_r16_Product : PureF G f_r16_Product := ⟨F_r16_Product, rfl, rfl⟩
theorem g_family_Product : G f_family_Product = some F_family_Product := rfl
theorem pure_family_Product : PureF G f_family_Product := ⟨F_family_Product, rfl, rfl⟩
theorem g_r03_Same : G f_r03_Same = some F_r03_Same := rfl
theorem pure_r03_Same : PureF G f_r03_Same := ⟨F_r03_Same, rfl, rfl⟩
theorem g_w16_short : G f_w16_short = some F_w16_short := rfl
theorem pure_w16_short : PureF G f_w16_short := ⟨F_w16_short, rfl, rfl⟩
theorem g_r01_Is : G f_r01_Is = some F_r01_Is := rfl
theorem pure_r01_Is : PureF G f_r01_Is := ⟨F_r01_Is, rfl, rfl⟩
theorem g_r03_Is : G f_r03_Is = some F_r03_Is := rfl
theorem pure_r03_Is : PureF G f_r03_Is := ⟨F_r03_Is, rfl, rfl⟩
theorem g_r03_Copy : G f_r03_Copy = some F_r03_Copy := rfl
theorem pure_r03_Copy : PureF G f_r03_Copy := ⟨F_r03_Copy, rfl, rfl⟩
theorem g_family_Of : G f_family_Of = some F_family_Of := rfl
theorem pure_family_Of : PureF G f_family_Of := ⟨F_family_Of, rfl, rfl⟩
theorem g_r16_None : G f_r16_None = some F_r16_None := rfl
theorem pure_r16_None : PureF G f_r16_None := ⟨F_r16_None, rfl, rfl⟩
theorem g_r05_Equal : G f_r05_Equal = some F_r05_Equal := rfl
theorem pure_r05_Equal : PureF G f_r05_Equal := ⟨F_r05_Equal, rfl, rfl⟩
theorem g_w16_pair : G f_w16_pair = some F_w16_pair := rfl
theorem pure_w16_pair : PureF G f_w16_pair := ⟨F_w16_pair, rfl, rfl⟩
theorem g_r01_SameInts : G f_r01_SameInts = some F_r01_SameInts := rfl
theorem pure_r01_SameInts : PureF G f_r01_SameInts := ⟨F_r01_SameInts, rfl, rfl⟩
theorem g_r16_plan : G f_r16_plan = some F_r16_plan := rfl
theorem pure_r16_plan : PureF G f_r16_plan := ⟨F_r16_plan, rfl, rfl⟩
theorem g_r04_Hollow : G f_r04_Hollow = some F_r04_Hollow := rfl
theorem pure_r04_Hollow : PureF G f_r04_Hollow := ⟨F_r04_Hollow, rfl, rfl⟩
theorem g_system_Valid : G f_system_Valid = some F_system_Valid := rfl
theorem pure_system_Valid : PureF G f_system_Valid := ⟨F_system_Valid, rfl, rfl⟩
theorem g_family_Valid : G f_family_Valid = some F_family_Valid := rfl
theorem pure_family_Valid : PureF G f_family_Valid := ⟨F_family_Valid, rfl, rfl⟩
theorem g_slices_EqualZsgsg : G f_slices_EqualZsgsg = some F_slices_EqualZsgsg := rfl
theorem pure_slices_EqualZsgsg : PureF G f_slices_EqualZsgsg := ⟨F_slices_EqualZsgsg, rfl, rfl⟩
theorem g_system_Offers : G f_system_Offers = some F_system_Offers := rfl
theorem pure_system_Offers : PureF G f_system_Offers := ⟨F_system_Offers, rfl, rfl⟩
theorem g_family_which : G f_family_which = some F_family_which := rfl
theorem pure_family_which : PureF G f_family_which := ⟨F_family_which, rfl, rfl⟩
theorem g_family_Full_1 : G f_family_Full_1 = some F_family_Full_1 := rfl
theorem pure_family_Full_1 : PureF G f_family_Full_1 := ⟨F_family_Full_1, rfl, rfl⟩
theorem g_prune_Hollows : G f_prune_Hollows = some F_prune_Hollows := rfl
theorem pure_prune_Hollows : PureF G f_prune_Hollows := ⟨F_prune_Hollows, rfl, rfl⟩
theorem g_family_single : G f_family_single = some F_family_single := rfl
theorem pure_family_single : PureF G f_family_single := ⟨F_family_single, rfl, rfl⟩
theorem g_r16_chosen : G f_r16_chosen = some F_r16_chosen := rfl
theorem pure_r16_chosen : PureF G f_r16_chosen := ⟨F_r16_chosen, rfl, rfl⟩
theorem g__family_products__has : G f__family_products__has = some F__family_products__has := rfl
theorem pure__family_products__has : PureF G f__family_products__has := ⟨F__family_products__has, rfl, rfl⟩
theorem g_slices_CloneZsgsg : G f_slices_CloneZsgsg = some F_slices_CloneZsgsg := rfl
theorem pure_slices_CloneZsgsg : PureF G f_slices_CloneZsgsg := ⟨F_slices_CloneZsgsg, rfl, rfl⟩
theorem g_r03_Few : G f_r03_Few = some F_r03_Few := rfl
theorem pure_r03_Few : PureF G f_r03_Few := ⟨F_r03_Few, rfl, rfl⟩
theorem g_r01_Name : G f_r01_Name = some F_r01_Name := rfl
theorem pure_r01_Name : PureF G f_r01_Name := ⟨F_r01_Name, rfl, rfl⟩
theorem g_r01_Index : G f_r01_Index = some F_r01_Index := rfl
theorem pure_r01_Index : PureF G f_r01_Index := ⟨F_r01_Index, rfl, rfl⟩
theorem g_r03_state : G f_r03_state = some F_r03_state := rfl
theorem pure_r03_state : PureF G f_r03_state := ⟨F_r03_state, rfl, rfl⟩
theorem g_act_Valid : G f_act_Valid = some F_act_Valid := rfl
theorem pure_act_Valid : PureF G f_act_Valid := ⟨F_act_Valid, rfl, rfl⟩
theorem g_slices_ContainsFuncZaiScai : G f_slices_ContainsFuncZaiScai = some F_slices_ContainsFuncZaiScai := rfl
theorem pure_slices_ContainsFuncZaiScai : PureF G f_slices_ContainsFuncZaiScai := ⟨F_slices_ContainsFuncZaiScai, rfl, rfl⟩
theorem g_family_Of_1 : G f_family_Of_1 = some F_family_Of_1 := rfl
theorem pure_family_Of_1 : PureF G f_family_Of_1 := ⟨F_family_Of_1, rfl, rfl⟩
theorem g_spec_Valid : G f_spec_Valid = some F_spec_Valid := rfl
theorem pure_spec_Valid : PureF G f_spec_Valid := ⟨F_spec_Valid, rfl, rfl⟩
theorem g_family_Of_2 : G f_family_Of_2 = some F_family_Of_2 := rfl
theorem pure_family_Of_2 : PureF G f_family_Of_2 := ⟨F_family_Of_2, rfl, rfl⟩
theorem g_prune_Trimmed : G f_prune_Trimmed = some F_prune_Trimmed := rfl
theorem pure_prune_Trimmed : PureF G f_prune_Trimmed := ⟨F_prune_Trimmed, rfl, rfl⟩
theorem g_r05_Refines : G f_r05_Refines = some F_r05_Refines := rfl
theorem pure_r05_Refines : PureF G f_r05_Refines := ⟨F_r05_Refines, rfl, rfl⟩
theorem g_r16_choices : G f_r16_choices = some F_r16_choices := rfl
theorem pure_r16_choices : PureF G f_r16_choices := ⟨F_r16_choices, rfl, rfl⟩
theorem g_r01_List : G f_r01_List = some F_r01_List := rfl
theorem pure_r01_List : PureF G f_r01_List := ⟨F_r01_List, rfl, rfl⟩
theorem g_r04_allFall : G f_r04_allFall = some F_r04_allFall := rfl
theorem pure_r04_allFall : PureF G f_r04_allFall := ⟨F_r04_allFall, rfl, rfl⟩
theorem g_system_order : G f_system_order = some F_system_order := rfl
theorem pure_system_order : PureF G f_system_order := ⟨F_system_order, rfl, rfl⟩
theorem g_family_choices : G f_family_choices = some F_family_choices := rfl
theorem pure_family_choices : PureF G f_family_choices := ⟨F_family_choices, rfl, rfl⟩
theorem g_family_Valid_1 : G f_family_Valid_1 = some F_family_Valid_1 := rfl
theorem pure_family_Valid_1 : PureF G f_family_Valid_1 := ⟨F_family_Valid_1, rfl, rfl⟩
theorem g_act_Is : G f_act_Is = some F_act_Is := rfl
theorem pure_act_Is : PureF G f_act_Is := ⟨F_act_Is, rfl, rfl⟩
theorem g_family_Valid_2 : G f_family_Valid_2 = some F_family_Valid_2 := rfl
theorem pure_family_Valid_2 : PureF G f_family_Valid_2 := ⟨F_family_Valid_2, rfl, rfl⟩
theorem g_act_In : G f_act_In = some F_act_In := rfl
theorem pure_act_In : PureF G f_act_In := ⟨F_act_In, rfl, rfl⟩
theorem g__family_products__with : G f__family_products__with = some F__family_products__with := rfl
theorem pure__family_products__with : PureF G f__family_products__with := ⟨F__family_products__with, rfl, rfl⟩
theorem g_prune_rungs : G f_prune_rungs = some F_prune_rungs := rfl
theorem pure_prune_rungs : PureF G f_prune_rungs := ⟨F_prune_rungs, rfl, rfl⟩
theorem g_family_chosen : G f_family_chosen = some F_family_chosen := rfl
theorem pure_family_chosen : PureF G f_family_chosen := ⟨F_family_chosen, rfl, rfl⟩
theorem g_r01_Has : G f_r01_Has = some F_r01_Has := rfl
theorem pure_r01_Has : PureF G f_r01_Has := ⟨F_r01_Has, rfl, rfl⟩
theorem g_r01_letter : G f_r01_letter = some F_r01_letter := rfl
theorem pure_r01_letter : PureF G f_r01_letter := ⟨F_r01_letter, rfl, rfl⟩
theorem g_r01_Rising : G f_r01_Rising = some F_r01_Rising := rfl
theorem pure_r01_Rising : PureF G f_r01_Rising := ⟨F_r01_Rising, rfl, rfl⟩
theorem g_r01_Set : G f_r01_Set = some F_r01_Set := rfl
theorem pure_r01_Set : PureF G f_r01_Set := ⟨F_r01_Set, rfl, rfl⟩
theorem g_act_Name : G f_act_Name = some F_act_Name := rfl
theorem pure_act_Name : PureF G f_act_Name := ⟨F_act_Name, rfl, rfl⟩
theorem g_slices_ContainsZsgsg : G f_slices_ContainsZsgsg = some F_slices_ContainsZsgsg := rfl
theorem pure_slices_ContainsZsgsg : PureF G f_slices_ContainsZsgsg := ⟨F_slices_ContainsZsgsg, rfl, rfl⟩
theorem g_slices_IndexFuncZaiScai : G f_slices_IndexFuncZaiScai = some F_slices_IndexFuncZaiScai := rfl
theorem pure_slices_IndexFuncZaiScai : PureF G f_slices_IndexFuncZaiScai := ⟨F_slices_IndexFuncZaiScai, rfl, rfl⟩
theorem g_prune_Left : G f_prune_Left = some F_prune_Left := rfl
theorem pure_prune_Left : PureF G f_prune_Left := ⟨F_prune_Left, rfl, rfl⟩
theorem g_spec_Nothing : G f_spec_Nothing = some F_spec_Nothing := rfl
theorem pure_spec_Nothing : PureF G f_spec_Nothing := ⟨F_spec_Nothing, rfl, rfl⟩
theorem g_slices_RepeatZitit : G f_slices_RepeatZitit = some F_slices_RepeatZitit := rfl
theorem pure_slices_RepeatZitit : PureF G f_slices_RepeatZitit := ⟨F_slices_RepeatZitit, rfl, rfl⟩
theorem g_r05_Depth : G f_r05_Depth = some F_r05_Depth := rfl
theorem pure_r05_Depth : PureF G f_r05_Depth := ⟨F_r05_Depth, rfl, rfl⟩
theorem g_r04_falls : G f_r04_falls = some F_r04_falls := rfl
theorem pure_r04_falls : PureF G f_r04_falls := ⟨F_r04_falls, rfl, rfl⟩
theorem g_act_In_1 : G f_act_In_1 = some F_act_In_1 := rfl
theorem g_prune_rungs_1 : G f_prune_rungs_1 = some F_prune_rungs_1 := rfl
theorem g_slices_IndexFuncZaiCeai : G f_slices_IndexFuncZaiCeai = some F_slices_IndexFuncZaiCeai := rfl
theorem pure_slices_IndexFuncZaiCeai : PureF G f_slices_IndexFuncZaiCeai := ⟨F_slices_IndexFuncZaiCeai, rfl, rfl⟩
theorem g_family_chosen_1 : G f_family_chosen_1 = some F_family_chosen_1 := rfl
theorem pure_family_chosen_1 : PureF G f_family_chosen_1 := ⟨F_family_chosen_1, rfl, rfl⟩
theorem g_act_letter : G f_act_letter = some F_act_letter := rfl
theorem pure_act_letter : PureF G f_act_letter := ⟨F_act_letter, rfl, rfl⟩
theorem g_slices_IndexZsgsg : G f_slices_IndexZsgsg = some F_slices_IndexZsgsg := rfl
theorem pure_slices_IndexZsgsg : PureF G f_slices_IndexZsgsg := ⟨F_slices_IndexZsgsg, rfl, rfl⟩
theorem g_prune_Left_1 : G f_prune_Left_1 = some F_prune_Left_1 := rfl
theorem g_math_bits_Mul : G f_math_bits_Mul = some F_math_bits_Mul := rfl
theorem pure_math_bits_Mul : PureF G f_math_bits_Mul := ⟨F_math_bits_Mul, rfl, rfl⟩
theorem g_r04_Trim : G f_r04_Trim = some F_r04_Trim := rfl
theorem pure_r04_Trim : PureF G f_r04_Trim := ⟨F_r04_Trim, rfl, rfl⟩
theorem g_r05_parts : G f_r05_parts = some F_r05_parts := rfl
theorem pure_r05_parts : PureF G f_r05_parts := ⟨F_r05_parts, rfl, rfl⟩
theorem g_math_bits_Mul32 : G f_math_bits_Mul32 = some F_math_bits_Mul32 := rfl
theorem pure_math_bits_Mul32 : PureF G f_math_bits_Mul32 := ⟨F_math_bits_Mul32, rfl, rfl⟩
theorem g_math_bits_Mul64 : G f_math_bits_Mul64 = some F_math_bits_Mul64 := rfl
theorem pure_math_bits_Mul64 : PureF G f_math_bits_Mul64 := ⟨F_math_bits_Mul64, rfl, rfl⟩
theorem g_r03_Nothing : G f_r03_Nothing = some F_r03_Nothing := rfl
theorem pure_r03_Nothing : PureF G f_r03_Nothing := ⟨F_r03_Nothing, rfl, rfl⟩
theorem g_r04_Solid : G f_r04_Solid = some F_r04_Solid := rfl
theorem pure_r04_Solid : PureF G f_r04_Solid := ⟨F_r04_Solid, rfl, rfl⟩
theorem g_r04_Order : G f_r04_Order = some F_r04_Order := rfl
theorem pure_r04_Order : PureF G f_r04_Order := ⟨F_r04_Order, rfl, rfl⟩
theorem g_r01_In : G f_r01_In = some F_r01_In := rfl
theorem pure_r01_In : PureF G f_r01_In := ⟨F_r01_In, rfl, rfl⟩
attribute [go_sem] wpCall_T pure_w16_FamilyOf pure_w16_awake pure_r16_Is pure_r01_SameStrings pure_family_Satisfied pure_family_Full pure_r16_Product pure_family_Product pure_r03_Same pure_w16_short pure_r01_Is pure_r03_Is pure_r03_Copy pure_family_Of pure_r16_None pure_r05_Equal pure_w16_pair pure_r01_SameInts pure_r16_plan pure_r04_Hollow pure_system_Valid pure_family_Valid pure_slices_EqualZsgsg pure_system_Offers pure_family_which pure_family_Full_1 pure_prune_Hollows pure_family_single pure_r16_chosen pure__family_products__has pure_slices_CloneZsgsg pure_r03_Few pure_r01_Name pure_r01_Index pure_r03_state pure_act_Valid pure_slices_ContainsFuncZaiScai pure_family_Of_1 pure_spec_Valid pure_family_Of_2 pure_prune_Trimmed pure_r05_Refines pure_r16_choices pure_r01_List pure_r04_allFall pure_system_order pure_family_choices pure_family_Valid_1 pure_act_Is pure_family_Valid_2 pure_act_In pure__family_products__with pure_prune_rungs pure_family_chosen pure_r01_Has pure_r01_letter pure_r01_Rising pure_r01_Set pure_act_Name pure_slices_ContainsZsgsg pure_slices_IndexFuncZaiScai pure_prune_Left pure_spec_Nothing pure_slices_RepeatZitit pure_r05_Depth pure_r04_falls pure_slices_IndexFuncZaiCeai pure_family_chosen_1 pure_act_letter pure_slices_IndexZsgsg pure_math_bits_Mul pure_r04_Trim pure_r05_parts pure_math_bits_Mul32 pure_math_bits_Mul64 pure_r03_Nothing pure_r04_Solid pure_r04_Order pure_r01_In
end Go.Mw
