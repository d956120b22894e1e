/- The code, with hints. Printed by Gen. -/
import Derived.Test.YteookcnimfaelaaM17
set_option linter.unusedVariables false
set_option linter.unusedSimpArgs false
namespace Go.Mw
set_option maxRecDepth 100000
abbrev f_w04_PruneHollow : FuncId := 5
abbrev f_w04_light : FuncId := 6
abbrev f_w04_awake : FuncId := 7
abbrev f_r03_Is : FuncId := 8
abbrev f_prune_Trim : FuncId := 10
abbrev f_r03_Copy : FuncId := 11
abbrev f_r01_SameInts : FuncId := 13
abbrev f_r04_Hollow : FuncId := 14
abbrev f_prune_Some : FuncId := 15
abbrev f_r04_Places : FuncId := 18
abbrev f_r04_IsLadder : FuncId := 19
abbrev f_prune_Hollow : FuncId := 20
abbrev f_prune_Ladder : FuncId := 21
abbrev f_prune_IsLadder : FuncId := 22
abbrev f_r03_Few : FuncId := 23
abbrev f_w04_twigs : FuncId := 24
abbrev f_r01_Is : FuncId := 25
abbrev f_r03_state : FuncId := 26
abbrev f_spec_Valid : FuncId := 30
abbrev f_prune_Trimmed : FuncId := 31
abbrev f_r04_allFall : FuncId := 33
abbrev f_prune_Witness : FuncId := 34
abbrev f_slices_SortZitit : FuncId := 37
abbrev f_prune_rungs : FuncId := 38
abbrev f_prune_Rests : FuncId := 39
abbrev f_r01_Name : FuncId := 40
abbrev f_r01_Index : FuncId := 41
abbrev f_r01_Rising : FuncId := 42
abbrev f_r01_Set : FuncId := 43
abbrev f_r01_List : FuncId := 44
abbrev f_r04_falls : FuncId := 45
abbrev f_r01_Has : FuncId := 46
abbrev f_act_Valid : FuncId := 47
abbrev f_slices_CloneZsgsg : FuncId := 48
abbrev f_prune_Left : FuncId := 49
abbrev f_spec_Nothing : FuncId := 50
abbrev f_slices_RepeatZitit : FuncId := 51
abbrev f_act_In : FuncId := 52
abbrev f_slices_ContainsZitit : FuncId := 53
abbrev f_slices_SortFuncZaiEeai : FuncId := 54
abbrev f_prune_Witness_1 : FuncId := 55
abbrev f_slices_pdqsortOrdered_int_ : FuncId := 58
abbrev f_math_bits_Len : FuncId := 59
abbrev f_prune_rungs_1 : FuncId := 60
abbrev f_r01_letter : FuncId := 61
abbrev f_act_Name : FuncId := 62
abbrev f_slices_ContainsZsgsg : FuncId := 63
abbrev f_prune_Left_1 : FuncId := 64
abbrev f_prune_Hollows : FuncId := 65
abbrev f_math_bits_Mul : FuncId := 66
abbrev f_act_In_1 : FuncId := 67
abbrev f_slices_IndexZitit : FuncId := 68
abbrev f_slices_pdqsortCmpFunc_api_Edge_ : FuncId := 69
abbrev f_slices_insertionSortOrdered_int_ : FuncId := 71
abbrev f_slices_heapSortOrdered_int_ : FuncId := 72
abbrev f_slices_breakPatternsOrdered_int_ : FuncId := 73
abbrev f_slices_choosePivotOrdered_int_ : FuncId := 74
abbrev f_slices_reverseRangeOrdered_int_ : FuncId := 75
abbrev f_slices_partialInsertionSortOrdered_int_ : FuncId := 76
abbrev f_cmp_Less_int_ : FuncId := 77
abbrev f_slices_partitionEqualOrdered_int_ : FuncId := 78
abbrev f_slices_partitionOrdered_int_ : FuncId := 79
abbrev f_math_bits_Len32 : FuncId := 80
abbrev f_math_bits_Len64 : FuncId := 81
abbrev f_act_letter : FuncId := 82
abbrev f_slices_IndexZsgsg : FuncId := 83
abbrev f_math_bits_Mul32 : FuncId := 84
abbrev f_math_bits_Mul64 : FuncId := 85
abbrev f_slices_insertionSortCmpFunc_api_Edge_ : FuncId := 86
abbrev f_slices_heapSortCmpFunc_api_Edge_ : FuncId := 87
abbrev f_slices_breakPatternsCmpFunc_api_Edge_ : FuncId := 88
abbrev f_slices_choosePivotCmpFunc_api_Edge_ : FuncId := 89
abbrev f_slices_reverseRangeCmpFunc_api_Edge_ : FuncId := 90
abbrev f_slices_partialInsertionSortCmpFunc_api_Edge_ : FuncId := 91
abbrev f_slices_partitionEqualCmpFunc_api_Edge_ : FuncId := 92
abbrev f_slices_partitionCmpFunc_api_Edge_ : FuncId := 93
abbrev f_slices_siftDownOrdered_int_ : FuncId := 96
abbrev f_slices_nextPowerOfTwo : FuncId := 97
abbrev f___slices_xorshift__Next : FuncId := 98
abbrev f_slices_medianAdjacentOrdered_int_ : FuncId := 99
abbrev f_slices_medianOrdered_int_ : FuncId := 100
abbrev f_cmp_isNaN_int_ : FuncId := 101
abbrev f_slices_siftDownCmpFunc_api_Edge_ : FuncId := 102
abbrev f_slices_medianAdjacentCmpFunc_api_Edge_ : FuncId := 103
abbrev f_slices_medianCmpFunc_api_Edge_ : FuncId := 104
abbrev f_slices_order2Ordered_int_ : FuncId := 106
abbrev f_slices_order2CmpFunc_api_Edge_ : FuncId := 107
abbrev zq (d : Nat) (i : Ins) : Rop := ⟨some d, i, none⟩
abbrev zr (i : Ins) : Rop := ⟨none, i, none⟩
abbrev zg (d : Nat) (i : Ins) (t : Nat) (b : Bool) : Rop := ⟨some d, i, some (t, b)⟩
abbrev zm (d x : Nat) : Rop := ⟨some d, .mov (.t x), none⟩
abbrev zl (d n x : Nat) : Rop := ⟨some d, .ld false n (.t x), none⟩
abbrev zL (d n x : Nat) : Rop := ⟨some d, .ld true n (.t x), none⟩
abbrev zf (d k x : Nat) : Rop := ⟨some d, .fad k (.t x), none⟩
abbrev zk (d : Nat) (n : Int) : Rop := ⟨some d, .mov (.c (.int .i64 n)), none⟩
abbrev zo (d : Nat) (b : Bool) : Rop := ⟨some d, .mov (.c (.bool b)), none⟩
abbrev zi (d e x y : Nat) : Rop := ⟨some d, .iad e (.t x) (.t y), none⟩
abbrev zn (d x : Nat) : Rop := ⟨some d, .lenl (.t x), none⟩
abbrev za (d x : Nat) (n : Int) : Rop := ⟨some d, .bin .add (.t x) (.c (.int .i64 n)), none⟩
abbrev zb (d : Nat) (o : BinOp) (x y : Nat) : Rop := ⟨some d, .bin o (.t x) (.t y), none⟩
abbrev zs (n x y : Nat) : Rop := ⟨none, .sto n (.t x) (.t y), none⟩
abbrev zy (d x y : Nat) : Rop := ⟨some d, .pick (.t x) (.c (.bool true)) (.t y), none⟩
abbrev zu (d x y : Nat) : Rop := ⟨some d, .pick (.t x) (.t y) (.c (.bool false)), none⟩
abbrev zmg (d x t : Nat) (b : Bool) : Rop := ⟨some d, .mov (.t x), some (t, b)⟩
abbrev zlg (d n x t : Nat) (b : Bool) : Rop := ⟨some d, .ld false n (.t x), some (t, b)⟩
abbrev zfg (d k x t : Nat) (b : Bool) : Rop := ⟨some d, .fad k (.t x), some (t, b)⟩
def c_w04_PruneHollow : C :=
 .seq (.reg [zq 2 (.box 0 2 (.t 0)),
 zo 4 false])
 (.seq (.seq (.reg [zL 14 2 2,
 zq 15 (.call f_w04_light [(.t 14)] []),
 zq 16 (.un .not (.t 15)),
 zm 17 16,
 zmg 18 1 17 false,
 zg 19 (.lenl (.t 18)) 17 false,
 zg 20 (.bin .gtr (.t 19) (.c (.int .i64 200))) 17 false,
 zy 21 17 20])
 (.cond (.t 21) (.seq (.reg [zq 22 (.call f_w04_awake [] []),
 zm 4 22])
  (.ret)) (.skip)))
 (.seq (.reg [zL 23 2 2,
 zq 24 (.call f_r03_Is [(.t 23)] []),
 zm 5 24,
 zo 6 false])
 (.seq (.reg [zq 7 (.mov (.c .nils))])
 (.seq (.seq (.reg [zm 25 5])
 (.cond (.t 25) (.drw [zL 26 2 2,
 zq 27 (.call f_r04_Hollow [(.t 26)] []),
 zq 28 (.call f_r04_Places [(.t 27)] []),
 zL 29 2 2,
 zm 30 1,
 zq 31 (.call f_r04_IsLadder [(.t 29), (.t 30)] []),
 zm 7 28,
 zm 6 31] [(1, 3), (2, 3)]) (.skip)))
 (.seq (.reg [zL 33 2 2,
 zq 34 (.call f_r03_Copy [(.t 33)] []),
 zq 35 (.call f_prune_Hollow [(.t 34)] []),
 zm 32 35,
 zq 36 (.ext (.t 32) 0),
 zq 37 (.ext (.t 32) 1),
 zm 8 36,
 zm 9 37])
 (.seq (.reg [zL 39 2 2,
 zq 40 (.call f_r03_Copy [(.t 39)] []),
 zq 41 (.call f_prune_Ladder [(.t 40)] []),
 zm 38 41,
 zq 42 (.ext (.t 38) 0),
 zq 43 (.ext (.t 38) 1),
 zm 10 42,
 zm 11 43])
 (.seq (.reg [zL 45 2 2,
 zq 46 (.call f_r03_Copy [(.t 45)] []),
 zm 47 1,
 zq 48 (.app 1 1 8 (.c .nils) (.t 47)),
 zq 49 (.call f_prune_IsLadder [(.t 46), (.t 48)] []),
 zm 44 49,
 zq 50 (.ext (.t 44) 0),
 zq 51 (.ext (.t 44) 1),
 zm 12 50,
 zm 13 51])
 (.seq (.seq (.reg [zm 52 5,
 zq 53 (.un .not (.t 52))])
 (.cond (.t 53) (.seq (.reg [zm 54 9,
 zq 55 (.bin .eql (.t 54) (.c (.int .i64 30))),
 zm 56 55,
 zmg 57 11 56 true,
 zg 58 (.bin .eql (.t 57) (.c (.int .i64 30))) 56 true,
 zu 59 56 58,
 zm 60 59,
 zmg 61 13 60 true,
 zg 62 (.bin .eql (.t 61) (.c (.int .i64 30))) 60 true,
 zu 63 60 62,
 zm 64 63,
 zmg 65 8 64 true,
 zg 66 (.lenl (.t 65)) 64 true,
 zg 67 (.bin .eql (.t 66) (.c (.int .i64 0))) 64 true,
 zu 68 64 67,
 zm 69 68,
 zmg 70 10 69 true,
 zg 71 (.lenl (.t 70)) 69 true,
 zg 72 (.bin .eql (.t 71) (.c (.int .i64 0))) 69 true,
 zu 73 69 72,
 zm 74 73,
 zmg 75 12 74 true,
 zg 76 (.un .not (.t 75)) 74 true,
 zu 77 74 76,
 zm 78 77,
 zg 79 (.call f_w04_awake [] []) 78 true,
 zu 80 78 79,
 zm 4 80])
  (.ret)) (.skip)))
 (.seq (.reg [zm 81 9,
 zq 82 (.bin .eql (.t 81) (.c (.int .i64 0))),
 zm 83 82,
 zmg 84 11 83 true,
 zg 85 (.bin .eql (.t 84) (.c (.int .i64 0))) 83 true,
 zu 86 83 85,
 zm 87 86,
 zmg 88 13 87 true,
 zg 89 (.bin .eql (.t 88) (.c (.int .i64 0))) 87 true,
 zu 90 87 89,
 zm 91 90,
 zmg 92 8 91 true,
 zmg 93 7 91 true,
 zg 94 (.call f_r01_SameInts [(.t 92), (.t 93)] []) 91 true,
 zu 95 91 94,
 zm 96 95,
 zmg 97 12 96 true,
 zmg 98 6 96 true,
 zg 99 (.beq false (.t 97) (.t 98)) 96 true,
 zu 100 96 99,
 zm 101 100,
 zmg 102 10 101 true,
 zg 103 (.lenl (.t 102)) 101 true,
 zmg 104 7 101 true,
 zg 105 (.lenl (.t 104)) 101 true,
 zg 106 (.bin .eql (.t 103) (.t 105)) 101 true,
 zu 107 101 106,
 zm 108 107,
 zg 109 (.ld true 2 (.t 2)) 108 true,
 zmg 110 10 108 true,
 zg 111 (.call f_r04_IsLadder [(.t 109), (.t 110)] []) 108 true,
 zu 112 108 111,
 zm 113 112,
 zg 114 (.call f_w04_awake [] []) 113 true,
 zu 115 113 114,
 zm 4 115])
 (.ret))))))))))
def s_w04_PruneHollow : List Nat := [2, 48]
def F_w04_PruneHollow : IF := ⟨2, 116, 2, c_w04_PruneHollow, [(4, none)], true, false, false⟩
def c_w04_light : C :=
 .seq (.reg [zq 1 (.box 0 2 (.t 0)),
 zo 2 false])
 (.seq (.reg [zf 3 1 1,
 zl 4 1 3,
 zn 5 4,
 zq 6 (.bin .leq (.t 5) (.c (.int .i64 60))),
 zm 7 6,
 zg 8 (.ld true 2 (.t 1)) 7 true,
 zg 9 (.call f_r03_Few [(.t 8), (.c (.int .i64 1500))] []) 7 true,
 zu 10 7 9,
 zm 2 10])
 (.ret))
def s_w04_light : List Nat := [1]
def F_w04_light : IF := ⟨1, 11, 1, c_w04_light, [(2, none)], true, false, false⟩
def c_w04_awake : C :=
 .seq (.reg [zo 0 false])
 (.seq (.reg [zq 9 (.call f_w04_twigs [] []),
 zq 10 (.call f_prune_Hollow [(.t 9)] []),
 zm 8 10,
 zq 11 (.ext (.t 8) 0),
 zq 12 (.ext (.t 8) 1),
 zm 1 11,
 zm 2 12])
 (.seq (.reg [zq 14 (.call f_w04_twigs [] []),
 zq 15 (.call f_prune_Trim [(.t 14)] []),
 zm 13 15,
 zq 16 (.ext (.t 13) 0),
 zq 17 (.ext (.t 13) 1),
 zq 18 (.ext (.t 13) 2),
 zq 3 (.alc 0 2 (.agg [.nils, .nils])),
 zs 2 3 16,
 zm 4 17,
 zm 5 18])
 (.seq (.reg [zq 20 (.call f_w04_twigs [] []),
 zq 21 (.call f_prune_Some [(.t 20)] []),
 zm 19 21,
 zq 22 (.ext (.t 19) 0),
 zq 23 (.ext (.t 19) 1),
 zq 6 (.alc 1 2 (.agg [.nils, .nils])),
 zs 2 6 22,
 zm 7 23])
 (.seq (.reg [zm 24 2,
 zq 25 (.bin .eql (.t 24) (.c (.int .i64 0))),
 zm 26 25,
 zmg 27 1 26 true,
 zg 28 (.bsl 2 1 1 [(.c (.int .i64 1))]) 26 true,
 zg 29 (.call f_r01_SameInts [(.t 27), (.t 28)] []) 26 true,
 zu 30 26 29,
 zm 31 30,
 zmg 32 5 31 true,
 zg 33 (.bin .eql (.t 32) (.c (.int .i64 0))) 31 true,
 zu 34 31 33,
 zm 35 34,
 zfg 36 1 3 35 true,
 zlg 37 1 36 35 true,
 zg 38 (.lenl (.t 37)) 35 true,
 zg 39 (.bin .eql (.t 38) (.c (.int .i64 1))) 35 true,
 zu 40 35 39,
 zm 41 40,
 zfg 42 1 3 41 true,
 zlg 43 1 42 41 true,
 zg 44 (.iad 2 (.t 43) (.c (.int .i64 0))) 41 true,
 zfg 45 0 44 41 true,
 zlg 46 1 45 41 true,
 zg 47 (.bsl 3 1 1 [(.c (.int .i64 2))]) 41 true,
 zg 48 (.call f_r01_SameInts [(.t 46), (.t 47)] []) 41 true,
 zu 49 41 48,
 zm 50 49,
 zmg 51 4 50 true,
 zg 52 (.bsl 4 1 1 [(.c (.int .i64 0))]) 50 true,
 zg 53 (.call f_r01_SameInts [(.t 51), (.t 52)] []) 50 true,
 zu 54 50 53,
 zm 55 54,
 zmg 56 7 55 true,
 zg 57 (.bin .eql (.t 56) (.c (.int .i64 0))) 55 true,
 zu 58 55 57,
 zm 59 58,
 zfg 60 1 6 59 true,
 zlg 61 1 60 59 true,
 zg 62 (.lenl (.t 61)) 59 true,
 zg 63 (.bin .gtr (.t 62) (.c (.int .i64 0))) 59 true,
 zu 64 59 63,
 zm 0 64])
 (.ret)))))
def s_w04_awake : List Nat := [3, 6, 28, 47, 52]
def F_w04_awake : IF := ⟨0, 65, 5, c_w04_awake, [(0, none)], true, false, false⟩
def l_r03_Is_0 : C :=
 .loop (rest 38 [1, 22, 23, 24]) [1] (.seq (.reg [zb 25 .lss 24 23])
 (.seq (.cond (.t 25) (.skip) (.exit 0))
 (.seq (.blk 1 (.seq (.reg [zi 26 2 22 24,
 zL 27 2 26,
 zq 4 (.alc 1 2 (.agg [.nils, .nils])),
 zs 2 4 27])
  (.seq (.reg [zL 28 2 4,
 zf 29 1 1,
 zl 30 1 29,
 zn 31 30,
 zf 32 0 1,
 zl 33 1 32,
 zn 34 33,
 zq 35 (.call f_r03_state [(.t 28), (.t 31), (.t 34)] []),
 zq 36 (.un .not (.t 35))])
  (.cond (.t 36) (.seq (.reg [zo 2 false])
   (.ret)) (.skip)))))
 (.reg [za 37 24 1,
 zm 24 37]))))
def c_r03_Is : C :=
 .seq (.reg [zq 1 (.box 0 2 (.t 0)),
 zo 2 false])
 (.seq (.seq (.reg [zf 5 0 1,
 zl 6 1 5,
 zq 7 (.call f_r01_Is [(.t 6)] []),
 zq 8 (.un .not (.t 7)),
 zm 9 8,
 zfg 10 1 1 9 false,
 zlg 11 1 10 9 false,
 zg 12 (.lenl (.t 11)) 9 false,
 zg 13 (.bin .lss (.t 12) (.c (.int .i64 1))) 9 false,
 zy 14 9 13,
 zm 15 14,
 zfg 16 1 1 15 false,
 zlg 17 1 16 15 false,
 zg 18 (.lenl (.t 17)) 15 false,
 zg 19 (.bin .gtr (.t 18) (.c (.int .i64 500))) 15 false,
 zy 20 15 19])
 (.cond (.t 20) (.seq (.reg [zo 2 false])
  (.ret)) (.skip)))
 (.seq (.seq (.reg [zf 21 1 1,
 zl 22 1 21,
 zn 23 22,
 zk 24 0])
 (.blk 0 (l_r03_Is_0)))
 (.seq (.reg [zo 2 true])
 (.ret))))
def s_r03_Is : List Nat := [1, 4]
def F_r03_Is : IF := ⟨1, 38, 2, c_r03_Is, [(2, none)], true, false, false⟩
def c_prune_Trim : C :=
 .seq (.reg [zq 1 (.box 0 2 (.t 0)),
 zq 2 (.alc 1 2 (.agg [.nils, .nils])),
 zq 3 (.mov (.c .nils)),
 zk 4 0])
 (.seq (.seq (.reg [zL 7 2 1,
 zq 8 (.call f_spec_Valid [(.t 7)] []),
 zq 9 (.un .not (.t 8))])
 (.cond (.t 9) (.seq (.reg [zq 10 (.bld [.nils, .nils] []),
 zs 2 2 10,
 zq 3 (.mov (.c .nils)),
 zk 4 30])
  (.ret)) (.skip)))
 (.seq (.reg [zL 12 2 1,
 zq 13 (.call f_prune_Trimmed [(.t 12)] []),
 zm 11 13,
 zq 14 (.ext (.t 11) 0),
 zq 15 (.ext (.t 11) 1),
 zq 5 (.alc 2 2 (.agg [.nils, .nils])),
 zs 2 5 14,
 zm 6 15])
 (.seq (.reg [zL 16 2 5,
 zm 17 6,
 zs 2 2 16,
 zm 3 17,
 zk 4 0])
 (.ret))))
def s_prune_Trim : List Nat := [1, 2, 5]
def F_prune_Trim : IF := ⟨1, 18, 3, c_prune_Trim, [(2, some (true, 2)), (3, none), (4, none)], true, false, false⟩
def l_r03_Copy_0 : C :=
 .loop (rest 31 [2, 3, 11, 12, 13]) [4, 5, 6, 7, 8] (.seq (.reg [zb 14 .lss 13 12])
 (.seq (.cond (.t 14) (.skip) (.exit 0))
 (.seq (.blk 1 (.seq (.reg [zi 15 2 11 13,
 zL 16 2 15,
 zq 5 (.alc 4 2 (.agg [.nils, .nils])),
 zs 2 5 16])
  (.drw [zf 17 1 3,
 zl 18 1 17,
 zf 19 0 5,
 zl 20 1 19,
 zq 21 (.app 5 1 8 (.c .nils) (.t 20)),
 zf 22 1 5,
 zl 23 1 22,
 zq 24 (.app 6 1 8 (.c .nils) (.t 23)),
 zq 25 (.bld [.nils, .nils] [(0, 1, (.t 21)), (1, 1, (.t 24))]),
 zq 26 (.bsl 7 2 1 [(.t 25)]),
 zq 27 (.app 8 2 48 (.t 18) (.t 26)),
 zf 28 1 3,
 zs 1 28 27] [(0, 4), (1, 4), (4, 5), (4, 6), (0, 7), (1, 7), (0, 9), (1, 9)])))
 (.reg [za 29 13 1,
 zm 13 29]))))
def c_r03_Copy : C :=
 .seq (.reg [zq 1 (.box 0 2 (.t 0)),
 zq 2 (.alc 1 2 (.agg [.nils, .nils]))])
 (.seq (.reg [zf 6 0 1,
 zl 7 1 6,
 zq 8 (.app 2 1 16 (.c .nils) (.t 7)),
 zq 9 (.bld [.nils, .nils] [(0, 1, (.t 8))]),
 zq 3 (.alc 3 2 (.agg [.nils, .nils])),
 zs 2 3 9])
 (.seq (.seq (.reg [zf 10 1 1,
 zl 11 1 10,
 zn 12 11,
 zk 13 0])
 (.blk 0 (l_r03_Copy_0)))
 (.seq (.reg [zL 30 2 3,
 zs 2 2 30])
 (.ret))))
def s_r03_Copy : List Nat := [1, 2, 8, 3, 5, 21, 24, 26, 27]
def F_r03_Copy : IF := ⟨1, 31, 9, c_r03_Copy, [(2, some (true, 2))], true, false, false⟩
def l_r01_SameInts_0 : C :=
 .loop (rest 26 [1, 12, 13, 14]) [] (.seq (.reg [zb 15 .lss 14 13])
 (.seq (.cond (.t 15) (.skip) (.exit 0))
 (.seq (.blk 1 (.seq (.reg [zm 16 14,
 zi 17 1 12 14,
 zl 18 1 17,
 zm 5 16,
 zm 6 18])
  (.seq (.reg [zm 19 6,
 zm 20 1,
 zm 21 5,
 zi 22 1 20 21,
 zl 23 1 22,
 zb 24 .neq 19 23])
  (.cond (.t 24) (.seq (.reg [zo 4 false])
   (.ret)) (.skip)))))
 (.reg [za 25 14 1,
 zm 14 25]))))
def c_r01_SameInts : C :=
 .seq (.reg [zo 4 false])
 (.seq (.seq (.reg [zm 7 0,
 zn 8 7,
 zm 9 1,
 zn 10 9,
 zb 11 .neq 8 10])
 (.cond (.t 11) (.seq (.reg [zo 4 false])
  (.ret)) (.skip)))
 (.seq (.seq (.reg [zm 12 0,
 zn 13 12,
 zk 14 0])
 (.blk 0 (l_r01_SameInts_0)))
 (.seq (.reg [zo 4 true])
 (.ret))))
def s_r01_SameInts : List Nat := []
def F_r01_SameInts : IF := ⟨2, 26, 0, c_r01_SameInts, [(4, none)], true, false, false⟩
def l_r04_Hollow_2 : C :=
 .loop (rest 35 [1, 3, 4, 13, 14, 15]) [2] (.seq (.reg [zb 16 .lss 15 14])
 (.seq (.cond (.t 16) (.skip) (.exit 2))
 (.seq (.blk 3 (.seq (.reg [zm 17 15,
 zi 18 2 13 15,
 zL 19 2 18,
 zq 6 (.alc 2 2 (.agg [.nils, .nils])),
 zm 5 17,
 zs 2 6 19])
  (.seq (.reg [zm 20 3,
 zm 21 5,
 zi 22 1 20 21,
 zl 23 1 22,
 zq 24 (.un .not (.t 23)),
 zm 25 24,
 zg 26 (.ld true 2 (.t 6)) 25 true,
 zmg 27 3 25 true,
 zg 28 (.call f_r04_allFall [(.t 26), (.t 27)] []) 25 true,
 zu 29 25 28])
  (.cond (.t 29) (.reg [zm 30 3,
 zm 31 5,
 zi 32 1 30 31,
 zr (.sto 1 (.t 32) (.c (.bool true))),
 zo 4 true]) (.skip)))))
 (.reg [za 33 15 1,
 zm 15 33]))))
def l_r04_Hollow_0 : C :=
 .loop (rest 35 [1, 3, 4]) [2] (.seq (.seq (.reg [zm 11 4])
 (.cond (.t 11) (.skip) (.exit 0)))
 (.blk 1 (.seq (.reg [zo 4 false])
  (.seq (.reg [zf 12 1 1,
 zl 13 1 12,
 zn 14 13,
 zk 15 0])
  (.blk 2 (l_r04_Hollow_2))))))
def c_r04_Hollow : C :=
 .seq (.reg [zq 1 (.box 0 2 (.t 0)),
 zq 2 (.mov (.c .nils))])
 (.seq (.reg [zf 7 1 1,
 zl 8 1 7,
 zn 9 8,
 zq 10 (.mks 1 1 1 (.bool false) (.t 9) (.t 9)),
 zm 3 10])
 (.seq (.seq (.reg [zo 4 true])
 (.blk 0 (l_r04_Hollow_0)))
 (.seq (.reg [zm 34 3,
 zm 2 34])
 (.ret))))
def s_r04_Hollow : List Nat := [1, 10, 6]
def F_r04_Hollow : IF := ⟨1, 35, 3, c_r04_Hollow, [(2, none)], true, false, false⟩
def c_prune_Some : C :=
 .seq (.reg [zq 1 (.box 0 2 (.t 0)),
 zq 2 (.alc 1 2 (.agg [.nils, .nils])),
 zk 3 0])
 (.seq (.seq (.reg [zL 6 2 1,
 zq 7 (.call f_spec_Valid [(.t 6)] []),
 zq 8 (.un .not (.t 7))])
 (.cond (.t 8) (.seq (.reg [zq 9 (.bld [.nils, .nils] []),
 zs 2 2 9,
 zk 3 30])
  (.ret)) (.skip)))
 (.seq (.reg [zL 11 2 1,
 zq 12 (.call f_prune_Trimmed [(.t 11)] []),
 zm 10 12,
 zq 13 (.ext (.t 10) 0),
 zq 14 (.ext (.t 10) 1),
 zq 4 (.alc 2 2 (.agg [.nils, .nils])),
 zs 2 4 13,
 zm 5 14])
 (.seq (.seq (.reg [zm 15 5,
 zn 16 15,
 zq 17 (.bin .eql (.t 16) (.c (.int .i64 0)))])
 (.cond (.t 17) (.seq (.reg [zq 18 (.bld [.nils, .nils] []),
 zs 2 2 18,
 zk 3 3])
  (.ret)) (.skip)))
 (.seq (.reg [zL 19 2 4,
 zq 20 (.call f_prune_Witness [(.t 19), (.c .nils)] []),
 zs 2 2 20,
 zk 3 0])
 (.ret)))))
def s_prune_Some : List Nat := [1, 2, 4]
def F_prune_Some : IF := ⟨1, 21, 3, c_prune_Some, [(2, some (true, 2)), (3, none)], true, false, false⟩
def l_r04_Places_0 : C :=
 .loop (rest 20 [3, 6, 7, 8]) [0] (.seq (.reg [zb 9 .lss 8 7])
 (.seq (.cond (.t 9) (.skip) (.exit 0))
 (.seq (.blk 1 (.seq (.reg [zm 10 8,
 zi 11 1 6 8,
 zl 12 1 11,
 zm 4 10,
 zm 5 12])
  (.seq (.reg [zm 13 5])
  (.cond (.t 13) (.reg [zm 14 3,
 zm 15 4,
 zq 16 (.bsl 0 1 1 [(.t 15)]),
 zq 17 (.app 1 1 8 (.t 14) (.t 16)),
 zm 3 17]) (.skip)))))
 (.reg [za 18 8 1,
 zm 8 18]))))
def c_r04_Places : C :=
 .seq (.reg [zq 2 (.mov (.c .nils))])
 (.seq (.reg [zq 3 (.mov (.c .nils))])
 (.seq (.seq (.reg [zm 6 0,
 zn 7 6,
 zk 8 0])
 (.blk 0 (l_r04_Places_0)))
 (.seq (.reg [zm 19 3,
 zm 2 19])
 (.ret))))
def s_r04_Places : List Nat := [16, 17]
def F_r04_Places : IF := ⟨1, 20, 2, c_r04_Places, [(2, none)], true, false, false⟩
def l_r04_IsLadder_0 : C :=
 .loop (rest 47 [2, 5, 12, 13, 14]) [] (.seq (.reg [zb 15 .lss 14 13])
 (.seq (.cond (.t 15) (.skip) (.exit 0))
 (.seq (.blk 1 (.seq (.reg [zi 16 1 12 14,
 zl 17 1 16,
 zm 7 17])
  (.seq (.seq (.reg [zm 18 7,
 zq 19 (.bin .lss (.t 18) (.c (.int .i64 0))),
 zm 20 19,
 zmg 21 7 20 false,
 zfg 22 1 2 20 false,
 zlg 23 1 22 20 false,
 zg 24 (.lenl (.t 23)) 20 false,
 zg 25 (.bin .geq (.t 21) (.t 24)) 20 false,
 zy 26 20 25,
 zm 27 26,
 zmg 28 5 27 false,
 zmg 29 7 27 false,
 zg 30 (.iad 1 (.t 28) (.t 29)) 27 false,
 zlg 31 1 30 27 false,
 zy 32 27 31,
 zm 33 32,
 zfg 34 1 2 33 false,
 zlg 35 1 34 33 false,
 zmg 36 7 33 false,
 zg 37 (.iad 2 (.t 35) (.t 36)) 33 false,
 zg 38 (.ld true 2 (.t 37)) 33 false,
 zmg 39 5 33 false,
 zg 40 (.call f_r04_allFall [(.t 38), (.t 39)] []) 33 false,
 zg 41 (.un .not (.t 40)) 33 false,
 zy 42 33 41])
  (.cond (.t 42) (.seq (.reg [zo 4 false])
   (.ret)) (.skip)))
  (.reg [zm 43 5,
 zm 44 7,
 zi 45 1 43 44,
 zr (.sto 1 (.t 45) (.c (.bool true)))]))))
 (.reg [za 46 14 1,
 zm 14 46]))))
def c_r04_IsLadder : C :=
 .seq (.reg [zq 2 (.box 0 2 (.t 0)),
 zo 4 false])
 (.seq (.reg [zf 8 1 2,
 zl 9 1 8,
 zn 10 9,
 zq 11 (.mks 1 1 1 (.bool false) (.t 10) (.t 10)),
 zm 5 11])
 (.seq (.seq (.reg [zm 12 1,
 zn 13 12,
 zk 14 0])
 (.blk 0 (l_r04_IsLadder_0)))
 (.seq (.reg [zo 4 true])
 (.ret))))
def s_r04_IsLadder : List Nat := [2, 11]
def F_r04_IsLadder : IF := ⟨2, 47, 2, c_r04_IsLadder, [(4, none)], true, false, false⟩
def c_prune_Hollow : C :=
 .seq (.reg [zq 1 (.box 0 2 (.t 0)),
 zq 2 (.mov (.c .nils)),
 zk 3 0])
 (.seq (.reg [zL 7 2 1,
 zq 8 (.call f_prune_Ladder [(.t 7)] [1]),
 zm 6 8,
 zq 9 (.ext (.t 6) 0),
 zq 10 (.ext (.t 6) 1),
 zm 4 9,
 zm 5 10])
 (.seq (.reg [zm 11 4,
 zq 12 (.call f_slices_SortZitit [(.t 11)] [])])
 (.seq (.reg [zm 13 4,
 zm 14 5,
 zm 2 13,
 zm 3 14])
 (.ret))))
def s_prune_Hollow : List Nat := [1, 8]
def F_prune_Hollow : IF := ⟨1, 15, 2, c_prune_Hollow, [(2, none), (3, none)], true, false, false⟩
def c_prune_Ladder : C :=
 .seq (.reg [zq 1 (.box 0 2 (.t 0)),
 zq 2 (.mov (.c .nils)),
 zk 3 0])
 (.seq (.seq (.reg [zL 4 2 1,
 zq 5 (.call f_spec_Valid [(.t 4)] []),
 zq 6 (.un .not (.t 5))])
 (.cond (.t 6) (.seq (.reg [zq 2 (.mov (.c .nils)),
 zk 3 30])
  (.ret)) (.skip)))
 (.seq (.reg [zL 7 2 1,
 zq 8 (.call f_prune_rungs [(.t 7)] [1]),
 zm 2 8,
 zk 3 0])
 (.ret)))
def s_prune_Ladder : List Nat := [1, 8]
def F_prune_Ladder : IF := ⟨1, 9, 2, c_prune_Ladder, [(2, none), (3, none)], true, true, false⟩
def c_prune_IsLadder : C :=
 .seq (.reg [zq 2 (.box 0 2 (.t 0)),
 zo 4 false,
 zk 5 0])
 (.seq (.seq (.reg [zL 8 2 2,
 zq 9 (.call f_spec_Valid [(.t 8)] []),
 zq 10 (.un .not (.t 9))])
 (.cond (.t 10) (.seq (.reg [zo 4 false,
 zk 5 30])
  (.ret)) (.skip)))
 (.seq (.reg [zL 12 2 2,
 zm 13 1,
 zq 14 (.call f_prune_Rests [(.t 12), (.t 13)] []),
 zm 11 14,
 zq 15 (.ext (.t 11) 0),
 zq 16 (.ext (.t 11) 1),
 zm 6 15,
 zm 7 16])
 (.seq (.reg [zm 17 7,
 zm 4 17,
 zk 5 0])
 (.ret))))
def s_prune_IsLadder : List Nat := [2]
def F_prune_IsLadder : IF := ⟨2, 18, 1, c_prune_IsLadder, [(4, none), (5, none)], true, false, false⟩
def l_r03_Few_0 : C :=
 .loop (rest 46 [1, 2, 5, 6]) [] (.seq (.seq (.reg [zm 14 6,
 zf 15 1 2,
 zl 16 1 15,
 zn 17 16,
 zb 18 .lss 14 17,
 zm 19 18,
 zmg 20 5 19 true,
 zmg 21 1 19 true,
 zg 22 (.bin .leq (.t 20) (.t 21)) 19 true,
 zu 23 19 22])
 (.cond (.t 23) (.skip) (.exit 0)))
 (.seq (.blk 1 (.drw [zm 26 5,
 zf 27 1 2,
 zl 28 1 27,
 zm 29 6,
 zi 30 2 28 29,
 zf 31 0 30,
 zl 32 1 31,
 zn 33 32,
 zf 34 1 2,
 zl 35 1 34,
 zm 36 6,
 zi 37 2 35 36,
 zf 38 1 37,
 zl 39 1 38,
 zn 40 39,
 zb 41 .add 33 40,
 zb 42 .add 26 41,
 zm 5 42] []))
 (.reg [zm 24 6,
 za 25 24 1,
 zm 6 25])))
def c_r03_Few : C :=
 .seq (.reg [zq 2 (.box 0 2 (.t 0)),
 zo 4 false])
 (.seq (.reg [zf 7 0 2,
 zl 8 1 7,
 zn 9 8,
 zf 10 1 2,
 zl 11 1 10,
 zn 12 11,
 zb 13 .add 9 12,
 zm 5 13])
 (.seq (.seq (.reg [zk 6 0])
 (.blk 0 (l_r03_Few_0)))
 (.seq (.reg [zm 43 5,
 zm 44 1,
 zb 45 .leq 43 44,
 zm 4 45])
 (.ret))))
def s_r03_Few : List Nat := [2]
def F_r03_Few : IF := ⟨2, 46, 1, c_r03_Few, [(4, none)], true, false, false⟩
def c_w04_twigs : C :=
 .seq (.reg [zq 0 (.alc 0 2 (.agg [.nils, .nils]))])
 (.seq (.reg [⟨some 1, .bsl 1 1 2 [(.c (.str ⟨#[97]⟩)), (.c (.str ⟨#[98]⟩))], none⟩,
 zq 2 (.bsl 2 1 2 [(.c (.int .i64 1)), (.c (.int .i64 2))]),
 zq 3 (.bsl 3 1 2 [(.c (.int .i64 1)), (.c (.int .i64 0))]),
 zq 4 (.bld [.nils, .nils] [(0, 1, (.t 2)), (1, 1, (.t 3))]),
 zq 5 (.bsl 4 1 2 [(.c (.int .i64 (-1))), (.c (.int .i64 (-1)))]),
 zq 6 (.bld [.nils, .nils] [(1, 1, (.t 5))]),
 zq 7 (.bsl 5 2 2 [(.t 4), (.t 6)]),
 zq 8 (.bld [.nils, .nils] [(0, 1, (.t 1)), (1, 1, (.t 7))]),
 zs 2 0 8])
 (.ret))
def s_w04_twigs : List Nat := [0, 1, 2, 3, 5, 7]
def F_w04_twigs : IF := ⟨0, 9, 6, c_w04_twigs, [(0, some (true, 2))], true, false, false⟩
def l_r01_Is_0 : C :=
 .loop (rest 26 [0, 8, 9, 10]) [] (.seq (.reg [zb 11 .lss 10 9])
 (.seq (.cond (.t 11) (.skip) (.exit 0))
 (.seq (.blk 1 (.seq (.reg [zm 12 10,
 zi 13 1 8 10,
 zl 14 1 13,
 zm 3 12,
 zm 4 14])
  (.seq (.reg [zm 15 4,
 zq 16 (.call f_r01_Name [(.t 15)] []),
 zq 17 (.un .not (.t 16)),
 zm 18 17,
 zmg 19 0 18 false,
 zmg 20 4 18 false,
 zg 21 (.call f_r01_Index [(.t 19), (.t 20)] []) 18 false,
 zmg 22 3 18 false,
 zg 23 (.bin .neq (.t 21) (.t 22)) 18 false,
 zy 24 18 23])
  (.cond (.t 24) (.seq (.reg [zo 2 false])
   (.ret)) (.skip)))))
 (.reg [za 25 10 1,
 zm 10 25]))))
def c_r01_Is : C :=
 .seq (.reg [zo 2 false])
 (.seq (.seq (.reg [zm 5 0,
 zn 6 5,
 zq 7 (.bin .gtr (.t 6) (.c (.int .i64 8)))])
 (.cond (.t 7) (.seq (.reg [zo 2 false])
  (.ret)) (.skip)))
 (.seq (.seq (.reg [zm 8 0,
 zn 9 8,
 zk 10 0])
 (.blk 0 (l_r01_Is_0)))
 (.seq (.reg [zo 2 true])
 (.ret))))
def s_r01_Is : List Nat := []
def F_r01_Is : IF := ⟨1, 26, 0, c_r01_Is, [(2, none)], true, false, false⟩
def l_r03_state_0 : C :=
 .loop (rest 66 [1, 2, 3, 25, 26, 27]) [] (.seq (.reg [zb 28 .lss 27 26])
 (.seq (.cond (.t 28) (.skip) (.exit 0))
 (.seq (.blk 1 (.seq (.reg [zi 29 1 25 27,
 zl 30 1 29,
 zm 8 30])
  (.seq (.reg [zm 31 8,
 zq 32 (.bin .lss (.t 31) (.c (.int .i64 (-1)))),
 zm 33 32,
 zmg 34 8 33 false,
 zmg 35 1 33 false,
 zg 36 (.bin .geq (.t 34) (.t 35)) 33 false,
 zy 37 33 36])
  (.cond (.t 37) (.seq (.reg [zo 6 false])
   (.ret)) (.skip)))))
 (.reg [za 38 27 1,
 zm 27 38]))))
def l_r03_state_4 : C :=
 .loop (rest 66 [2, 3, 40, 41, 42, 52, 53, 54]) [] (.seq (.reg [zb 55 .lss 54 53])
 (.seq (.cond (.t 55) (.skip) (.exit 4))
 (.seq (.blk 5 (.seq (.reg [zi 56 1 52 54,
 zl 57 1 56,
 zm 12 57])
  (.seq (.reg [zf 58 1 3,
 zl 59 1 58,
 zm 60 12,
 zi 61 1 59 60,
 zl 62 1 61,
 zq 63 (.bin .lss (.t 62) (.c (.int .i64 0)))])
  (.cond (.t 63) (.seq (.reg [zo 6 false])
   (.ret)) (.skip)))))
 (.reg [za 64 54 1,
 zm 54 64]))))
def l_r03_state_2 : C :=
 .loop (rest 66 [2, 3, 40, 41, 42]) [] (.seq (.reg [zb 43 .lss 42 41])
 (.seq (.cond (.t 43) (.skip) (.exit 2))
 (.seq (.blk 3 (.seq (.reg [zi 44 1 40 42,
 zl 45 1 44,
 zm 10 45])
  (.seq (.seq (.reg [zm 46 2,
 zm 47 10,
 zq 48 (.call f_r01_Set [(.t 46), (.t 47)] []),
 zq 49 (.un .not (.t 48))])
  (.cond (.t 49) (.seq (.reg [zo 6 false])
   (.ret)) (.skip)))
  (.seq (.reg [zm 50 2,
 zm 51 10,
 zq 52 (.call f_r01_List [(.t 50), (.t 51)] []),
 zn 53 52,
 zk 54 0])
  (.blk 4 (l_r03_state_4))))))
 (.reg [za 65 42 1,
 zm 42 65]))))
def c_r03_state : C :=
 .seq (.reg [zq 3 (.box 0 2 (.t 0)),
 zo 6 false])
 (.seq (.seq (.reg [zf 13 1 3,
 zl 14 1 13,
 zn 15 14,
 zm 16 2,
 zb 17 .neq 15 16,
 zm 18 17,
 zfg 19 0 3 18 false,
 zlg 20 1 19 18 false,
 zg 21 (.call f_r01_Rising [(.t 20)] []) 18 false,
 zg 22 (.un .not (.t 21)) 18 false,
 zy 23 18 22])
 (.cond (.t 23) (.seq (.reg [zo 6 false])
  (.ret)) (.skip)))
 (.seq (.seq (.reg [zf 24 1 3,
 zl 25 1 24,
 zn 26 25,
 zk 27 0])
 (.blk 0 (l_r03_state_0)))
 (.seq (.seq (.reg [zf 39 0 3,
 zl 40 1 39,
 zn 41 40,
 zk 42 0])
 (.blk 2 (l_r03_state_2)))
 (.seq (.reg [zo 6 true])
 (.ret)))))
def s_r03_state : List Nat := [3]
def F_r03_state : IF := ⟨3, 66, 1, c_r03_state, [(6, none)], true, false, false⟩
def l_spec_Valid_2 : C :=
 .loop (rest 94 [1, 3, 5, 6, 27, 28, 29, 41, 42, 43]) [] (.seq (.reg [zb 44 .lss 43 42])
 (.seq (.cond (.t 44) (.skip) (.exit 2))
 (.seq (.blk 3 (.seq (.reg [zm 45 43,
 zi 46 1 41 43,
 zl 47 1 46,
 zm 7 45,
 zm 8 47])
  (.seq (.seq (.reg [zm 48 8,
 zq 49 (.bin .lss (.t 48) (.c (.int .i64 (-1)))),
 zm 50 49,
 zmg 51 8 50 false,
 zmg 52 3 50 false,
 zg 53 (.bin .geq (.t 51) (.t 52)) 50 false,
 zy 54 50 53])
  (.cond (.t 54) (.seq (.reg [zo 2 false])
   (.ret)) (.skip)))
  (.seq (.reg [zm 55 8,
 zq 56 (.bin .geq (.t 55) (.c (.int .i64 0)))])
  (.cond (.t 56) (.reg [zm 57 6,
 zm 58 7,
 zq 59 (.bin .shl (.c (.int .i64 1)) (.t 58)),
 zb 60 .or 57 59,
 zm 6 60]) (.skip))))))
 (.reg [za 61 43 1,
 zm 43 61]))))
def l_spec_Valid_4 : C :=
 .loop (rest 94 [1, 3, 5, 6, 27, 28, 29, 63, 64, 65]) [] (.seq (.reg [zb 66 .lss 65 64])
 (.seq (.cond (.t 66) (.skip) (.exit 4))
 (.seq (.blk 5 (.seq (.reg [zm 67 65,
 zi 68 1 63 65,
 zl 69 1 68,
 zm 9 67,
 zm 10 69])
  (.seq (.reg [zm 70 10,
 zq 71 (.bin .lss (.t 70) (.c (.int .i64 0))),
 zm 72 71,
 zmg 73 10 72 false,
 zmg 74 6 72 false,
 zg 75 (.bin .andNot (.t 73) (.t 74)) 72 false,
 zg 76 (.bin .neq (.t 75) (.c (.int .i64 0))) 72 false,
 zy 77 72 76,
 zm 78 77,
 zmg 79 9 78 false,
 zg 80 (.bin .gtr (.t 79) (.c (.int .i64 0))) 78 false,
 zmg 81 80 78 false,
 zfg 82 0 5 81 true,
 zlg 83 1 82 81 true,
 zmg 84 9 81 true,
 zg 85 (.bin .sub (.t 84) (.c (.int .i64 1))) 81 true,
 zg 86 (.iad 1 (.t 83) (.t 85)) 81 true,
 zlg 87 1 86 81 true,
 zmg 88 10 81 true,
 zg 89 (.bin .geq (.t 87) (.t 88)) 81 true,
 zg 90 (.pick (.t 81) (.t 89) (.c (.bool false))) 78 false,
 zy 91 78 90])
  (.cond (.t 91) (.seq (.reg [zo 2 false])
   (.ret)) (.skip)))))
 (.reg [za 92 65 1,
 zm 65 92]))))
def l_spec_Valid_0 : C :=
 .loop (rest 94 [1, 3, 27, 28, 29]) [1] (.seq (.reg [zb 30 .lss 29 28])
 (.seq (.cond (.t 30) (.skip) (.exit 0))
 (.seq (.blk 1 (.seq (.reg [zi 31 2 27 29,
 zL 32 2 31,
 zq 5 (.alc 1 2 (.agg [.nils, .nils])),
 zs 2 5 32])
  (.seq (.seq (.reg [zf 33 1 5,
 zl 34 1 33,
 zn 35 34,
 zf 36 0 1,
 zl 37 1 36,
 zn 38 37,
 zb 39 .neq 35 38])
  (.cond (.t 39) (.seq (.reg [zo 2 false])
   (.ret)) (.skip)))
  (.seq (.reg [zk 6 0])
  (.seq (.seq (.reg [zf 40 1 5,
 zl 41 1 40,
 zn 42 41,
 zk 43 0])
  (.blk 2 (l_spec_Valid_2)))
  (.seq (.reg [zf 62 0 5,
 zl 63 1 62,
 zn 64 63,
 zk 65 0])
  (.blk 4 (l_spec_Valid_4))))))))
 (.reg [za 93 29 1,
 zm 29 93]))))
def c_spec_Valid : C :=
 .seq (.reg [zq 1 (.box 0 2 (.t 0)),
 zo 2 false])
 (.seq (.reg [zf 11 1 1,
 zl 12 1 11,
 zn 13 12,
 zm 3 13])
 (.seq (.seq (.reg [zf 14 0 1,
 zl 15 1 14,
 zq 16 (.call f_act_Valid [(.t 15)] []),
 zq 17 (.un .not (.t 16)),
 zm 18 17,
 zmg 19 3 18 false,
 zg 20 (.bin .lss (.t 19) (.c (.int .i64 1))) 18 false,
 zy 21 18 20,
 zm 22 21,
 zmg 23 3 22 false,
 zg 24 (.bin .gtr (.t 23) (.c (.int .i64 500))) 22 false,
 zy 25 22 24])
 (.cond (.t 25) (.seq (.reg [zo 2 false])
  (.ret)) (.skip)))
 (.seq (.seq (.reg [zf 26 1 1,
 zl 27 1 26,
 zn 28 27,
 zk 29 0])
 (.blk 0 (l_spec_Valid_0)))
 (.seq (.reg [zo 2 true])
 (.ret)))))
def s_spec_Valid : List Nat := [1, 5]
def F_spec_Valid : IF := ⟨1, 94, 2, c_spec_Valid, [(2, none)], true, false, false⟩
def a_prune_Trimmed_0 : C :=
 .seq (.reg [zm 7 26])
 (.reg [zm 8 27])
def b_prune_Trimmed_0 : C :=
 .blk 1 (.seq (.reg [zl 28 1 6,
 zm 29 7,
 zl 30 1 5,
 zn 31 30,
 zi 32 1 28 29,
 zs 1 32 31])
  (.seq (.reg [zl 33 1 5,
 zm 34 7,
 zq 35 (.bsl 6 1 1 [(.t 34)]),
 zq 36 (.app 7 1 8 (.t 33) (.t 35)),
 zs 1 5 36])
  (.reg [zf 37 1 4,
 zl 38 1 37,
 zm 39 8,
 zq 40 (.bld [.nils, .nils] [(0, 1, (.t 39))]),
 zq 41 (.bsl 8 2 1 [(.t 40)]),
 zq 42 (.app 9 2 48 (.t 38) (.t 41)),
 zf 43 1 4,
 zs 1 43 42])))
def l_prune_Trimmed_4 : C :=
 .loop (rest 104 [1, 2, 3, 4, 5, 6, 9, 10, 11, 50, 51, 52, 62, 63, 64]) [] (.seq (.reg [zb 65 .lss 64 63])
 (.seq (.cond (.t 65) (.skip) (.exit 4))
 (.seq (.blk 5 (.seq (.reg [zi 66 1 62 64,
 zl 67 1 66,
 zm 13 67])
  (.reg [zm 68 11,
 zm 69 13,
 zb 70 .or 68 69,
 zm 11 70])))
 (.reg [za 71 64 1,
 zm 64 71]))))
def a_prune_Trimmed_6 : C :=
 .reg [zm 15 79]
def b_prune_Trimmed_6 : C :=
 .blk 7 (.drw [zl 80 1 14,
 zm 81 15,
 zl 82 1 6,
 zf 83 1 1,
 zl 84 1 83,
 zl 85 1 10,
 zi 86 2 84 85,
 zf 87 1 86,
 zl 88 1 87,
 zm 89 15,
 zi 90 1 88 89,
 zl 91 1 90,
 zi 92 1 82 91,
 zl 93 1 92,
 zi 94 1 80 81,
 zs 1 94 93] [])
def l_prune_Trimmed_2 : C :=
 .loop (rest 104 [1, 2, 3, 4, 5, 6, 50, 51, 52]) [10, 11, 12, 13] (.seq (.reg [zb 53 .lss 52 51])
 (.seq (.cond (.t 53) (.skip) (.exit 2))
 (.seq (.blk 3 (.seq (.reg [zm 54 52,
 zi 55 1 50 52,
 zl 56 1 55,
 zq 10 (.alc 10 1 (.int .i64 0)),
 zm 9 54,
 zs 1 10 56])
  (.seq (.reg [zk 11 0])
  (.seq (.seq (.reg [zf 57 1 4,
 zl 58 1 57,
 zm 59 9,
 zi 60 2 58 59,
 zf 61 0 60,
 zl 62 1 61,
 zn 63 62,
 zk 64 0])
  (.blk 4 (l_prune_Trimmed_4)))
  (.seq (.reg [zq 72 (.bsl 11 1 1 [(.c (.int .i64 (-1)))]),
 zf 73 0 1,
 zl 74 1 73,
 zn 75 74,
 zq 76 (.call f_slices_RepeatZitit [(.t 72), (.t 75)] [12]),
 zq 14 (.alc 13 1 .nils),
 zs 1 14 76])
  (.seq (.seq (.reg [zm 77 11,
 zq 78 (.call f_act_In [(.t 77)] [])])
  (.blk 6 (.rngf (.t 78) [79] (rest 104 [1, 2, 3, 4, 5, 6, 9, 10, 14, 50, 51, 52]) [] a_prune_Trimmed_6 b_prune_Trimmed_6)))
  (.reg [zf 95 1 4,
 zl 96 1 95,
 zm 97 9,
 zl 98 1 14,
 zi 99 2 96 97,
 zf 100 1 99,
 zs 1 100 98])))))))
 (.reg [za 101 52 1,
 zm 52 101]))))
def c_prune_Trimmed : C :=
 .seq (.reg [zq 1 (.box 0 2 (.t 0)),
 zq 2 (.alc 1 2 (.agg [.nils, .nils])),
 zq 3 (.mov (.c .nils))])
 (.seq (.reg [zf 16 0 1,
 zl 17 1 16,
 zq 18 (.call f_slices_CloneZsgsg [(.t 17)] []),
 zq 19 (.bld [.nils, .nils] [(0, 1, (.t 18))]),
 zq 4 (.alc 2 2 (.agg [.nils, .nils])),
 zs 2 4 19])
 (.seq (.reg [zq 5 (.alc 3 1 .nils)])
 (.seq (.reg [zf 20 1 1,
 zl 21 1 20,
 zn 22 21,
 zq 23 (.mks 4 1 8 (.int .i64 0) (.t 22) (.t 22)),
 zq 6 (.alc 5 1 .nils),
 zs 1 6 23])
 (.seq (.seq (.reg [zL 24 2 1,
 zq 25 (.call f_prune_Left [(.t 24)] [])])
 (.blk 0 (.rngf (.t 25) [26, 27] (rest 104 [1, 2, 3, 4, 5, 6]) [6, 7, 8, 9] a_prune_Trimmed_0 b_prune_Trimmed_0)))
 (.seq (.seq (.reg [zl 44 1 5,
 zn 45 44,
 zq 46 (.bin .eql (.t 45) (.c (.int .i64 0)))])
 (.cond (.t 46) (.seq (.reg [zf 47 0 1,
 zl 48 1 47,
 zq 49 (.call f_spec_Nothing [(.t 48)] []),
 zs 2 2 49,
 zq 3 (.mov (.c .nils))])
  (.ret)) (.skip)))
 (.seq (.seq (.reg [zl 50 1 5,
 zn 51 50,
 zk 52 0])
 (.blk 2 (l_prune_Trimmed_2)))
 (.seq (.drw [zL 102 2 4,
 zl 103 1 5,
 zs 2 2 102,
 zm 3 103] [(1, 2)])
 (.ret))))))))
def s_prune_Trimmed : List Nat := [1, 2, 4, 5, 23, 6, 35, 36, 41, 42, 10, 72, 76, 14]
def F_prune_Trimmed : IF := ⟨1, 104, 14, c_prune_Trimmed, [(2, some (true, 2)), (3, none)], true, false, false⟩
def l_r04_allFall_0 : C :=
 .loop (rest 20 [1, 2, 8, 9, 10]) [] (.seq (.reg [zb 11 .lss 10 9])
 (.seq (.cond (.t 11) (.skip) (.exit 0))
 (.seq (.blk 1 (.seq (.reg [zi 12 1 8 10,
 zl 13 1 12,
 zm 6 13])
  (.seq (.reg [zL 14 2 2,
 zm 15 6,
 zm 16 1,
 zq 17 (.call f_r04_falls [(.t 14), (.t 15), (.t 16)] []),
 zq 18 (.un .not (.t 17))])
  (.cond (.t 18) (.seq (.reg [zo 4 false])
   (.ret)) (.skip)))))
 (.reg [za 19 10 1,
 zm 10 19]))))
def c_r04_allFall : C :=
 .seq (.reg [zq 2 (.box 0 2 (.t 0)),
 zo 4 false])
 (.seq (.seq (.reg [zf 7 0 2,
 zl 8 1 7,
 zn 9 8,
 zk 10 0])
 (.blk 0 (l_r04_allFall_0)))
 (.seq (.reg [zo 4 true])
 (.ret)))
def s_r04_allFall : List Nat := [2]
def F_r04_allFall : IF := ⟨2, 20, 1, c_r04_allFall, [(4, none)], true, false, false⟩
def l_prune_Witness_0 : C :=
 .loop (rest 170 [1, 2, 4, 5, 27, 28, 29]) [4, 5] (.seq (.reg [zb 30 .lss 29 28])
 (.seq (.cond (.t 30) (.skip) (.exit 0))
 (.seq (.blk 1 (.seq (.reg [zm 31 29,
 zi 32 2 27 29,
 zL 33 2 32,
 zq 7 (.alc 4 2 (.agg [.nils, .nils])),
 zm 6 31,
 zs 2 7 33])
  (.drw [zl 34 1 5,
 zm 35 6,
 zf 36 0 7,
 zl 37 1 36,
 zq 38 (.iad 1 (.t 37) (.c (.int .i64 0))),
 zl 39 1 38,
 zq 40 (.bsl 5 1 1 [(.t 39)]),
 zi 41 1 34 35,
 zs 1 41 40] [(0, 6)])))
 (.reg [za 42 29 1,
 zm 29 42]))))
def l_prune_Witness_2 : C :=
 .loop (rest 170 [1, 2, 4, 5, 43, 44, 45]) [6, 7, 8] (.seq (.reg [zb 46 .lss 45 44])
 (.seq (.cond (.t 46) (.skip) (.exit 2))
 (.seq (.blk 3 (.seq (.reg [zi 47 2 43 45,
 zL 48 2 47,
 zq 9 (.alc 6 2 (.agg [(.int .i64 0), (.int .i64 0)])),
 zs 2 9 48])
  (.seq (.drw [zl 49 1 5,
 zf 50 0 9,
 zl 51 1 50,
 zi 52 1 49 51,
 zl 53 1 52,
 zf 54 1 9,
 zl 55 1 54,
 zq 56 (.call f_slices_ContainsZitit [(.t 53), (.t 55)] []),
 zq 57 (.un .not (.t 56))] [])
  (.cond (.t 57) (.drw [zl 58 1 5,
 zf 59 0 9,
 zl 60 1 59,
 zl 61 1 5,
 zf 62 0 9,
 zl 63 1 62,
 zi 64 1 61 63,
 zl 65 1 64,
 zf 66 1 9,
 zl 67 1 66,
 zq 68 (.bsl 7 1 1 [(.t 67)]),
 zq 69 (.app 8 1 8 (.t 65) (.t 68)),
 zi 70 1 58 60,
 zs 1 70 69] [(0, 10), (1, 10), (2, 10), (3, 10), (4, 10), (5, 10), (6, 10), (7, 10), (0, 11), (1, 11), (2, 11)]) (.skip)))))
 (.reg [za 71 45 1,
 zm 45 71]))))
def l_prune_Witness_8 : C :=
 .loop (rest 170 [2, 4, 5, 11, 12, 13, 14, 15, 16, 17, 124, 125, 126]) [17, 18, 19, 20] (.seq (.reg [zb 127 .lss 126 125])
 (.seq (.cond (.t 127) (.skip) (.exit 8))
 (.seq (.blk 9 (.seq (.reg [zi 128 1 124 126,
 zl 129 1 128,
 zm 19 129])
  (.seq (.reg [zl 131 1 11,
 zm 132 17,
 zm 133 19,
 zq 134 (.bld [(.int .i64 0), (.int .i64 0)] [(0, 1, (.t 132)), (1, 1, (.t 133))]),
 zq 135 (.lok (true, [1, 1]) (.int .i64 0) true (.t 131) (.t 134)),
 zm 130 135,
 zq 136 (.ext (.t 130) 0),
 zq 137 (.ext (.t 130) 1),
 zm 20 136,
 zm 21 137])
  (.seq (.seq (.reg [zm 138 21,
 zq 139 (.un .not (.t 138))])
  (.cond (.t 139) (.seq (.reg [zl 140 1 12,
 zn 141 140,
 zm 20 141])
  (.seq (.reg [zl 142 1 11,
 zm 143 17,
 zm 144 19,
 zq 145 (.bld [(.int .i64 0), (.int .i64 0)] [(0, 1, (.t 143)), (1, 1, (.t 144))]),
 zm 146 20,
 zr (.mup (true, [1, 1]) (.t 142) (.t 145) (.t 146))])
  (.reg [zl 147 1 12,
 zm 148 17,
 zm 149 19,
 zq 150 (.bld [(.int .i64 0), (.int .i64 0)] [(0, 1, (.t 148)), (1, 1, (.t 149))]),
 zq 151 (.bsl 17 2 1 [(.t 150)]),
 zq 152 (.app 18 2 16 (.t 147) (.t 151)),
 zs 1 12 152]))) (.skip)))
  (.reg [zl 153 1 15,
 zm 154 16,
 zm 155 20,
 zq 156 (.bld [(.int .i64 0), (.int .i64 0)] [(0, 1, (.t 154)), (1, 1, (.t 155))]),
 zq 157 (.bsl 19 2 1 [(.t 156)]),
 zq 158 (.app 20 2 16 (.t 153) (.t 157)),
 zs 1 15 158])))))
 (.reg [za 159 126 1,
 zm 126 159]))))
def a_prune_Witness_6 : C :=
 .reg [zm 16 107]
def b_prune_Witness_6 : C :=
 .blk 7 (.seq (.drw [zf 108 1 2,
 zl 109 1 108,
 zl 110 1 12,
 zl 111 1 14,
 zi 112 2 110 111,
 zf 113 0 112,
 zl 114 1 113,
 zi 115 2 109 114,
 zf 116 1 115,
 zl 117 1 116,
 zm 118 16,
 zi 119 1 117 118,
 zl 120 1 119,
 zm 17 120] [])
  (.seq (.reg [zl 121 1 5,
 zm 122 17,
 zi 123 1 121 122,
 zl 124 1 123,
 zn 125 124,
 zk 126 0])
  (.blk 8 (l_prune_Witness_8))))
def l_prune_Witness_4 : C :=
 .loop (rest 170 [2, 4, 5, 11, 12, 13, 14]) [16, 17, 18, 19, 20, 21, 22] (.seq (.seq (.reg [zl 95 1 14,
 zl 96 1 12,
 zn 97 96,
 zb 98 .lss 95 97])
 (.cond (.t 98) (.skip) (.exit 4)))
 (.seq (.blk 5 (.seq (.reg [zq 15 (.alc 16 1 .nils)])
  (.seq (.seq (.reg [zl 101 1 12,
 zl 102 1 14,
 zi 103 2 101 102,
 zf 104 1 103,
 zl 105 1 104,
 zq 106 (.call f_act_In [(.t 105)] [])])
  (.blk 6 (.rngf (.t 106) [107] (rest 170 [2, 4, 5, 11, 12, 13, 14, 15]) [17, 18, 19, 20] a_prune_Witness_6 b_prune_Witness_6)))
  (.seq (.reg [zl 160 1 15,
 zq 161 (.call f_slices_SortFuncZaiEeai [(.t 160), (.c (.fn f_prune_Witness_1 []))] [])])
  (.reg [zf 162 1 13,
 zl 163 1 162,
 zl 164 1 15,
 zq 165 (.bsl 21 1 1 [(.t 164)]),
 zq 166 (.app 22 1 24 (.t 163) (.t 165)),
 zf 167 1 13,
 zs 1 167 166])))))
 (.seq (.seq (.reg [zl 168 1 14])
 (.frzt 14 (.reg [zq 14 (.alc 15 1 (.int .i64 0)),
 zs 1 14 168])))
 (.reg [zl 99 1 14,
 za 100 99 1,
 zs 1 14 100]))))
def c_prune_Witness : C :=
 .seq (.reg [zq 2 (.box 0 2 (.t 0)),
 zq 4 (.alc 1 2 (.agg [.nils, .nils]))])
 (.seq (.reg [zf 22 1 2,
 zl 23 1 22,
 zn 24 23,
 zq 25 (.mks 2 1 24 .nils (.t 24) (.t 24)),
 zq 5 (.alc 3 1 .nils),
 zs 1 5 25])
 (.seq (.seq (.reg [zf 26 1 2,
 zl 27 1 26,
 zn 28 27,
 zk 29 0])
 (.blk 0 (l_prune_Witness_0)))
 (.seq (.seq (.reg [zm 43 1,
 zn 44 43,
 zk 45 0])
 (.blk 2 (l_prune_Witness_2)))
 (.seq (.reg [zf 72 1 2,
 zl 73 1 72,
 zq 74 (.iad 2 (.t 73) (.c (.int .i64 0))),
 zf 75 0 74,
 zl 76 1 75,
 zq 77 (.iad 1 (.t 76) (.c (.int .i64 0))),
 zl 78 1 77,
 zq 79 (.bld [(.int .i64 0), (.int .i64 0)] [(0, 1, (.c (.int .i64 0))), (1, 1, (.t 78))]),
 zq 10 (.alc 9 2 (.agg [(.int .i64 0), (.int .i64 0)])),
 zs 2 10 79])
 (.seq (.seq (.reg [zm 80 1,
 zn 81 80,
 zq 82 (.bin .gtr (.t 81) (.c (.int .i64 0)))])
 (.cond (.t 82) (.reg [zm 83 1,
 zq 84 (.iad 2 (.t 83) (.c (.int .i64 0))),
 zL 85 2 84,
 zs 2 10 85]) (.skip)))
 (.seq (.reg [zq 86 (.mkm 10),
 zL 87 2 10,
 zr (.mup (true, [1, 1]) (.t 86) (.t 87) (.c (.int .i64 0))),
 zm 88 86,
 zq 11 (.alc 11 1 .nilm),
 zs 1 11 88])
 (.seq (.reg [zL 89 2 10,
 zq 90 (.bsl 12 2 1 [(.t 89)]),
 zq 12 (.alc 13 1 .nils),
 zs 1 12 90])
 (.seq (.reg [zf 91 0 2,
 zl 92 1 91,
 zq 93 (.call f_slices_CloneZsgsg [(.t 92)] []),
 zq 94 (.bld [.nils, .nils] [(0, 1, (.t 93))]),
 zq 13 (.alc 14 2 (.agg [.nils, .nils])),
 zs 2 13 94])
 (.seq (.seq (.reg [zq 14 (.alc 15 1 (.int .i64 0)),
 zr (.sto 1 (.t 14) (.c (.int .i64 0)))])
 (.blk 4 (l_prune_Witness_4)))
 (.seq (.reg [zL 169 2 13,
 zs 2 4 169])
 (.ret)))))))))))
def s_prune_Witness : List Nat := [2, 4, 25, 5, 7, 40, 9, 68, 69, 10, 86, 11, 90, 12, 13, 14, 15, 151, 152, 157, 158, 165, 166, 14]
def F_prune_Witness : IF := ⟨2, 170, 24, c_prune_Witness, [(4, some (true, 2))], true, false, false⟩
def c_slices_SortZitit : C :=
 .seq (.reg [zm 3 0,
 zn 4 3,
 zm 2 4])
 (.reg [zm 5 0,
 zm 6 2,
 zm 7 2,
 zq 8 (.cvi .u64 (.t 7)),
 zq 9 (.call f_math_bits_Len [(.t 8)] []),
 zq 10 (.call f_slices_pdqsortOrdered_int_ [(.t 5), (.c (.int .i64 0)), (.t 6), (.t 9)] [])])
def s_slices_SortZitit : List Nat := []
def F_slices_SortZitit : IF := ⟨1, 11, 0, c_slices_SortZitit, [], false, false, false⟩
def l_prune_rungs_2 : C :=
 .loop (rest 106 [1, 4, 5, 6, 7, 8, 26, 27, 28, 56, 57, 58]) [11, 12] (.seq (.reg [zb 59 .lss 58 57])
 (.seq (.cond (.t 59) (.skip) (.exit 2))
 (.seq (.blk 3 (.seq (.reg [zm 60 58,
 zi 61 1 56 58,
 zl 62 1 61,
 zm 10 60,
 zm 11 62])
  (.seq (.reg [zm 63 11,
 zq 64 (.bin .geq (.t 63) (.c (.int .i64 0)))])
  (.cond (.t 64) (.reg [zm 65 6,
 zm 66 11,
 zm 67 6,
 zm 68 11,
 zi 69 1 67 68,
 zl 70 1 69,
 zm 71 8,
 zm 72 10,
 zq 73 (.bld [(.int .i64 0), (.int .i64 0)] [(0, 1, (.t 71)), (1, 1, (.t 72))]),
 zq 74 (.bsl 11 2 1 [(.t 73)]),
 zq 75 (.app 12 2 16 (.t 70) (.t 74)),
 zi 76 1 65 66,
 zs 1 76 75]) (.skip)))))
 (.reg [za 77 58 1,
 zm 58 77]))))
def l_prune_rungs_0 : C :=
 .loop (rest 106 [1, 4, 5, 6, 7, 26, 27, 28]) [7, 8, 9, 10, 11, 12] (.seq (.reg [zb 29 .lss 28 27])
 (.seq (.cond (.t 29) (.skip) (.exit 0))
 (.seq (.blk 1 (.seq (.reg [zm 30 28,
 zi 31 2 26 28,
 zL 32 2 31,
 zq 9 (.alc 7 2 (.agg [.nils, .nils])),
 zm 8 30,
 zs 2 9 32])
  (.seq (.drw [zl 33 1 4,
 zm 34 8,
 zl 35 1 5,
 zm 36 8,
 zf 37 0 9,
 zl 38 1 37,
 zn 39 38,
 zf 40 0 9,
 zl 41 1 40,
 zn 42 41,
 zq 43 (.mks 8 1 1 (.bool false) (.t 42) (.t 42)),
 zi 44 1 33 34,
 zs 1 44 39,
 zi 45 1 35 36,
 zs 1 45 43] [(0, 10), (2, 10), (4, 10), (5, 10), (6, 10), (10, 11), (2, 12), (7, 12), (8, 12), (9, 12), (10, 12)])
  (.seq (.seq (.reg [zl 46 1 4,
 zm 47 8,
 zi 48 1 46 47,
 zl 49 1 48,
 zq 50 (.bin .eql (.t 49) (.c (.int .i64 0)))])
  (.cond (.t 50) (.reg [zl 51 1 7,
 zm 52 8,
 zq 53 (.bsl 9 1 1 [(.t 52)]),
 zq 54 (.app 10 1 8 (.t 51) (.t 53)),
 zs 1 7 54]) (.skip)))
  (.seq (.reg [zf 55 1 9,
 zl 56 1 55,
 zn 57 56,
 zk 58 0])
  (.blk 2 (l_prune_rungs_2)))))))
 (.reg [za 78 28 1,
 zm 28 78]))))
def l_prune_rungs_6 : C :=
 .loop (rest 106 [6, 7, 12, 13, 92, 93, 94]) [13] (.seq (.reg [zb 95 .lss 94 93])
 (.seq (.cond (.t 95) (.skip) (.exit 6))
 (.seq (.blk 7 (.seq (.reg [zi 96 2 92 94,
 zL 97 2 96,
 zq 15 (.alc 13 2 (.agg [(.int .i64 0), (.int .i64 0)])),
 zs 2 15 97])
  (.reg [zm 98 12,
 zq 99 (.iaa 2 1 (.t 15) (.c (.int .i64 0))),
 zl 100 1 99,
 zq 101 (.iaa 2 1 (.t 15) (.c (.int .i64 1))),
 zl 102 1 101,
 zq 103 (.calv (.t 98) [(.t 100), (.t 102)] [])])))
 (.reg [za 104 94 1,
 zm 94 104]))))
def l_prune_rungs_4 : C :=
 .loop (rest 106 [6, 7, 12, 13]) [13] (.seq (.seq (.reg [zm 80 13,
 zl 81 1 7,
 zn 82 81,
 zb 83 .lss 80 82])
 (.cond (.t 83) (.skip) (.exit 4)))
 (.seq (.blk 5 (.seq (.reg [zm 86 6,
 zl 87 1 7,
 zm 88 13,
 zi 89 1 87 88,
 zl 90 1 89,
 zi 91 1 86 90,
 zl 92 1 91,
 zn 93 92,
 zk 94 0])
  (.blk 6 (l_prune_rungs_6))))
 (.reg [zm 84 13,
 za 85 84 1,
 zm 13 85])))
def c_prune_rungs : C :=
 .seq (.reg [zq 1 (.box 0 2 (.t 0)),
 zq 2 (.mov (.c .nils))])
 (.seq (.reg [zf 16 1 1,
 zl 17 1 16,
 zn 18 17,
 zm 3 18])
 (.seq (.reg [zm 19 3,
 zq 20 (.mks 1 1 8 (.int .i64 0) (.t 19) (.t 19)),
 zq 4 (.alc 2 1 .nils),
 zs 1 4 20])
 (.seq (.reg [zm 21 3,
 zq 22 (.mks 3 1 24 .nils (.t 21) (.t 21)),
 zq 5 (.alc 4 1 .nils),
 zs 1 5 22])
 (.seq (.reg [zm 23 3,
 zq 24 (.mks 5 1 24 .nils (.t 23) (.t 23)),
 zm 6 24])
 (.seq (.reg [zq 7 (.alc 6 1 .nils)])
 (.seq (.seq (.reg [zf 25 1 1,
 zl 26 1 25,
 zn 27 26,
 zk 28 0])
 (.blk 0 (l_prune_rungs_0)))
 (.seq (.reg [zq 79 (.mkf f_prune_rungs_1 [(.t 1), (.t 5), (.t 4), (.t 7)]),
 zm 12 79])
 (.seq (.seq (.reg [zk 13 0])
 (.blk 4 (l_prune_rungs_4)))
 (.seq (.reg [zl 105 1 7,
 zm 2 105])
 (.ret))))))))))
def s_prune_rungs : List Nat := [1, 20, 4, 22, 5, 24, 7, 9, 43, 53, 54, 74, 75, 15]
def F_prune_rungs : IF := ⟨1, 106, 14, c_prune_rungs, [(2, none)], true, true, false⟩
def a_prune_Rests_4 : C :=
 .reg [zm 12 50]
def b_prune_Rests_4 : C :=
 .blk 5 (.drw [zl 51 1 11,
 zm 52 51,
 zlg 53 1 6 52 false,
 zfg 54 1 2 52 false,
 zlg 55 1 54 52 false,
 zlg 56 1 8 52 false,
 zg 57 (.iad 2 (.t 55) (.t 56)) 52 false,
 zfg 58 1 57 52 false,
 zlg 59 1 58 52 false,
 zmg 60 12 52 false,
 zg 61 (.iad 1 (.t 59) (.t 60)) 52 false,
 zlg 62 1 61 52 false,
 zg 63 (.iad 1 (.t 53) (.t 62)) 52 false,
 zlg 64 1 63 52 false,
 zy 65 52 64,
 zs 1 11 65] [])
def l_prune_Rests_2 : C :=
 .loop (rest 74 [2, 4, 5, 6, 8, 17, 18, 19, 42, 43, 44]) [4] (.seq (.reg [zb 45 .lss 44 43])
 (.seq (.cond (.t 45) (.skip) (.exit 2))
 (.seq (.blk 3 (.seq (.reg [zi 46 1 42 44,
 zl 47 1 46,
 zm 10 47])
  (.seq (.reg [zq 11 (.alc 4 1 (.bool false)),
 zr (.sto 1 (.t 11) (.c (.bool false)))])
  (.seq (.seq (.reg [zm 48 10,
 zq 49 (.call f_act_In [(.t 48)] [])])
  (.blk 4 (.rngf (.t 49) [50] (rest 74 [2, 4, 5, 6, 8, 11, 17, 18, 19, 42, 43, 44]) [] a_prune_Rests_4 b_prune_Rests_4)))
  (.seq (.reg [zl 66 1 11,
 zq 67 (.un .not (.t 66))])
  (.cond (.t 67) (.seq (.reg [zq 4 (.mov (.c .nils)),
 zo 5 false])
  (.ret)) (.skip)))))))
 (.reg [za 68 44 1,
 zm 44 68]))))
def l_prune_Rests_0 : C :=
 .loop (rest 74 [2, 4, 5, 6, 17, 18, 19]) [3, 4] (.seq (.reg [zb 20 .lss 19 18])
 (.seq (.cond (.t 20) (.skip) (.exit 0))
 (.seq (.blk 1 (.seq (.reg [zi 21 1 17 19,
 zl 22 1 21,
 zq 8 (.alc 3 1 (.int .i64 0)),
 zs 1 8 22])
  (.seq (.seq (.reg [zl 23 1 8,
 zq 24 (.bin .lss (.t 23) (.c (.int .i64 0))),
 zm 25 24,
 zlg 26 1 8 25 false,
 zlg 27 1 6 25 false,
 zg 28 (.lenl (.t 27)) 25 false,
 zg 29 (.bin .geq (.t 26) (.t 28)) 25 false,
 zy 30 25 29,
 zm 31 30,
 zlg 32 1 6 31 false,
 zlg 33 1 8 31 false,
 zg 34 (.iad 1 (.t 32) (.t 33)) 31 false,
 zlg 35 1 34 31 false,
 zy 36 31 35])
  (.cond (.t 36) (.seq (.reg [zq 4 (.mov (.c .nils)),
 zo 5 false])
  (.ret)) (.skip)))
  (.seq (.seq (.reg [zf 37 1 2,
 zl 38 1 37,
 zl 39 1 8,
 zi 40 2 38 39,
 zf 41 0 40,
 zl 42 1 41,
 zn 43 42,
 zk 44 0])
  (.blk 2 (l_prune_Rests_2)))
  (.reg [zl 69 1 6,
 zl 70 1 8,
 zi 71 1 69 70,
 zr (.sto 1 (.t 71) (.c (.bool true)))])))))
 (.reg [za 72 19 1,
 zm 19 72]))))
def c_prune_Rests : C :=
 .seq (.reg [zq 2 (.box 0 2 (.t 0)),
 zq 4 (.mov (.c .nils)),
 zo 5 false])
 (.seq (.reg [zf 13 1 2,
 zl 14 1 13,
 zn 15 14,
 zq 16 (.mks 1 1 1 (.bool false) (.t 15) (.t 15)),
 zq 6 (.alc 2 1 .nils),
 zs 1 6 16])
 (.seq (.seq (.reg [zm 17 1,
 zn 18 17,
 zk 19 0])
 (.blk 0 (l_prune_Rests_0)))
 (.seq (.reg [zl 73 1 6,
 zm 4 73,
 zo 5 true])
 (.ret))))
def s_prune_Rests : List Nat := [2, 16, 6, 8, 11]
def F_prune_Rests : IF := ⟨2, 74, 5, c_prune_Rests, [(4, none), (5, none)], true, false, false⟩
def l_r01_Name_0 : C :=
 .loop (rest 47 [0, 20, 21]) [] (.seq (.reg [zb 22 .lss 21 20])
 (.seq (.cond (.t 22) (.skip) (.exit 0))
 (.seq (.blk 1 (.seq (.reg [zm 23 21,
 zm 3 23])
  (.seq (.reg [zm 24 0,
 zm 25 3,
 zq 26 (.idx (.t 24) (.t 25)),
 zm 4 26])
  (.seq (.reg [zm 27 4,
 zq 28 (.call f_r01_letter [(.t 27)] []),
 zq 29 (.un .not (.t 28)),
 zm 30 29,
 zmg 31 4 30 true,
 zg 32 (.bin .lss (.t 31) (.c (.int .u8 48))) 30 true,
 zmg 33 32 30 true,
 zmg 34 4 33 false,
 zg 35 (.bin .gtr (.t 34) (.c (.int .u8 57))) 33 false,
 zg 36 (.pick (.t 33) (.c (.bool true)) (.t 35)) 30 true,
 zu 37 30 36,
 zm 38 37,
 zmg 39 4 38 true,
 zg 40 (.bin .neq (.t 39) (.c (.int .u8 45))) 38 true,
 zu 41 38 40,
 zm 42 41,
 zmg 43 4 42 true,
 zg 44 (.bin .neq (.t 43) (.c (.int .u8 95))) 42 true,
 zu 45 42 44])
  (.cond (.t 45) (.seq (.reg [zo 2 false])
   (.ret)) (.skip))))))
 (.reg [za 46 21 1,
 zm 21 46]))))
def c_r01_Name : C :=
 .seq (.reg [zo 2 false])
 (.seq (.seq (.reg [zm 5 0,
 zq 6 (.lens (.t 5)),
 zq 7 (.bin .lss (.t 6) (.c (.int .i64 1))),
 zm 8 7,
 zmg 9 0 8 false,
 zg 10 (.lens (.t 9)) 8 false,
 zg 11 (.bin .gtr (.t 10) (.c (.int .i64 20))) 8 false,
 zy 12 8 11,
 zm 13 12,
 zmg 14 0 13 false,
 zg 15 (.idx (.t 14) (.c (.int .i64 0))) 13 false,
 zg 16 (.call f_r01_letter [(.t 15)] []) 13 false,
 zg 17 (.un .not (.t 16)) 13 false,
 zy 18 13 17])
 (.cond (.t 18) (.seq (.reg [zo 2 false])
  (.ret)) (.skip)))
 (.seq (.seq (.reg [zm 19 0,
 zq 20 (.lens (.t 19)),
 zk 21 0])
 (.blk 0 (l_r01_Name_0)))
 (.seq (.reg [zo 2 true])
 (.ret))))
def s_r01_Name : List Nat := []
def F_r01_Name : IF := ⟨1, 47, 0, c_r01_Name, [(2, none)], true, false, false⟩
def l_r01_Index_0 : C :=
 .loop (rest 19 [1, 7, 8, 9]) [] (.seq (.reg [zb 10 .lss 9 8])
 (.seq (.cond (.t 10) (.skip) (.exit 0))
 (.seq (.blk 1 (.seq (.reg [zm 11 9,
 zi 12 1 7 9,
 zl 13 1 12,
 zm 5 11,
 zm 6 13])
  (.seq (.reg [zm 14 6,
 zm 15 1,
 zb 16 .eql 14 15])
  (.cond (.t 16) (.seq (.reg [zm 17 5,
 zm 4 17])
  (.ret)) (.skip)))))
 (.reg [za 18 9 1,
 zm 9 18]))))
def c_r01_Index : C :=
 .seq (.reg [zk 4 0])
 (.seq (.seq (.reg [zm 7 0,
 zn 8 7,
 zk 9 0])
 (.blk 0 (l_r01_Index_0)))
 (.seq (.reg [zk 4 (-1)])
 (.ret)))
def s_r01_Index : List Nat := []
def F_r01_Index : IF := ⟨2, 19, 0, c_r01_Index, [(4, none)], true, false, false⟩
def l_r01_Rising_0 : C :=
 .loop (rest 20 [0, 3]) [] (.seq (.seq (.reg [zm 4 3,
 zm 5 0,
 zn 6 5,
 zb 7 .lss 4 6])
 (.cond (.t 7) (.skip) (.exit 0)))
 (.seq (.blk 1 (.seq (.drw [zm 10 0,
 zm 11 3,
 zq 12 (.bin .sub (.t 11) (.c (.int .i64 1))),
 zi 13 1 10 12,
 zl 14 1 13,
 zm 15 0,
 zm 16 3,
 zi 17 1 15 16,
 zl 18 1 17,
 zb 19 .geq 14 18] [])
  (.cond (.t 19) (.seq (.reg [zo 2 false])
   (.ret)) (.skip))))
 (.reg [zm 8 3,
 za 9 8 1,
 zm 3 9])))
def c_r01_Rising : C :=
 .seq (.reg [zo 2 false])
 (.seq (.seq (.reg [zk 3 1])
 (.blk 0 (l_r01_Rising_0)))
 (.seq (.reg [zo 2 true])
 (.ret)))
def s_r01_Rising : List Nat := []
def F_r01_Rising : IF := ⟨1, 20, 0, c_r01_Rising, [(2, none)], true, false, false⟩
def c_r01_Set : C :=
 .seq (.reg [zo 4 false])
 (.seq (.reg [zm 5 1,
 zq 6 (.bin .geq (.t 5) (.c (.int .i64 0))),
 zm 7 6,
 zmg 8 1 7 true,
 zmg 9 0 7 true,
 zg 10 (.bin .shl (.c (.int .i64 1)) (.t 9)) 7 true,
 zg 11 (.bin .lss (.t 8) (.t 10)) 7 true,
 zu 12 7 11,
 zm 4 12])
 (.ret))
def s_r01_Set : List Nat := []
def F_r01_Set : IF := ⟨2, 13, 0, c_r01_Set, [(4, none)], true, false, false⟩
def l_r01_List_0 : C :=
 .loop (rest 20 [1, 5, 7, 8]) [0] (.seq (.reg [zb 9 .lss 8 7])
 (.seq (.cond (.t 9) (.skip) (.exit 0))
 (.seq (.blk 1 (.seq (.reg [zm 10 8,
 zm 6 10])
  (.seq (.reg [zm 11 1,
 zm 12 6,
 zq 13 (.call f_r01_Has [(.t 11), (.t 12)] [])])
  (.cond (.t 13) (.reg [zm 14 5,
 zm 15 6,
 zq 16 (.bsl 0 1 1 [(.t 15)]),
 zq 17 (.app 1 1 8 (.t 14) (.t 16)),
 zm 5 17]) (.skip)))))
 (.reg [za 18 8 1,
 zm 8 18]))))
def c_r01_List : C :=
 .seq (.reg [zq 4 (.mov (.c .nils))])
 (.seq (.reg [zq 5 (.mov (.c .nils))])
 (.seq (.seq (.reg [zm 7 0,
 zk 8 0])
 (.blk 0 (l_r01_List_0)))
 (.seq (.reg [zm 19 5,
 zm 4 19])
 (.ret))))
def s_r01_List : List Nat := [16, 17]
def F_r01_List : IF := ⟨2, 20, 2, c_r01_List, [(4, none)], true, false, false⟩
def l_r04_falls_0 : C :=
 .loop (rest 31 [1, 2, 10, 11, 12]) [] (.seq (.reg [zb 13 .lss 12 11])
 (.seq (.cond (.t 13) (.skip) (.exit 0))
 (.seq (.blk 1 (.seq (.reg [zm 14 12,
 zi 15 1 10 12,
 zl 16 1 15,
 zm 7 14,
 zm 8 16])
  (.seq (.reg [zm 17 8,
 zq 18 (.bin .geq (.t 17) (.c (.int .i64 0))),
 zm 19 18,
 zmg 20 1 19 true,
 zmg 21 7 19 true,
 zg 22 (.call f_r01_Has [(.t 20), (.t 21)] []) 19 true,
 zu 23 19 22,
 zm 24 23,
 zmg 25 2 24 true,
 zmg 26 8 24 true,
 zg 27 (.iad 1 (.t 25) (.t 26)) 24 true,
 zlg 28 1 27 24 true,
 zu 29 24 28])
  (.cond (.t 29) (.seq (.reg [zo 6 true])
   (.ret)) (.skip)))))
 (.reg [za 30 12 1,
 zm 12 30]))))
def c_r04_falls : C :=
 .seq (.reg [zq 3 (.box 0 2 (.t 0)),
 zo 6 false])
 (.seq (.seq (.reg [zf 9 1 3,
 zl 10 1 9,
 zn 11 10,
 zk 12 0])
 (.blk 0 (l_r04_falls_0)))
 (.seq (.reg [zo 6 false])
 (.ret)))
def s_r04_falls : List Nat := [3]
def F_r04_falls : IF := ⟨3, 31, 1, c_r04_falls, [(6, none)], true, false, false⟩
def c_r01_Has : C :=
 .seq (.reg [zo 4 false])
 (.seq (.reg [zm 5 0,
 zm 6 1,
 zb 7 .shr 5 6,
 zq 8 (.bin .and (.t 7) (.c (.int .i64 1))),
 zq 9 (.bin .eql (.t 8) (.c (.int .i64 1))),
 zm 4 9])
 (.ret))
def s_r01_Has : List Nat := []
def F_r01_Has : IF := ⟨2, 10, 0, c_r01_Has, [(4, none)], true, false, false⟩
def l_act_Valid_0 : C :=
 .loop (rest 26 [0, 8, 9, 10]) [] (.seq (.reg [zb 11 .lss 10 9])
 (.seq (.cond (.t 11) (.skip) (.exit 0))
 (.seq (.blk 1 (.seq (.reg [zm 12 10,
 zi 13 1 8 10,
 zl 14 1 13,
 zm 3 12,
 zm 4 14])
  (.seq (.reg [zm 15 4,
 zq 16 (.call f_act_Name [(.t 15)] []),
 zq 17 (.un .not (.t 16)),
 zm 18 17,
 zmg 19 0 18 false,
 zmg 20 3 18 false,
 zg 21 (.sli 1 (.t 19) none (some (.t 20)) none) 18 false,
 zmg 22 4 18 false,
 zg 23 (.call f_slices_ContainsZsgsg [(.t 21), (.t 22)] []) 18 false,
 zy 24 18 23])
  (.cond (.t 24) (.seq (.reg [zo 2 false])
   (.ret)) (.skip)))))
 (.reg [za 25 10 1,
 zm 10 25]))))
def c_act_Valid : C :=
 .seq (.reg [zo 2 false])
 (.seq (.seq (.reg [zm 5 0,
 zn 6 5,
 zq 7 (.bin .gtr (.t 6) (.c (.int .i64 8)))])
 (.cond (.t 7) (.seq (.reg [zo 2 false])
  (.ret)) (.skip)))
 (.seq (.seq (.reg [zm 8 0,
 zn 9 8,
 zk 10 0])
 (.blk 0 (l_act_Valid_0)))
 (.seq (.reg [zo 2 true])
 (.ret))))
def s_act_Valid : List Nat := []
def F_act_Valid : IF := ⟨1, 26, 0, c_act_Valid, [(2, none)], true, false, false⟩
def c_slices_CloneZsgsg : C :=
 .seq (.reg [zq 2 (.mov (.c .nils))])
 (.seq (.seq (.reg [zm 3 0,
 zq 4 (.nilc false (.t 3) (.c .nils))])
 (.cond (.t 4) (.seq (.reg [zq 2 (.mov (.c .nils))])
  (.ret)) (.skip)))
 (.seq (.reg [zq 5 (.bsl 0 1 0 []),
 zm 6 0,
 zq 7 (.app 1 1 16 (.t 5) (.t 6)),
 zm 2 7])
 (.ret)))
def s_slices_CloneZsgsg : List Nat := [5, 7]
def F_slices_CloneZsgsg : IF := ⟨1, 8, 2, c_slices_CloneZsgsg, [(2, none)], true, true, true⟩
def c_prune_Left : C :=
 .seq (.reg [zq 1 (.box 0 2 (.t 0)),
 zq 2 (.mov (.c .nilf))])
 (.seq (.reg [zq 3 (.mkf f_prune_Left_1 [(.t 1)]),
 zm 2 3])
 (.ret))
def s_prune_Left : List Nat := [1]
def F_prune_Left : IF := ⟨1, 4, 1, c_prune_Left, [(2, none)], true, false, false⟩
def c_spec_Nothing : C :=
 .seq (.reg [zq 2 (.alc 0 2 (.agg [.nils, .nils]))])
 (.seq (.reg [zm 3 0,
 zq 4 (.call f_slices_CloneZsgsg [(.t 3)] []),
 zq 5 (.bsl 1 1 1 [(.c (.int .i64 (-1)))]),
 zm 6 0,
 zn 7 6,
 zq 8 (.call f_slices_RepeatZitit [(.t 5), (.t 7)] [2]),
 zq 9 (.bld [.nils, .nils] [(1, 1, (.t 8))]),
 zq 10 (.bsl 3 2 1 [(.t 9)]),
 zq 11 (.bld [.nils, .nils] [(0, 1, (.t 4)), (1, 1, (.t 10))]),
 zs 2 2 11])
 (.ret))
def s_spec_Nothing : List Nat := [2, 5, 8, 10]
def F_spec_Nothing : IF := ⟨1, 12, 4, c_spec_Nothing, [(2, some (true, 2))], true, false, false⟩
def l_slices_Repeat___int_int__0 : C :=
 .loop (rest 48 [7, 8]) [] (.seq (.seq (.reg [zm 34 8,
 zm 35 7,
 zn 36 35,
 zb 37 .lss 34 36])
 (.cond (.t 37) (.skip) (.exit 0)))
 (.blk 1 (.drw [zm 38 8,
 zm 39 7,
 zm 40 8,
 zq 41 (.sli 1 (.t 39) (some (.t 40)) none none),
 zm 42 7,
 zm 43 8,
 zq 44 (.sli 1 (.t 42) none (some (.t 43)) none),
 zq 45 (.cpy (.t 41) (.t 44)),
 zb 46 .add 38 45,
 zm 8 46] [])))
def c_slices_RepeatZitit : C :=
 .seq (.reg [zq 4 (.mov (.c .nils))])
 (.seq (.seq (.reg [zm 9 1,
 zq 10 (.bin .lss (.t 9) (.c (.int .i64 0)))])
 (.cond (.t 10) (.reg [zq 11 (.bad),
 zr (.bad)]) (.skip)))
 (.seq (.reg [zm 13 0,
 zn 14 13,
 zq 15 (.cvi .u64 (.t 14)),
 zm 16 1,
 zq 17 (.cvi .u64 (.t 16)),
 zq 18 (.call f_math_bits_Mul [(.t 15), (.t 17)] []),
 zm 12 18,
 zq 19 (.ext (.t 12) 0),
 zq 20 (.ext (.t 12) 1),
 zm 5 19,
 zm 6 20])
 (.seq (.seq (.reg [zm 21 5,
 zq 22 (.bin .gtr (.t 21) (.c (.int .u64 0))),
 zm 23 22,
 zmg 24 6 23 false,
 zg 25 (.bin .gtr (.t 24) (.c (.int .u64 9223372036854775807))) 23 false,
 zy 26 23 25])
 (.cond (.t 26) (.reg [zq 27 (.bad),
 zr (.bad)]) (.skip)))
 (.seq (.reg [zm 28 6,
 zq 29 (.cvi .i64 (.t 28)),
 zq 30 (.mks 0 1 8 (.int .i64 0) (.t 29) (.t 29)),
 zm 7 30])
 (.seq (.reg [zm 31 7,
 zm 32 0,
 zq 33 (.cpy (.t 31) (.t 32)),
 zm 8 33])
 (.seq (.blk 0 (l_slices_Repeat___int_int__0))
 (.seq (.reg [zm 47 7,
 zm 4 47])
 (.ret))))))))
def s_slices_RepeatZitit : List Nat := [30]
def F_slices_RepeatZitit : IF := ⟨2, 48, 1, c_slices_RepeatZitit, [(4, none)], true, true, false⟩
def c_act_In : C :=
 .seq (.reg [zq 1 (.box 0 1 (.t 0)),
 zq 2 (.mov (.c .nilf))])
 (.seq (.reg [zq 3 (.mkf f_act_In_1 [(.t 1)]),
 zm 2 3])
 (.ret))
def s_act_In : List Nat := [1]
def F_act_In : IF := ⟨1, 4, 1, c_act_In, [(2, none)], true, false, false⟩
def c_slices_ContainsZitit : C :=
 .seq (.reg [zo 4 false])
 (.seq (.reg [zm 5 0,
 zm 6 1,
 zq 7 (.call f_slices_IndexZitit [(.t 5), (.t 6)] []),
 zq 8 (.bin .geq (.t 7) (.c (.int .i64 0))),
 zm 4 8])
 (.ret))
def s_slices_ContainsZitit : List Nat := []
def F_slices_ContainsZitit : IF := ⟨2, 9, 0, c_slices_ContainsZitit, [(4, none)], true, false, false⟩
def c_slices_SortFuncZaiEeai : C :=
 .seq (.reg [zm 5 0,
 zn 6 5,
 zm 4 6])
 (.reg [zm 7 0,
 zm 8 4,
 zm 9 4,
 zq 10 (.cvi .u64 (.t 9)),
 zq 11 (.call f_math_bits_Len [(.t 10)] []),
 zm 12 1,
 zq 13 (.call f_slices_pdqsortCmpFunc_api_Edge_ [(.t 7), (.c (.int .i64 0)), (.t 8), (.t 11), (.t 12)] [])])
def s_slices_SortFuncZaiEeai : List Nat := []
def F_slices_SortFuncZaiEeai : IF := ⟨2, 14, 0, c_slices_SortFuncZaiEeai, [], true, false, false⟩
def c_prune_Witness_1 : C :=
 .seq (.reg [zq 2 (.box 0 2 (.t 0)),
 zq 3 (.box 1 2 (.t 1)),
 zk 4 0])
 (.seq (.seq (.reg [zf 5 0 2,
 zl 6 1 5,
 zf 7 0 3,
 zl 8 1 7,
 zb 9 .neq 6 8])
 (.cond (.t 9) (.seq (.reg [zf 10 0 2,
 zl 11 1 10,
 zf 12 0 3,
 zl 13 1 12,
 zb 14 .sub 11 13,
 zm 4 14])
  (.ret)) (.skip)))
 (.seq (.reg [zf 15 1 2,
 zl 16 1 15,
 zf 17 1 3,
 zl 18 1 17,
 zb 19 .sub 16 18,
 zm 4 19])
 (.ret)))
def s_prune_Witness_1 : List Nat := [2, 3]
def F_prune_Witness_1 : IF := ⟨2, 20, 2, c_prune_Witness_1, [(4, none)], true, false, false⟩
def l_slices_pdqsortOrdered_int__0 : C :=
 .loop (rest 134 [0, 1, 2, 3, 8, 9]) [] (.blk 1 (.seq (.reg [zm 19 2,
 zm 20 1,
 zb 21 .sub 19 20,
 zm 10 21])
  (.seq (.seq (.reg [zm 22 10,
 zq 23 (.bin .leq (.t 22) (.c (.int .i64 12)))])
  (.cond (.t 23) (.seq (.reg [zm 24 0,
 zm 25 1,
 zm 26 2,
 zq 27 (.call f_slices_insertionSortOrdered_int_ [(.t 24), (.t 25), (.t 26)] [])])
  (.ret)) (.skip)))
  (.seq (.seq (.reg [zm 28 3,
 zq 29 (.bin .eql (.t 28) (.c (.int .i64 0)))])
  (.cond (.t 29) (.seq (.reg [zm 30 0,
 zm 31 1,
 zm 32 2,
 zq 33 (.call f_slices_heapSortOrdered_int_ [(.t 30), (.t 31), (.t 32)] [])])
  (.ret)) (.skip)))
  (.seq (.seq (.reg [zm 34 8,
 zq 35 (.un .not (.t 34))])
  (.cond (.t 35) (.seq (.reg [zm 36 0,
 zm 37 1,
 zm 38 2,
 zq 39 (.call f_slices_breakPatternsOrdered_int_ [(.t 36), (.t 37), (.t 38)] [])])
  (.reg [zm 40 3,
 zq 41 (.bin .sub (.t 40) (.c (.int .i64 1))),
 zm 3 41])) (.skip)))
  (.seq (.reg [zm 43 0,
 zm 44 1,
 zm 45 2,
 zq 46 (.call f_slices_choosePivotOrdered_int_ [(.t 43), (.t 44), (.t 45)] []),
 zm 42 46,
 zq 47 (.ext (.t 42) 0),
 zq 48 (.ext (.t 42) 1),
 zm 11 47,
 zm 12 48])
  (.seq (.seq (.reg [zm 49 12,
 zq 50 (.bin .eql (.t 49) (.c (.int .i64 2)))])
  (.cond (.t 50) (.seq (.reg [zm 51 0,
 zm 52 1,
 zm 53 2,
 zq 54 (.call f_slices_reverseRangeOrdered_int_ [(.t 51), (.t 52), (.t 53)] [])])
  (.seq (.reg [zm 55 2,
 zq 56 (.bin .sub (.t 55) (.c (.int .i64 1))),
 zm 57 11,
 zm 58 1,
 zb 59 .sub 57 58,
 zb 60 .sub 56 59,
 zm 11 60])
  (.reg [zk 12 1]))) (.skip)))
  (.seq (.seq (.reg [zm 61 8,
 zm 62 61,
 zmg 63 9 62 true,
 zu 64 62 63,
 zm 65 64,
 zmg 66 12 65 true,
 zg 67 (.bin .eql (.t 66) (.c (.int .i64 1))) 65 true,
 zu 68 65 67])
  (.cond (.t 68) (.seq (.reg [zm 69 0,
 zm 70 1,
 zm 71 2,
 zq 72 (.call f_slices_partialInsertionSortOrdered_int_ [(.t 69), (.t 70), (.t 71)] [])])
  (.cond (.t 72) (.ret) (.skip))) (.skip)))
  (.seq (.seq (.drw [zm 73 1,
 zq 74 (.bin .gtr (.t 73) (.c (.int .i64 0))),
 zm 75 74,
 zmg 76 0 75 true,
 zmg 77 1 75 true,
 zg 78 (.bin .sub (.t 77) (.c (.int .i64 1))) 75 true,
 zg 79 (.iad 1 (.t 76) (.t 78)) 75 true,
 zlg 80 1 79 75 true,
 zmg 81 0 75 true,
 zmg 82 11 75 true,
 zg 83 (.iad 1 (.t 81) (.t 82)) 75 true,
 zlg 84 1 83 75 true,
 zg 85 (.call f_cmp_Less_int_ [(.t 80), (.t 84)] []) 75 true,
 zg 86 (.un .not (.t 85)) 75 true,
 zu 87 75 86] [])
  (.cond (.t 87) (.seq (.reg [zm 88 0,
 zm 89 1,
 zm 90 2,
 zm 91 11,
 zq 92 (.call f_slices_partitionEqualOrdered_int_ [(.t 88), (.t 89), (.t 90), (.t 91)] []),
 zm 13 92])
  (.seq (.reg [zm 93 13,
 zm 1 93])
  (.exit 1))) (.skip)))
  (.seq (.reg [zm 95 0,
 zm 96 1,
 zm 97 2,
 zm 98 11,
 zq 99 (.call f_slices_partitionOrdered_int_ [(.t 95), (.t 96), (.t 97), (.t 98)] []),
 zm 94 99,
 zq 100 (.ext (.t 94) 0),
 zq 101 (.ext (.t 94) 1),
 zm 14 100,
 zm 15 101])
  (.seq (.reg [zm 102 15,
 zm 9 102])
  (.seq (.reg [zm 103 14,
 zm 104 1,
 zb 105 .sub 103 104,
 zm 106 2,
 zm 107 14,
 zb 108 .sub 106 107,
 zm 16 105,
 zm 17 108])
  (.seq (.reg [zm 109 10,
 zq 110 (.bin .quo (.t 109) (.c (.int .i64 8))),
 zm 18 110])
  (.seq (.reg [zm 111 16,
 zm 112 17,
 zb 113 .lss 111 112])
  (.cond (.t 113) (.seq (.reg [zm 114 16,
 zm 115 18,
 zb 116 .geq 114 115,
 zm 8 116])
  (.seq (.reg [zm 117 0,
 zm 118 1,
 zm 119 14,
 zm 120 3,
 zq 121 (.call f_slices_pdqsortOrdered_int_ [(.t 117), (.t 118), (.t 119), (.t 120)] [])])
  (.reg [zm 122 14,
 za 123 122 1,
 zm 1 123]))) (.seq (.reg [zm 124 17,
 zm 125 18,
 zb 126 .geq 124 125,
 zm 8 126])
  (.seq (.reg [zm 127 0,
 zm 128 14,
 za 129 128 1,
 zm 130 2,
 zm 131 3,
 zq 132 (.call f_slices_pdqsortOrdered_int_ [(.t 127), (.t 129), (.t 130), (.t 131)] [])])
  (.reg [zm 133 14,
 zm 2 133]))))))))))))))))))
def c_slices_pdqsortOrdered_int_ : C :=
 .seq (.reg [zo 8 true])
 (.seq (.reg [zo 9 true])
 (.blk 0 (l_slices_pdqsortOrdered_int__0)))
def s_slices_pdqsortOrdered_int_ : List Nat := []
def F_slices_pdqsortOrdered_int_ : IF := ⟨4, 134, 0, c_slices_pdqsortOrdered_int_, [], false, false, false⟩
def c_math_bits_Len : C :=
 .seq (.reg [zk 2 0])
 (.seq (.cond (.c (.bool false)) (.seq (.reg [zm 3 0,
 zq 4 (.cvi .u32 (.t 3)),
 zq 5 (.call f_math_bits_Len32 [(.t 4)] []),
 zm 2 5])
  (.ret)) (.skip))
 (.seq (.reg [zm 6 0,
 zq 7 (.call f_math_bits_Len64 [(.t 6)] []),
 zm 2 7])
 (.ret)))
def s_math_bits_Len : List Nat := []
def F_math_bits_Len : IF := ⟨1, 8, 0, c_math_bits_Len, [(2, none)], true, false, false⟩
def l_prune_rungs_1_0 : C :=
 .loop (rest 59 [0, 1, 3, 4, 5, 15, 16, 17]) [0, 1] (.seq (.reg [zb 18 .lss 17 16])
 (.seq (.cond (.t 18) (.skip) (.exit 0))
 (.seq (.blk 1 (.seq (.reg [zm 19 17,
 zi 20 1 15 17,
 zl 21 1 20,
 zm 8 19,
 zm 9 21])
  (.seq (.reg [zm 22 9,
 zm 23 1,
 zb 24 .shr 22 23,
 zq 25 (.bin .and (.t 24) (.c (.int .i64 1))),
 zq 26 (.bin .eql (.t 25) (.c (.int .i64 1))),
 zm 27 26,
 zlg 28 1 3 27 true,
 zmg 29 0 27 true,
 zg 30 (.iad 1 (.t 28) (.t 29)) 27 true,
 zlg 31 1 30 27 true,
 zmg 32 8 27 true,
 zg 33 (.iad 1 (.t 31) (.t 32)) 27 true,
 zlg 34 1 33 27 true,
 zg 35 (.un .not (.t 34)) 27 true,
 zu 36 27 35])
  (.cond (.t 36) (.seq (.reg [zl 37 1 3,
 zm 38 0,
 zi 39 1 37 38,
 zl 40 1 39,
 zm 41 8,
 zi 42 1 40 41,
 zr (.sto 1 (.t 42) (.c (.bool true)))])
  (.seq (.reg [zl 43 1 4,
 zm 44 0,
 zi 45 1 43 44,
 zl 46 1 45,
 zq 47 (.bin .sub (.t 46) (.c (.int .i64 1))),
 zi 48 1 43 44,
 zs 1 48 47])
  (.seq (.reg [zl 49 1 4,
 zm 50 0,
 zi 51 1 49 50,
 zl 52 1 51,
 zq 53 (.bin .eql (.t 52) (.c (.int .i64 0)))])
  (.cond (.t 53) (.reg [zl 54 1 5,
 zm 55 0,
 zq 56 (.bsl 0 1 1 [(.t 55)]),
 zq 57 (.app 1 1 8 (.t 54) (.t 56)),
 zs 1 5 57]) (.skip))))) (.skip)))))
 (.reg [za 58 17 1,
 zm 17 58]))))
def c_prune_rungs_1 : C :=
 .seq (.reg [zf 10 1 2,
 zl 11 1 10,
 zm 12 0,
 zi 13 2 11 12,
 zf 14 0 13,
 zl 15 1 14,
 zn 16 15,
 zk 17 0])
 (.blk 0 (l_prune_rungs_1_0))
def s_prune_rungs_1 : List Nat := [56, 57]
def F_prune_rungs_1 : IF := ⟨6, 59, 2, c_prune_rungs_1, [], false, false, false⟩
def c_r01_letter : C :=
 .seq (.reg [zo 2 false])
 (.seq (.reg [zm 3 0,
 zq 4 (.bin .geq (.t 3) (.c (.int .u8 97))),
 zm 5 4,
 zmg 6 0 5 true,
 zg 7 (.bin .leq (.t 6) (.c (.int .u8 122))) 5 true,
 zu 8 5 7,
 zm 9 8,
 zmg 10 0 9 false,
 zg 11 (.bin .geq (.t 10) (.c (.int .u8 65))) 9 false,
 zmg 12 11 9 false,
 zmg 13 0 12 true,
 zg 14 (.bin .leq (.t 13) (.c (.int .u8 90))) 12 true,
 zg 15 (.pick (.t 12) (.t 14) (.c (.bool false))) 9 false,
 zy 16 9 15,
 zm 2 16])
 (.ret))
def s_r01_letter : List Nat := []
def F_r01_letter : IF := ⟨1, 17, 0, c_r01_letter, [(2, none)], true, false, false⟩
def l_act_Name_0 : C :=
 .loop (rest 46 [0, 19, 20]) [] (.seq (.reg [zb 21 .lss 20 19])
 (.seq (.cond (.t 21) (.skip) (.exit 0))
 (.seq (.blk 1 (.seq (.reg [zm 22 20,
 zm 3 22])
  (.seq (.reg [zm 23 0,
 zm 24 3,
 zq 25 (.idx (.t 23) (.t 24)),
 zm 4 25])
  (.seq (.reg [zm 26 4,
 zq 27 (.call f_act_letter [(.t 26)] []),
 zq 28 (.un .not (.t 27)),
 zm 29 28,
 zmg 30 4 29 true,
 zg 31 (.bin .lss (.t 30) (.c (.int .u8 48))) 29 true,
 zmg 32 31 29 true,
 zmg 33 4 32 false,
 zg 34 (.bin .gtr (.t 33) (.c (.int .u8 57))) 32 false,
 zg 35 (.pick (.t 32) (.c (.bool true)) (.t 34)) 29 true,
 zu 36 29 35,
 zm 37 36,
 zmg 38 4 37 true,
 zg 39 (.bin .neq (.t 38) (.c (.int .u8 45))) 37 true,
 zu 40 37 39,
 zm 41 40,
 zmg 42 4 41 true,
 zg 43 (.bin .neq (.t 42) (.c (.int .u8 95))) 41 true,
 zu 44 41 43])
  (.cond (.t 44) (.seq (.reg [zo 2 false])
   (.ret)) (.skip))))))
 (.reg [za 45 20 1,
 zm 20 45]))))
def c_act_Name : C :=
 .seq (.reg [zo 2 false])
 (.seq (.seq (.reg [zm 5 0,
   ⟨some 6, .bin .eql (.t 5) (.c (.str ⟨#[]⟩)), none⟩,
 zm 7 6,
 zmg 8 0 7 false,
 zg 9 (.lens (.t 8)) 7 false,
 zg 10 (.bin .gtr (.t 9) (.c (.int .i64 20))) 7 false,
 zy 11 7 10,
 zm 12 11,
 zmg 13 0 12 false,
 zg 14 (.idx (.t 13) (.c (.int .i64 0))) 12 false,
 zg 15 (.call f_act_letter [(.t 14)] []) 12 false,
 zg 16 (.un .not (.t 15)) 12 false,
 zy 17 12 16])
 (.cond (.t 17) (.seq (.reg [zo 2 false])
  (.ret)) (.skip)))
 (.seq (.seq (.reg [zm 18 0,
 zq 19 (.lens (.t 18)),
 zk 20 0])
 (.blk 0 (l_act_Name_0)))
 (.seq (.reg [zo 2 true])
 (.ret))))
def s_act_Name : List Nat := []
def F_act_Name : IF := ⟨1, 46, 0, c_act_Name, [(2, none)], true, false, false⟩
def c_slices_ContainsZsgsg : C :=
 .seq (.reg [zo 4 false])
 (.seq (.reg [zm 5 0,
 zm 6 1,
 zq 7 (.call f_slices_IndexZsgsg [(.t 5), (.t 6)] []),
 zq 8 (.bin .geq (.t 7) (.c (.int .i64 0))),
 zm 4 8])
 (.ret))
def s_slices_ContainsZsgsg : List Nat := []
def F_slices_ContainsZsgsg : IF := ⟨2, 9, 0, c_slices_ContainsZsgsg, [(4, none)], true, false, false⟩
def a_prune_Left_1_4 : C :=
 .reg [zm 13 51]
def b_prune_Left_1_4 : C :=
 .blk 5 (.drw [zl 52 1 12,
 zm 53 52,
 zlg 54 1 3 53 true,
 zfg 55 1 7 53 true,
 zlg 56 1 55 53 true,
 zmg 57 13 53 true,
 zg 58 (.iad 1 (.t 56) (.t 57)) 53 true,
 zlg 59 1 58 53 true,
 zg 60 (.iad 1 (.t 54) (.t 59)) 53 true,
 zlg 61 1 60 53 true,
 zg 62 (.un .not (.t 61)) 53 true,
 zu 63 53 62,
 zs 1 12 63] [])
def l_prune_Left_1_2 : C :=
 .loop (rest 101 [0, 1, 3, 4, 5, 6, 7, 8, 9, 43, 44, 45]) [6, 7] (.seq (.reg [zb 46 .lss 45 44])
 (.seq (.cond (.t 46) (.skip) (.exit 2))
 (.seq (.blk 3 (.seq (.reg [zi 47 1 43 45,
 zl 48 1 47,
 zm 11 48])
  (.seq (.reg [zq 12 (.alc 6 1 (.bool false)),
 zr (.sto 1 (.t 12) (.c (.bool true)))])
  (.seq (.seq (.reg [zm 49 11,
 zq 50 (.call f_act_In [(.t 49)] [])])
  (.blk 4 (.rngf (.t 50) [51] (rest 101 [0, 1, 3, 4, 5, 6, 7, 8, 9, 11, 12, 43, 44, 45]) [] a_prune_Left_1_4 b_prune_Left_1_4)))
  (.seq (.reg [zl 64 1 12])
  (.cond (.t 64) (.seq (.reg [zm 65 8,
 zm 66 11,
 zq 67 (.bsl 7 1 1 [(.t 66)]),
 zq 68 (.app 8 1 8 (.t 65) (.t 67)),
 zm 8 68])
  (.reg [zm 69 9,
 zm 70 11,
 zb 71 .or 69 70,
 zm 9 71])) (.skip)))))))
 (.reg [za 72 45 1,
 zm 45 72]))))
def a_prune_Left_1_6 : C :=
 .reg [zm 14 75]
def b_prune_Left_1_6 : C :=
 .blk 7 (.seq (.reg [zf 76 1 7,
 zl 77 1 76,
 zm 78 14,
 zi 79 1 77 78,
 zl 80 1 79,
 zm 15 80])
  (.seq (.reg [zl 81 1 4,
 zm 82 15,
 zi 83 1 81 82,
 zl 84 1 83,
 zq 85 (.un .not (.t 84))])
  (.cond (.t 85) (.seq (.reg [zl 86 1 4,
 zm 87 15,
 zi 88 1 86 87,
 zr (.sto 1 (.t 88) (.c (.bool true)))])
  (.reg [zl 89 1 5,
 zm 90 15,
 zq 91 (.bsl 9 1 1 [(.t 90)]),
 zq 92 (.app 10 1 8 (.t 89) (.t 91)),
 zs 1 5 92])) (.skip))))
def l_prune_Left_1_0 : C :=
 .loop (rest 101 [0, 1, 3, 4, 5, 6]) [5, 6, 7, 8, 9, 10] (.seq (.seq (.reg [zm 28 6,
 zl 29 1 5,
 zn 30 29,
 zb 31 .lss 28 30])
 (.cond (.t 31) (.skip) (.exit 0)))
 (.seq (.blk 1 (.seq (.drw [zf 34 1 1,
 zl 35 1 34,
 zl 36 1 5,
 zm 37 6,
 zi 38 1 36 37,
 zl 39 1 38,
 zi 40 2 35 39,
 zL 41 2 40,
 zq 7 (.alc 5 2 (.agg [.nils, .nils])),
 zs 2 7 41] [(0, 8), (1, 8), (2, 8), (4, 8), (5, 8), (6, 8), (7, 8)])
  (.seq (.reg [zq 8 (.mov (.c .nils))])
  (.seq (.reg [zk 9 0])
  (.seq (.seq (.reg [zf 42 0 7,
 zl 43 1 42,
 zn 44 43,
 zk 45 0])
  (.blk 2 (l_prune_Left_1_2)))
  (.seq (.seq (.reg [zm 73 9,
 zq 74 (.call f_act_In [(.t 73)] [])])
  (.blk 6 (.rngf (.t 74) [75] (rest 101 [0, 1, 3, 4, 5, 6, 7, 8]) [9, 10] a_prune_Left_1_6 b_prune_Left_1_6)))
  (.seq (.reg [zm 93 0,
 zl 94 1 5,
 zm 95 6,
 zi 96 1 94 95,
 zl 97 1 96,
 zm 98 8,
 zq 99 (.calv (.t 93) [(.t 97), (.t 98)] []),
 zq 100 (.un .not (.t 99))])
  (.cond (.t 100) (.ret) (.skip)))))))))
 (.reg [zm 32 6,
 za 33 32 1,
 zm 6 33])))
def c_prune_Left_1 : C :=
 .seq (.reg [zL 16 2 1,
 zq 17 (.call f_prune_Hollows [(.t 16)] []),
 zq 3 (.alc 0 1 .nils),
 zs 1 3 17])
 (.seq (.seq (.reg [zl 18 1 3,
 zq 19 (.iad 1 (.t 18) (.c (.int .i64 0))),
 zl 20 1 19])
 (.cond (.t 20) (.ret) (.skip)))
 (.seq (.reg [zf 21 1 1,
 zl 22 1 21,
 zn 23 22,
 zq 24 (.mks 1 1 1 (.bool false) (.t 23) (.t 23)),
 zq 4 (.alc 2 1 .nils),
 zs 1 4 24])
 (.seq (.reg [zl 25 1 4,
 zq 26 (.iad 1 (.t 25) (.c (.int .i64 0))),
 zr (.sto 1 (.t 26) (.c (.bool true)))])
 (.seq (.reg [zq 27 (.bsl 3 1 1 [(.c (.int .i64 0))]),
 zq 5 (.alc 4 1 .nils),
 zs 1 5 27])
 (.seq (.reg [zk 6 0])
 (.blk 0 (l_prune_Left_1_0)))))))
def s_prune_Left_1 : List Nat := [3, 24, 4, 27, 5, 7, 12, 67, 68, 91, 92]
def F_prune_Left_1 : IF := ⟨2, 101, 11, c_prune_Left_1, [], false, false, false⟩
def l_prune_Hollows_0 : C :=
 .loop (rest 22 [3, 11, 12, 13]) [] (.seq (.reg [zb 14 .lss 13 12])
 (.seq (.cond (.t 14) (.skip) (.exit 0))
 (.seq (.blk 1 (.seq (.reg [zi 15 1 11 13,
 zl 16 1 15,
 zm 5 16])
  (.reg [zm 17 3,
 zm 18 5,
 zi 19 1 17 18,
 zr (.sto 1 (.t 19) (.c (.bool true)))])))
 (.reg [za 20 13 1,
 zm 13 20]))))
def c_prune_Hollows : C :=
 .seq (.reg [zq 1 (.box 0 2 (.t 0)),
 zq 2 (.mov (.c .nils))])
 (.seq (.reg [zf 6 1 1,
 zl 7 1 6,
 zn 8 7,
 zq 9 (.mks 1 1 1 (.bool false) (.t 8) (.t 8)),
 zm 3 9])
 (.seq (.seq (.reg [zL 10 2 1,
 zq 11 (.call f_prune_rungs [(.t 10)] []),
 zn 12 11,
 zk 13 0])
 (.blk 0 (l_prune_Hollows_0)))
 (.seq (.reg [zm 21 3,
 zm 2 21])
 (.ret))))
def s_prune_Hollows : List Nat := [1, 9]
def F_prune_Hollows : IF := ⟨1, 22, 2, c_prune_Hollows, [(2, none)], true, false, false⟩
def c_math_bits_Mul : C :=
 .seq (.reg [zq 4 (.mov (.c (.int .u64 0))),
 zq 5 (.mov (.c (.int .u64 0)))])
 (.seq (.cond (.c (.bool false)) (.seq (.reg [zm 11 0,
 zq 12 (.cvi .u32 (.t 11)),
 zm 13 1,
 zq 14 (.cvi .u32 (.t 13)),
 zq 15 (.call f_math_bits_Mul32 [(.t 12), (.t 14)] []),
 zm 10 15,
 zq 16 (.ext (.t 10) 0),
 zq 17 (.ext (.t 10) 1),
 zm 6 16,
 zm 7 17])
  (.seq (.reg [zm 18 6,
 zq 19 (.cvi .u64 (.t 18)),
 zm 20 7,
 zq 21 (.cvi .u64 (.t 20)),
 zm 4 19,
 zm 5 21])
  (.ret))) (.skip))
 (.seq (.reg [zm 23 0,
 zm 24 1,
 zq 25 (.call f_math_bits_Mul64 [(.t 23), (.t 24)] []),
 zm 22 25,
 zq 26 (.ext (.t 22) 0),
 zq 27 (.ext (.t 22) 1),
 zm 8 26,
 zm 9 27])
 (.seq (.reg [zm 28 8,
 zm 29 9,
 zm 4 28,
 zm 5 29])
 (.ret))))
def s_math_bits_Mul : List Nat := []
def F_math_bits_Mul : IF := ⟨2, 30, 0, c_math_bits_Mul, [(4, none), (5, none)], true, false, false⟩
def l_act_In_1_0 : C :=
 .loop (rest 21 [0, 1, 3]) [] (.seq (.seq (.reg [zl 4 1 1,
 zm 5 3,
 zb 6 .shr 4 5,
 zq 7 (.bin .gtr (.t 6) (.c (.int .i64 0)))])
 (.cond (.t 7) (.skip) (.exit 0)))
 (.seq (.blk 1 (.seq (.reg [zl 10 1 1,
 zm 11 3,
 zb 12 .shr 10 11,
 zq 13 (.bin .and (.t 12) (.c (.int .i64 1))),
 zq 14 (.bin .eql (.t 13) (.c (.int .i64 1))),
 zm 15 14,
 zmg 16 0 15 true,
 zmg 17 3 15 true,
 zg 18 (.calv (.t 16) [(.t 17)] []) 15 true,
 zg 19 (.un .not (.t 18)) 15 true,
 zu 20 15 19])
  (.cond (.t 20) (.ret) (.skip))))
 (.reg [zm 8 3,
 za 9 8 1,
 zm 3 9])))
def c_act_In_1 : C :=
 .seq (.reg [zk 3 0])
 (.blk 0 (l_act_In_1_0))
def s_act_In_1 : List Nat := []
def F_act_In_1 : IF := ⟨2, 21, 0, c_act_In_1, [], false, false, false⟩
def l_slices_Index___int_int__0 : C :=
 .loop (rest 19 [0, 1, 7, 8]) [] (.seq (.reg [zb 9 .lss 8 7])
 (.seq (.cond (.t 9) (.skip) (.exit 0))
 (.seq (.blk 1 (.seq (.reg [zm 10 8,
 zm 5 10])
  (.seq (.reg [zm 11 1,
 zm 12 0,
 zm 13 5,
 zi 14 1 12 13,
 zl 15 1 14,
 zb 16 .eql 11 15])
  (.cond (.t 16) (.seq (.reg [zm 17 5,
 zm 4 17])
  (.ret)) (.skip)))))
 (.reg [za 18 8 1,
 zm 8 18]))))
def c_slices_IndexZitit : C :=
 .seq (.reg [zk 4 0])
 (.seq (.seq (.reg [zm 6 0,
 zn 7 6,
 zk 8 0])
 (.blk 0 (l_slices_Index___int_int__0)))
 (.seq (.reg [zk 4 (-1)])
 (.ret)))
def s_slices_IndexZitit : List Nat := []
def F_slices_IndexZitit : IF := ⟨2, 19, 0, c_slices_IndexZitit, [(4, none)], true, false, false⟩
def l_slices_pdqsortCmpFunc_api_Edge__0 : C :=
 .loop (rest 148 [0, 1, 2, 3, 4, 10, 11]) [] (.blk 1 (.seq (.reg [zm 21 2,
 zm 22 1,
 zb 23 .sub 21 22,
 zm 12 23])
  (.seq (.seq (.reg [zm 24 12,
 zq 25 (.bin .leq (.t 24) (.c (.int .i64 12)))])
  (.cond (.t 25) (.seq (.reg [zm 26 0,
 zm 27 1,
 zm 28 2,
 zm 29 4,
 zq 30 (.call f_slices_insertionSortCmpFunc_api_Edge_ [(.t 26), (.t 27), (.t 28), (.t 29)] [])])
  (.ret)) (.skip)))
  (.seq (.seq (.reg [zm 31 3,
 zq 32 (.bin .eql (.t 31) (.c (.int .i64 0)))])
  (.cond (.t 32) (.seq (.reg [zm 33 0,
 zm 34 1,
 zm 35 2,
 zm 36 4,
 zq 37 (.call f_slices_heapSortCmpFunc_api_Edge_ [(.t 33), (.t 34), (.t 35), (.t 36)] [])])
  (.ret)) (.skip)))
  (.seq (.seq (.reg [zm 38 10,
 zq 39 (.un .not (.t 38))])
  (.cond (.t 39) (.seq (.reg [zm 40 0,
 zm 41 1,
 zm 42 2,
 zm 43 4,
 zq 44 (.call f_slices_breakPatternsCmpFunc_api_Edge_ [(.t 40), (.t 41), (.t 42), (.t 43)] [])])
  (.reg [zm 45 3,
 zq 46 (.bin .sub (.t 45) (.c (.int .i64 1))),
 zm 3 46])) (.skip)))
  (.seq (.reg [zm 48 0,
 zm 49 1,
 zm 50 2,
 zm 51 4,
 zq 52 (.call f_slices_choosePivotCmpFunc_api_Edge_ [(.t 48), (.t 49), (.t 50), (.t 51)] []),
 zm 47 52,
 zq 53 (.ext (.t 47) 0),
 zq 54 (.ext (.t 47) 1),
 zm 13 53,
 zm 14 54])
  (.seq (.seq (.reg [zm 55 14,
 zq 56 (.bin .eql (.t 55) (.c (.int .i64 2)))])
  (.cond (.t 56) (.seq (.reg [zm 57 0,
 zm 58 1,
 zm 59 2,
 zm 60 4,
 zq 61 (.call f_slices_reverseRangeCmpFunc_api_Edge_ [(.t 57), (.t 58), (.t 59), (.t 60)] [])])
  (.seq (.reg [zm 62 2,
 zq 63 (.bin .sub (.t 62) (.c (.int .i64 1))),
 zm 64 13,
 zm 65 1,
 zb 66 .sub 64 65,
 zb 67 .sub 63 66,
 zm 13 67])
  (.reg [zk 14 1]))) (.skip)))
  (.seq (.seq (.reg [zm 68 10,
 zm 69 68,
 zmg 70 11 69 true,
 zu 71 69 70,
 zm 72 71,
 zmg 73 14 72 true,
 zg 74 (.bin .eql (.t 73) (.c (.int .i64 1))) 72 true,
 zu 75 72 74])
  (.cond (.t 75) (.seq (.reg [zm 76 0,
 zm 77 1,
 zm 78 2,
 zm 79 4,
 zq 80 (.call f_slices_partialInsertionSortCmpFunc_api_Edge_ [(.t 76), (.t 77), (.t 78), (.t 79)] [])])
  (.cond (.t 80) (.ret) (.skip))) (.skip)))
  (.seq (.seq (.drw [zm 81 1,
 zq 82 (.bin .gtr (.t 81) (.c (.int .i64 0))),
 zm 83 82,
 zmg 84 4 83 true,
 zmg 85 0 83 true,
 zmg 86 1 83 true,
 zg 87 (.bin .sub (.t 86) (.c (.int .i64 1))) 83 true,
 zg 88 (.iad 2 (.t 85) (.t 87)) 83 true,
 zg 89 (.ld true 2 (.t 88)) 83 true,
 zmg 90 0 83 true,
 zmg 91 13 83 true,
 zg 92 (.iad 2 (.t 90) (.t 91)) 83 true,
 zg 93 (.ld true 2 (.t 92)) 83 true,
 zg 94 (.calv (.t 84) [(.t 89), (.t 93)] []) 83 true,
 zg 95 (.bin .lss (.t 94) (.c (.int .i64 0))) 83 true,
 zg 96 (.un .not (.t 95)) 83 true,
 zu 97 83 96] [])
  (.cond (.t 97) (.seq (.reg [zm 98 0,
 zm 99 1,
 zm 100 2,
 zm 101 13,
 zm 102 4,
 zq 103 (.call f_slices_partitionEqualCmpFunc_api_Edge_ [(.t 98), (.t 99), (.t 100), (.t 101), (.t 102)] []),
 zm 15 103])
  (.seq (.reg [zm 104 15,
 zm 1 104])
  (.exit 1))) (.skip)))
  (.seq (.reg [zm 106 0,
 zm 107 1,
 zm 108 2,
 zm 109 13,
 zm 110 4,
 zq 111 (.call f_slices_partitionCmpFunc_api_Edge_ [(.t 106), (.t 107), (.t 108), (.t 109), (.t 110)] []),
 zm 105 111,
 zq 112 (.ext (.t 105) 0),
 zq 113 (.ext (.t 105) 1),
 zm 16 112,
 zm 17 113])
  (.seq (.reg [zm 114 17,
 zm 11 114])
  (.seq (.reg [zm 115 16,
 zm 116 1,
 zb 117 .sub 115 116,
 zm 118 2,
 zm 119 16,
 zb 120 .sub 118 119,
 zm 18 117,
 zm 19 120])
  (.seq (.reg [zm 121 12,
 zq 122 (.bin .quo (.t 121) (.c (.int .i64 8))),
 zm 20 122])
  (.seq (.reg [zm 123 18,
 zm 124 19,
 zb 125 .lss 123 124])
  (.cond (.t 125) (.seq (.reg [zm 126 18,
 zm 127 20,
 zb 128 .geq 126 127,
 zm 10 128])
  (.seq (.reg [zm 129 0,
 zm 130 1,
 zm 131 16,
 zm 132 3,
 zm 133 4,
 zq 134 (.call f_slices_pdqsortCmpFunc_api_Edge_ [(.t 129), (.t 130), (.t 131), (.t 132), (.t 133)] [])])
  (.reg [zm 135 16,
 za 136 135 1,
 zm 1 136]))) (.seq (.reg [zm 137 19,
 zm 138 20,
 zb 139 .geq 137 138,
 zm 10 139])
  (.seq (.reg [zm 140 0,
 zm 141 16,
 za 142 141 1,
 zm 143 2,
 zm 144 3,
 zm 145 4,
 zq 146 (.call f_slices_pdqsortCmpFunc_api_Edge_ [(.t 140), (.t 142), (.t 143), (.t 144), (.t 145)] [])])
  (.reg [zm 147 16,
 zm 2 147]))))))))))))))))))
def c_slices_pdqsortCmpFunc_api_Edge_ : C :=
 .seq (.reg [zo 10 true])
 (.seq (.reg [zo 11 true])
 (.blk 0 (l_slices_pdqsortCmpFunc_api_Edge__0)))
def s_slices_pdqsortCmpFunc_api_Edge_ : List Nat := []
def F_slices_pdqsortCmpFunc_api_Edge_ : IF := ⟨5, 148, 0, c_slices_pdqsortCmpFunc_api_Edge_, [], true, false, false⟩
def l_slices_insertionSortOrdered_int__2 : C :=
 .loop (rest 49 [0, 1, 2, 6, 7]) [] (.seq (.seq (.drw [zm 16 7,
 zm 17 1,
 zb 18 .gtr 16 17,
 zm 19 18,
 zmg 20 0 19 true,
 zmg 21 7 19 true,
 zg 22 (.iad 1 (.t 20) (.t 21)) 19 true,
 zlg 23 1 22 19 true,
 zmg 24 0 19 true,
 zmg 25 7 19 true,
 zg 26 (.bin .sub (.t 25) (.c (.int .i64 1))) 19 true,
 zg 27 (.iad 1 (.t 24) (.t 26)) 19 true,
 zlg 28 1 27 19 true,
 zg 29 (.call f_cmp_Less_int_ [(.t 23), (.t 28)] []) 19 true,
 zu 30 19 29] [])
 (.cond (.t 30) (.skip) (.exit 2)))
 (.seq (.blk 3 (.drw [zm 33 0,
 zm 34 7,
 zm 35 0,
 zm 36 7,
 zq 37 (.bin .sub (.t 36) (.c (.int .i64 1))),
 zm 38 0,
 zm 39 7,
 zq 40 (.bin .sub (.t 39) (.c (.int .i64 1))),
 zi 41 1 38 40,
 zl 42 1 41,
 zm 43 0,
 zm 44 7,
 zi 45 1 43 44,
 zl 46 1 45,
 zi 47 1 33 34,
 zs 1 47 42,
 zi 48 1 35 37,
 zs 1 48 46] []))
 (.reg [zm 31 7,
 zq 32 (.bin .sub (.t 31) (.c (.int .i64 1))),
 zm 7 32])))
def l_slices_insertionSortOrdered_int__0 : C :=
 .loop (rest 49 [0, 1, 2, 6]) [] (.seq (.seq (.reg [zm 10 6,
 zm 11 2,
 zb 12 .lss 10 11])
 (.cond (.t 12) (.skip) (.exit 0)))
 (.seq (.blk 1 (.seq (.reg [zm 15 6,
 zm 7 15])
  (.blk 2 (l_slices_insertionSortOrdered_int__2))))
 (.reg [zm 13 6,
 za 14 13 1,
 zm 6 14])))
def c_slices_insertionSortOrdered_int_ : C :=
 .seq (.reg [zm 8 1,
 za 9 8 1,
 zm 6 9])
 (.blk 0 (l_slices_insertionSortOrdered_int__0))
def s_slices_insertionSortOrdered_int_ : List Nat := []
def F_slices_insertionSortOrdered_int_ : IF := ⟨3, 49, 0, c_slices_insertionSortOrdered_int_, [], false, false, false⟩
def l_slices_heapSortOrdered_int__0 : C :=
 .loop (rest 56 [0, 6, 7, 8, 9]) [] (.seq (.seq (.reg [zm 18 9,
 zq 19 (.bin .geq (.t 18) (.c (.int .i64 0)))])
 (.cond (.t 19) (.skip) (.exit 0)))
 (.seq (.blk 1 (.reg [zm 22 0,
 zm 23 9,
 zm 24 8,
 zm 25 6,
 zq 26 (.call f_slices_siftDownOrdered_int_ [(.t 22), (.t 23), (.t 24), (.t 25)] [])]))
 (.reg [zm 20 9,
 zq 21 (.bin .sub (.t 20) (.c (.int .i64 1))),
 zm 9 21])))
def l_slices_heapSortOrdered_int__2 : C :=
 .loop (rest 56 [0, 6, 7, 10]) [] (.seq (.seq (.reg [zm 29 10,
 zq 30 (.bin .geq (.t 29) (.c (.int .i64 0)))])
 (.cond (.t 30) (.skip) (.exit 2)))
 (.seq (.blk 3 (.seq (.drw [zm 33 0,
 zm 34 6,
 zm 35 0,
 zm 36 6,
 zm 37 10,
 zb 38 .add 36 37,
 zm 39 0,
 zm 40 6,
 zm 41 10,
 zb 42 .add 40 41,
 zi 43 1 39 42,
 zl 44 1 43,
 zm 45 0,
 zm 46 6,
 zi 47 1 45 46,
 zl 48 1 47,
 zi 49 1 33 34,
 zs 1 49 44,
 zi 50 1 35 38,
 zs 1 50 48] [])
  (.reg [zm 51 0,
 zm 52 7,
 zm 53 10,
 zm 54 6,
 zq 55 (.call f_slices_siftDownOrdered_int_ [(.t 51), (.t 52), (.t 53), (.t 54)] [])])))
 (.reg [zm 31 10,
 zq 32 (.bin .sub (.t 31) (.c (.int .i64 1))),
 zm 10 32])))
def c_slices_heapSortOrdered_int_ : C :=
 .seq (.reg [zm 11 1,
 zm 6 11])
 (.seq (.reg [zk 7 0])
 (.seq (.reg [zm 12 2,
 zm 13 1,
 zb 14 .sub 12 13,
 zm 8 14])
 (.seq (.seq (.reg [zm 15 8,
 zq 16 (.bin .sub (.t 15) (.c (.int .i64 1))),
 zq 17 (.bin .quo (.t 16) (.c (.int .i64 2))),
 zm 9 17])
 (.blk 0 (l_slices_heapSortOrdered_int__0)))
 (.seq (.reg [zm 27 8,
 zq 28 (.bin .sub (.t 27) (.c (.int .i64 1))),
 zm 10 28])
 (.blk 2 (l_slices_heapSortOrdered_int__2))))))
def s_slices_heapSortOrdered_int_ : List Nat := []
def F_slices_heapSortOrdered_int_ : IF := ⟨3, 56, 0, c_slices_heapSortOrdered_int_, [], false, false, false⟩
def l_slices_breakPatternsOrdered_int__0 : C :=
 .loop (rest 65 [0, 1, 6, 7, 8, 9]) [] (.seq (.seq (.reg [zm 26 9,
 zm 27 1,
 zm 28 6,
 zq 29 (.bin .quo (.t 28) (.c (.int .i64 4))),
 zq 30 (.bin .mul (.t 29) (.c (.int .i64 2))),
 zb 31 .add 27 30,
 za 32 31 1,
 zb 33 .leq 26 32])
 (.cond (.t 33) (.skip) (.exit 0)))
 (.seq (.blk 1 (.seq (.reg [zq 36 (.call f___slices_xorshift__Next [(.t 7)] []),
 zm 37 8,
 zq 38 (.bin .sub (.t 37) (.c (.int .u64 1))),
 zb 39 .and 36 38,
 zq 40 (.cvi .i64 (.t 39)),
 zm 10 40])
  (.seq (.seq (.reg [zm 41 10,
 zm 42 6,
 zb 43 .geq 41 42])
  (.cond (.t 43) (.reg [zm 44 10,
 zm 45 6,
 zb 46 .sub 44 45,
 zm 10 46]) (.skip)))
  (.drw [zm 47 0,
 zm 48 9,
 zm 49 0,
 zm 50 1,
 zm 51 10,
 zb 52 .add 50 51,
 zm 53 0,
 zm 54 1,
 zm 55 10,
 zb 56 .add 54 55,
 zi 57 1 53 56,
 zl 58 1 57,
 zm 59 0,
 zm 60 9,
 zi 61 1 59 60,
 zl 62 1 61,
 zi 63 1 47 48,
 zs 1 63 58,
 zi 64 1 49 52,
 zs 1 64 62] []))))
 (.reg [zm 34 9,
 za 35 34 1,
 zm 9 35])))
def c_slices_breakPatternsOrdered_int_ : C :=
 .seq (.reg [zm 11 2,
 zm 12 1,
 zb 13 .sub 11 12,
 zm 6 13])
 (.seq (.reg [zm 14 6,
 zq 15 (.bin .geq (.t 14) (.c (.int .i64 8)))])
 (.cond (.t 15) (.seq (.reg [zm 16 6,
 zq 17 (.cvi .u64 (.t 16)),
 zq 7 (.alc 0 1 (.int .u64 0)),
 zs 1 7 17])
  (.seq (.reg [zm 18 6,
 zq 19 (.call f_slices_nextPowerOfTwo [(.t 18)] []),
 zm 8 19])
  (.seq (.reg [zm 20 1,
 zm 21 6,
 zq 22 (.bin .quo (.t 21) (.c (.int .i64 4))),
 zq 23 (.bin .mul (.t 22) (.c (.int .i64 2))),
 zb 24 .add 20 23,
 zq 25 (.bin .sub (.t 24) (.c (.int .i64 1))),
 zm 9 25])
  (.blk 0 (l_slices_breakPatternsOrdered_int__0))))) (.skip)))
def s_slices_breakPatternsOrdered_int_ : List Nat := [7]
def F_slices_breakPatternsOrdered_int_ : IF := ⟨3, 65, 1, c_slices_breakPatternsOrdered_int_, [], false, false, false⟩
def c_slices_choosePivotOrdered_int_ : C :=
 .seq (.reg [zk 6 0,
 zk 7 0])
 (.seq (.reg [zm 13 2,
 zm 14 1,
 zb 15 .sub 13 14,
 zm 8 15])
 (.seq (.reg [zq 9 (.alc 0 1 (.int .i64 0))])
 (.seq (.reg [zm 16 1,
 zm 17 8,
 zq 18 (.bin .quo (.t 17) (.c (.int .i64 4))),
 zq 19 (.bin .mul (.t 18) (.c (.int .i64 1))),
 zb 20 .add 16 19,
 zm 10 20])
 (.seq (.reg [zm 21 1,
 zm 22 8,
 zq 23 (.bin .quo (.t 22) (.c (.int .i64 4))),
 zq 24 (.bin .mul (.t 23) (.c (.int .i64 2))),
 zb 25 .add 21 24,
 zm 11 25])
 (.seq (.reg [zm 26 1,
 zm 27 8,
 zq 28 (.bin .quo (.t 27) (.c (.int .i64 4))),
 zq 29 (.bin .mul (.t 28) (.c (.int .i64 3))),
 zb 30 .add 26 29,
 zm 12 30])
 (.seq (.seq (.reg [zm 31 8,
 zq 32 (.bin .geq (.t 31) (.c (.int .i64 8)))])
 (.cond (.t 32) (.seq (.seq (.reg [zm 33 8,
 zq 34 (.bin .geq (.t 33) (.c (.int .i64 50)))])
  (.cond (.t 34) (.seq (.reg [zm 35 0,
 zm 36 10,
 zq 37 (.call f_slices_medianAdjacentOrdered_int_ [(.t 35), (.t 36), (.t 9)] []),
 zm 10 37])
  (.seq (.reg [zm 38 0,
 zm 39 11,
 zq 40 (.call f_slices_medianAdjacentOrdered_int_ [(.t 38), (.t 39), (.t 9)] []),
 zm 11 40])
  (.reg [zm 41 0,
 zm 42 12,
 zq 43 (.call f_slices_medianAdjacentOrdered_int_ [(.t 41), (.t 42), (.t 9)] []),
 zm 12 43]))) (.skip)))
  (.reg [zm 44 0,
 zm 45 10,
 zm 46 11,
 zm 47 12,
 zq 48 (.call f_slices_medianOrdered_int_ [(.t 44), (.t 45), (.t 46), (.t 47), (.t 9)] []),
 zm 11 48])) (.skip)))
 (.seq (.reg [zl 49 1 9])
 (.blk 0 (.seq (.reg [zq 52 (.bin .eql (.t 49) (.c (.int .i64 0))),
 zm 51 52])
  (.cond (.t 51) (.seq (.reg [zm 53 11,
 zm 6 53,
 zk 7 1])
  (.ret)) (.seq (.reg [zq 55 (.bin .eql (.t 49) (.c (.int .i64 12))),
 zm 54 55])
  (.cond (.t 54) (.seq (.reg [zm 56 11,
 zm 6 56,
 zk 7 2])
  (.ret)) (.seq (.reg [zm 50 11,
 zm 6 50,
 zk 7 0])
  (.ret))))))))))))))
def s_slices_choosePivotOrdered_int_ : List Nat := [9]
def F_slices_choosePivotOrdered_int_ : IF := ⟨3, 57, 1, c_slices_choosePivotOrdered_int_, [(6, none), (7, none)], true, false, false⟩
def l_slices_reverseRangeOrdered_int__0 : C :=
 .loop (rest 32 [0, 6, 7]) [] (.seq (.seq (.reg [zm 11 6,
 zm 12 7,
 zb 13 .lss 11 12])
 (.cond (.t 13) (.skip) (.exit 0)))
 (.blk 1 (.seq (.drw [zm 14 0,
 zm 15 6,
 zm 16 0,
 zm 17 7,
 zm 18 0,
 zm 19 7,
 zi 20 1 18 19,
 zl 21 1 20,
 zm 22 0,
 zm 23 6,
 zi 24 1 22 23,
 zl 25 1 24,
 zi 26 1 14 15,
 zs 1 26 21,
 zi 27 1 16 17,
 zs 1 27 25] [])
  (.seq (.reg [zm 28 6,
 za 29 28 1,
 zm 6 29])
  (.reg [zm 30 7,
 zq 31 (.bin .sub (.t 30) (.c (.int .i64 1))),
 zm 7 31])))))
def c_slices_reverseRangeOrdered_int_ : C :=
 .seq (.reg [zm 8 1,
 zm 6 8])
 (.seq (.reg [zm 9 2,
 zq 10 (.bin .sub (.t 9) (.c (.int .i64 1))),
 zm 7 10])
 (.blk 0 (l_slices_reverseRangeOrdered_int__0)))
def s_slices_reverseRangeOrdered_int_ : List Nat := []
def F_slices_reverseRangeOrdered_int_ : IF := ⟨3, 32, 0, c_slices_reverseRangeOrdered_int_, [], false, false, false⟩
def l_slices_partialInsertionSortOrdered_int__2 : C :=
 .loop (rest 133 [0, 1, 2, 7, 8]) [] (.seq (.seq (.drw [zm 17 7,
 zm 18 2,
 zb 19 .lss 17 18,
 zm 20 19,
 zmg 21 0 20 true,
 zmg 22 7 20 true,
 zg 23 (.iad 1 (.t 21) (.t 22)) 20 true,
 zlg 24 1 23 20 true,
 zmg 25 0 20 true,
 zmg 26 7 20 true,
 zg 27 (.bin .sub (.t 26) (.c (.int .i64 1))) 20 true,
 zg 28 (.iad 1 (.t 25) (.t 27)) 20 true,
 zlg 29 1 28 20 true,
 zg 30 (.call f_cmp_Less_int_ [(.t 24), (.t 29)] []) 20 true,
 zg 31 (.un .not (.t 30)) 20 true,
 zu 32 20 31] [])
 (.cond (.t 32) (.skip) (.exit 2)))
 (.blk 3 (.reg [zm 33 7,
 za 34 33 1,
 zm 7 34])))
def l_slices_partialInsertionSortOrdered_int__4 : C :=
 .loop (rest 133 [0, 1, 2, 7, 8, 9]) [] (.seq (.seq (.reg [zm 64 9,
 zq 65 (.bin .geq (.t 64) (.c (.int .i64 1)))])
 (.cond (.t 65) (.skip) (.exit 4)))
 (.seq (.blk 5 (.seq (.seq (.drw [zm 68 0,
 zm 69 9,
 zi 70 1 68 69,
 zl 71 1 70,
 zm 72 0,
 zm 73 9,
 zq 74 (.bin .sub (.t 73) (.c (.int .i64 1))),
 zi 75 1 72 74,
 zl 76 1 75,
 zq 77 (.call f_cmp_Less_int_ [(.t 71), (.t 76)] []),
 zq 78 (.un .not (.t 77))] [])
  (.cond (.t 78) (.exit 4) (.skip)))
  (.drw [zm 79 0,
 zm 80 9,
 zm 81 0,
 zm 82 9,
 zq 83 (.bin .sub (.t 82) (.c (.int .i64 1))),
 zm 84 0,
 zm 85 9,
 zq 86 (.bin .sub (.t 85) (.c (.int .i64 1))),
 zi 87 1 84 86,
 zl 88 1 87,
 zm 89 0,
 zm 90 9,
 zi 91 1 89 90,
 zl 92 1 91,
 zi 93 1 79 80,
 zs 1 93 88,
 zi 94 1 81 83,
 zs 1 94 92] [])))
 (.reg [zm 66 9,
 zq 67 (.bin .sub (.t 66) (.c (.int .i64 1))),
 zm 9 67])))
def l_slices_partialInsertionSortOrdered_int__6 : C :=
 .loop (rest 133 [0, 1, 2, 7, 8, 10]) [] (.seq (.seq (.reg [zm 101 10,
 zm 102 2,
 zb 103 .lss 101 102])
 (.cond (.t 103) (.skip) (.exit 6)))
 (.seq (.blk 7 (.seq (.seq (.drw [zm 106 0,
 zm 107 10,
 zi 108 1 106 107,
 zl 109 1 108,
 zm 110 0,
 zm 111 10,
 zq 112 (.bin .sub (.t 111) (.c (.int .i64 1))),
 zi 113 1 110 112,
 zl 114 1 113,
 zq 115 (.call f_cmp_Less_int_ [(.t 109), (.t 114)] []),
 zq 116 (.un .not (.t 115))] [])
  (.cond (.t 116) (.exit 6) (.skip)))
  (.drw [zm 117 0,
 zm 118 10,
 zm 119 0,
 zm 120 10,
 zq 121 (.bin .sub (.t 120) (.c (.int .i64 1))),
 zm 122 0,
 zm 123 10,
 zq 124 (.bin .sub (.t 123) (.c (.int .i64 1))),
 zi 125 1 122 124,
 zl 126 1 125,
 zm 127 0,
 zm 128 10,
 zi 129 1 127 128,
 zl 130 1 129,
 zi 131 1 117 118,
 zs 1 131 126,
 zi 132 1 119 121,
 zs 1 132 130] [])))
 (.reg [zm 104 10,
 za 105 104 1,
 zm 10 105])))
def l_slices_partialInsertionSortOrdered_int__0 : C :=
 .loop (rest 133 [0, 1, 2, 7, 8]) [] (.seq (.seq (.reg [zm 13 8,
 zq 14 (.bin .lss (.t 13) (.c (.int .i64 5)))])
 (.cond (.t 14) (.skip) (.exit 0)))
 (.seq (.blk 1 (.seq (.blk 2 (l_slices_partialInsertionSortOrdered_int__2))
  (.seq (.seq (.reg [zm 35 7,
 zm 36 2,
 zb 37 .eql 35 36])
  (.cond (.t 37) (.seq (.reg [zo 6 true])
   (.ret)) (.skip)))
  (.seq (.seq (.reg [zm 38 2,
 zm 39 1,
 zb 40 .sub 38 39,
 zq 41 (.bin .lss (.t 40) (.c (.int .i64 50)))])
  (.cond (.t 41) (.seq (.reg [zo 6 false])
   (.ret)) (.skip)))
  (.seq (.drw [zm 42 0,
 zm 43 7,
 zm 44 0,
 zm 45 7,
 zq 46 (.bin .sub (.t 45) (.c (.int .i64 1))),
 zm 47 0,
 zm 48 7,
 zq 49 (.bin .sub (.t 48) (.c (.int .i64 1))),
 zi 50 1 47 49,
 zl 51 1 50,
 zm 52 0,
 zm 53 7,
 zi 54 1 52 53,
 zl 55 1 54,
 zi 56 1 42 43,
 zs 1 56 51,
 zi 57 1 44 46,
 zs 1 57 55] [])
  (.seq (.seq (.reg [zm 58 7,
 zm 59 1,
 zb 60 .sub 58 59,
 zq 61 (.bin .geq (.t 60) (.c (.int .i64 2)))])
  (.cond (.t 61) (.seq (.reg [zm 62 7,
 zq 63 (.bin .sub (.t 62) (.c (.int .i64 1))),
 zm 9 63])
  (.blk 4 (l_slices_partialInsertionSortOrdered_int__4))) (.skip)))
  (.seq (.reg [zm 95 2,
 zm 96 7,
 zb 97 .sub 95 96,
 zq 98 (.bin .geq (.t 97) (.c (.int .i64 2)))])
  (.cond (.t 98) (.seq (.reg [zm 99 7,
 za 100 99 1,
 zm 10 100])
  (.blk 6 (l_slices_partialInsertionSortOrdered_int__6))) (.skip)))))))))
 (.reg [zm 15 8,
 za 16 15 1,
 zm 8 16])))
def c_slices_partialInsertionSortOrdered_int_ : C :=
 .seq (.reg [zo 6 false])
 (.seq (.reg [zm 11 1,
 za 12 11 1,
 zm 7 12])
 (.seq (.seq (.reg [zk 8 0])
 (.blk 0 (l_slices_partialInsertionSortOrdered_int__0)))
 (.seq (.reg [zo 6 false])
 (.ret))))
def s_slices_partialInsertionSortOrdered_int_ : List Nat := []
def F_slices_partialInsertionSortOrdered_int_ : IF := ⟨3, 133, 0, c_slices_partialInsertionSortOrdered_int_, [(6, none)], false, false, false⟩
def c_cmp_Less_int_ : C :=
 .seq (.reg [zo 4 false])
 (.seq (.reg [zm 5 0,
 zq 6 (.call f_cmp_isNaN_int_ [(.t 5)] []),
 zm 7 6,
 zmg 8 1 7 true,
 zg 9 (.call f_cmp_isNaN_int_ [(.t 8)] []) 7 true,
 zg 10 (.un .not (.t 9)) 7 true,
 zu 11 7 10,
 zm 12 11,
 zmg 13 0 12 false,
 zmg 14 1 12 false,
 zg 15 (.bin .lss (.t 13) (.t 14)) 12 false,
 zy 16 12 15,
 zm 4 16])
 (.ret))
def s_cmp_Less_int_ : List Nat := []
def F_cmp_Less_int_ : IF := ⟨2, 17, 0, c_cmp_Less_int_, [(4, none)], true, false, false⟩
def l_slices_partitionEqualOrdered_int__2 : C :=
 .loop (rest 84 [0, 1, 9, 10]) [] (.seq (.seq (.drw [zm 29 9,
 zm 30 10,
 zb 31 .leq 29 30,
 zm 32 31,
 zmg 33 0 32 true,
 zmg 34 1 32 true,
 zg 35 (.iad 1 (.t 33) (.t 34)) 32 true,
 zlg 36 1 35 32 true,
 zmg 37 0 32 true,
 zmg 38 9 32 true,
 zg 39 (.iad 1 (.t 37) (.t 38)) 32 true,
 zlg 40 1 39 32 true,
 zg 41 (.call f_cmp_Less_int_ [(.t 36), (.t 40)] []) 32 true,
 zg 42 (.un .not (.t 41)) 32 true,
 zu 43 32 42] [])
 (.cond (.t 43) (.skip) (.exit 2)))
 (.blk 3 (.reg [zm 44 9,
 za 45 44 1,
 zm 9 45])))
def l_slices_partitionEqualOrdered_int__4 : C :=
 .loop (rest 84 [0, 1, 9, 10]) [] (.seq (.seq (.drw [zm 46 9,
 zm 47 10,
 zb 48 .leq 46 47,
 zm 49 48,
 zmg 50 0 49 true,
 zmg 51 1 49 true,
 zg 52 (.iad 1 (.t 50) (.t 51)) 49 true,
 zlg 53 1 52 49 true,
 zmg 54 0 49 true,
 zmg 55 10 49 true,
 zg 56 (.iad 1 (.t 54) (.t 55)) 49 true,
 zlg 57 1 56 49 true,
 zg 58 (.call f_cmp_Less_int_ [(.t 53), (.t 57)] []) 49 true,
 zu 59 49 58] [])
 (.cond (.t 59) (.skip) (.exit 4)))
 (.blk 5 (.reg [zm 60 10,
 zq 61 (.bin .sub (.t 60) (.c (.int .i64 1))),
 zm 10 61])))
def l_slices_partitionEqualOrdered_int__0 : C :=
 .loop (rest 84 [0, 1, 9, 10]) [] (.blk 1 (.seq (.blk 2 (l_slices_partitionEqualOrdered_int__2))
  (.seq (.blk 4 (l_slices_partitionEqualOrdered_int__4))
  (.seq (.seq (.reg [zm 62 9,
 zm 63 10,
 zb 64 .gtr 62 63])
  (.cond (.t 64) (.exit 0) (.skip)))
  (.seq (.drw [zm 65 0,
 zm 66 9,
 zm 67 0,
 zm 68 10,
 zm 69 0,
 zm 70 10,
 zi 71 1 69 70,
 zl 72 1 71,
 zm 73 0,
 zm 74 9,
 zi 75 1 73 74,
 zl 76 1 75,
 zi 77 1 65 66,
 zs 1 77 72,
 zi 78 1 67 68,
 zs 1 78 76] [])
  (.seq (.reg [zm 79 9,
 za 80 79 1,
 zm 9 80])
  (.reg [zm 81 10,
 zq 82 (.bin .sub (.t 81) (.c (.int .i64 1))),
 zm 10 82])))))))
def c_slices_partitionEqualOrdered_int_ : C :=
 .seq (.reg [zk 8 0])
 (.seq (.drw [zm 11 0,
 zm 12 1,
 zm 13 0,
 zm 14 3,
 zm 15 0,
 zm 16 3,
 zi 17 1 15 16,
 zl 18 1 17,
 zm 19 0,
 zm 20 1,
 zi 21 1 19 20,
 zl 22 1 21,
 zi 23 1 11 12,
 zs 1 23 18,
 zi 24 1 13 14,
 zs 1 24 22] [])
 (.seq (.reg [zm 25 1,
 za 26 25 1,
 zm 27 2,
 zq 28 (.bin .sub (.t 27) (.c (.int .i64 1))),
 zm 9 26,
 zm 10 28])
 (.seq (.blk 0 (l_slices_partitionEqualOrdered_int__0))
 (.seq (.reg [zm 83 9,
 zm 8 83])
 (.ret)))))
def s_slices_partitionEqualOrdered_int_ : List Nat := []
def F_slices_partitionEqualOrdered_int_ : IF := ⟨4, 84, 0, c_slices_partitionEqualOrdered_int_, [(8, none)], false, false, false⟩
def l_slices_partitionOrdered_int__0 : C :=
 .loop (rest 168 [0, 1, 10, 11]) [] (.seq (.seq (.drw [zm 30 10,
 zm 31 11,
 zb 32 .leq 30 31,
 zm 33 32,
 zmg 34 0 33 true,
 zmg 35 10 33 true,
 zg 36 (.iad 1 (.t 34) (.t 35)) 33 true,
 zlg 37 1 36 33 true,
 zmg 38 0 33 true,
 zmg 39 1 33 true,
 zg 40 (.iad 1 (.t 38) (.t 39)) 33 true,
 zlg 41 1 40 33 true,
 zg 42 (.call f_cmp_Less_int_ [(.t 37), (.t 41)] []) 33 true,
 zu 43 33 42] [])
 (.cond (.t 43) (.skip) (.exit 0)))
 (.blk 1 (.reg [zm 44 10,
 za 45 44 1,
 zm 10 45])))
def l_slices_partitionOrdered_int__2 : C :=
 .loop (rest 168 [0, 1, 10, 11]) [] (.seq (.seq (.drw [zm 46 10,
 zm 47 11,
 zb 48 .leq 46 47,
 zm 49 48,
 zmg 50 0 49 true,
 zmg 51 11 49 true,
 zg 52 (.iad 1 (.t 50) (.t 51)) 49 true,
 zlg 53 1 52 49 true,
 zmg 54 0 49 true,
 zmg 55 1 49 true,
 zg 56 (.iad 1 (.t 54) (.t 55)) 49 true,
 zlg 57 1 56 49 true,
 zg 58 (.call f_cmp_Less_int_ [(.t 53), (.t 57)] []) 49 true,
 zg 59 (.un .not (.t 58)) 49 true,
 zu 60 49 59] [])
 (.cond (.t 60) (.skip) (.exit 2)))
 (.blk 3 (.reg [zm 61 11,
 zq 62 (.bin .sub (.t 61) (.c (.int .i64 1))),
 zm 11 62])))
def l_slices_partitionOrdered_int__6 : C :=
 .loop (rest 168 [0, 1, 10, 11]) [] (.seq (.seq (.drw [zm 99 10,
 zm 100 11,
 zb 101 .leq 99 100,
 zm 102 101,
 zmg 103 0 102 true,
 zmg 104 10 102 true,
 zg 105 (.iad 1 (.t 103) (.t 104)) 102 true,
 zlg 106 1 105 102 true,
 zmg 107 0 102 true,
 zmg 108 1 102 true,
 zg 109 (.iad 1 (.t 107) (.t 108)) 102 true,
 zlg 110 1 109 102 true,
 zg 111 (.call f_cmp_Less_int_ [(.t 106), (.t 110)] []) 102 true,
 zu 112 102 111] [])
 (.cond (.t 112) (.skip) (.exit 6)))
 (.blk 7 (.reg [zm 113 10,
 za 114 113 1,
 zm 10 114])))
def l_slices_partitionOrdered_int__8 : C :=
 .loop (rest 168 [0, 1, 10, 11]) [] (.seq (.seq (.drw [zm 115 10,
 zm 116 11,
 zb 117 .leq 115 116,
 zm 118 117,
 zmg 119 0 118 true,
 zmg 120 11 118 true,
 zg 121 (.iad 1 (.t 119) (.t 120)) 118 true,
 zlg 122 1 121 118 true,
 zmg 123 0 118 true,
 zmg 124 1 118 true,
 zg 125 (.iad 1 (.t 123) (.t 124)) 118 true,
 zlg 126 1 125 118 true,
 zg 127 (.call f_cmp_Less_int_ [(.t 122), (.t 126)] []) 118 true,
 zg 128 (.un .not (.t 127)) 118 true,
 zu 129 118 128] [])
 (.cond (.t 129) (.skip) (.exit 8)))
 (.blk 9 (.reg [zm 130 11,
 zq 131 (.bin .sub (.t 130) (.c (.int .i64 1))),
 zm 11 131])))
def l_slices_partitionOrdered_int__4 : C :=
 .loop (rest 168 [0, 1, 10, 11]) [] (.blk 5 (.seq (.blk 6 (l_slices_partitionOrdered_int__6))
  (.seq (.blk 8 (l_slices_partitionOrdered_int__8))
  (.seq (.seq (.reg [zm 132 10,
 zm 133 11,
 zb 134 .gtr 132 133])
  (.cond (.t 134) (.exit 4) (.skip)))
  (.seq (.drw [zm 135 0,
 zm 136 10,
 zm 137 0,
 zm 138 11,
 zm 139 0,
 zm 140 11,
 zi 141 1 139 140,
 zl 142 1 141,
 zm 143 0,
 zm 144 10,
 zi 145 1 143 144,
 zl 146 1 145,
 zi 147 1 135 136,
 zs 1 147 142,
 zi 148 1 137 138,
 zs 1 148 146] [])
  (.seq (.reg [zm 149 10,
 za 150 149 1,
 zm 10 150])
  (.reg [zm 151 11,
 zq 152 (.bin .sub (.t 151) (.c (.int .i64 1))),
 zm 11 152])))))))
def c_slices_partitionOrdered_int_ : C :=
 .seq (.reg [zk 8 0,
 zo 9 false])
 (.seq (.drw [zm 12 0,
 zm 13 1,
 zm 14 0,
 zm 15 3,
 zm 16 0,
 zm 17 3,
 zi 18 1 16 17,
 zl 19 1 18,
 zm 20 0,
 zm 21 1,
 zi 22 1 20 21,
 zl 23 1 22,
 zi 24 1 12 13,
 zs 1 24 19,
 zi 25 1 14 15,
 zs 1 25 23] [])
 (.seq (.reg [zm 26 1,
 za 27 26 1,
 zm 28 2,
 zq 29 (.bin .sub (.t 28) (.c (.int .i64 1))),
 zm 10 27,
 zm 11 29])
 (.seq (.blk 0 (l_slices_partitionOrdered_int__0))
 (.seq (.blk 2 (l_slices_partitionOrdered_int__2))
 (.seq (.seq (.reg [zm 63 10,
 zm 64 11,
 zb 65 .gtr 63 64])
 (.cond (.t 65) (.seq (.drw [zm 66 0,
 zm 67 11,
 zm 68 0,
 zm 69 1,
 zm 70 0,
 zm 71 1,
 zi 72 1 70 71,
 zl 73 1 72,
 zm 74 0,
 zm 75 11,
 zi 76 1 74 75,
 zl 77 1 76,
 zi 78 1 66 67,
 zs 1 78 73,
 zi 79 1 68 69,
 zs 1 79 77] [])
  (.seq (.reg [zm 80 11,
 zm 8 80,
 zo 9 true])
  (.ret))) (.skip)))
 (.seq (.drw [zm 81 0,
 zm 82 10,
 zm 83 0,
 zm 84 11,
 zm 85 0,
 zm 86 11,
 zi 87 1 85 86,
 zl 88 1 87,
 zm 89 0,
 zm 90 10,
 zi 91 1 89 90,
 zl 92 1 91,
 zi 93 1 81 82,
 zs 1 93 88,
 zi 94 1 83 84,
 zs 1 94 92] [])
 (.seq (.reg [zm 95 10,
 za 96 95 1,
 zm 10 96])
 (.seq (.reg [zm 97 11,
 zq 98 (.bin .sub (.t 97) (.c (.int .i64 1))),
 zm 11 98])
 (.seq (.blk 4 (l_slices_partitionOrdered_int__4))
 (.seq (.drw [zm 153 0,
 zm 154 11,
 zm 155 0,
 zm 156 1,
 zm 157 0,
 zm 158 1,
 zi 159 1 157 158,
 zl 160 1 159,
 zm 161 0,
 zm 162 11,
 zi 163 1 161 162,
 zl 164 1 163,
 zi 165 1 153 154,
 zs 1 165 160,
 zi 166 1 155 156,
 zs 1 166 164] [])
 (.seq (.reg [zm 167 11,
 zm 8 167,
 zo 9 false])
 (.ret))))))))))))
def s_slices_partitionOrdered_int_ : List Nat := []
def F_slices_partitionOrdered_int_ : IF := ⟨4, 168, 0, c_slices_partitionOrdered_int_, [(8, none), (9, none)], false, false, false⟩
def c_math_bits_Len32 : C :=
 .seq (.reg [zk 2 0])
 (.seq (.seq (.reg [zm 3 0,
 zq 4 (.bin .geq (.t 3) (.c (.int .u32 65536)))])
 (.cond (.t 4) (.seq (.reg [zm 5 0,
 zq 6 (.bin .shr (.t 5) (.c (.int .u64 16))),
 zm 0 6])
  (.reg [zk 2 16])) (.skip)))
 (.seq (.seq (.reg [zm 7 0,
 zq 8 (.bin .geq (.t 7) (.c (.int .u32 256)))])
 (.cond (.t 8) (.seq (.reg [zm 9 0,
 zq 10 (.bin .shr (.t 9) (.c (.int .u64 8))),
 zm 0 10])
  (.reg [zm 11 2,
 za 12 11 8,
 zm 2 12])) (.skip)))
 (.seq (.reg [zm 13 2,
 zm 14 0,
 zq 15 (.cvi .u8 (.t 14)),
  ⟨some 16, .idx (.c (.str ⟨#[0, 1, 2, 2, 3, 3, 3, 3, 4, 4, 4, 4, 4, 4, 4, 4, 5, 5, 5, 5, 5, 5, 5, 5, 5, 5, 5, 5, 5, 5, 5, 5, 6, 6, 6, 6, 6, 6, 6, 6, 6, 6, 6, 6, 6, 6, 6, 6, 6, 6, 6, 6, 6, 6, 6, 6, 6, 6, 6, 6, 6, 6, 6, 6, 7, 7, 7, 7, 7, 7, 7, 7, 7, 7, 7, 7, 7, 7, 7, 7, 7, 7, 7, 7, 7, 7, 7, 7, 7, 7, 7, 7, 7, 7, 7, 7, 7, 7, 7, 7, 7, 7, 7, 7, 7, 7, 7, 7, 7, 7, 7, 7, 7, 7, 7, 7, 7, 7, 7, 7, 7, 7, 7, 7, 7, 7, 7, 7, 8, 8, 8, 8, 8, 8, 8, 8, 8, 8, 8, 8, 8, 8, 8, 8, 8, 8, 8, 8, 8, 8, 8, 8, 8, 8, 8, 8, 8, 8, 8, 8, 8, 8, 8, 8, 8, 8, 8, 8, 8, 8, 8, 8, 8, 8, 8, 8, 8, 8, 8, 8, 8, 8, 8, 8, 8, 8, 8, 8, 8, 8, 8, 8, 8, 8, 8, 8, 8, 8, 8, 8, 8, 8, 8, 8, 8, 8, 8, 8, 8, 8, 8, 8, 8, 8, 8, 8, 8, 8, 8, 8, 8, 8, 8, 8, 8, 8, 8, 8, 8, 8, 8, 8, 8, 8, 8, 8, 8, 8, 8, 8, 8, 8, 8, 8, 8, 8, 8, 8, 8, 8, 8, 8, 8, 8, 8, 8]⟩)) (.t 15), none⟩,
 zq 17 (.cvi .i64 (.t 16)),
 zb 18 .add 13 17,
 zm 2 18])
 (.ret))))
def s_math_bits_Len32 : List Nat := []
def F_math_bits_Len32 : IF := ⟨1, 19, 0, c_math_bits_Len32, [(2, none)], true, false, false⟩
def c_math_bits_Len64 : C :=
 .seq (.reg [zk 2 0])
 (.seq (.seq (.reg [zm 3 0,
 zq 4 (.bin .geq (.t 3) (.c (.int .u64 4294967296)))])
 (.cond (.t 4) (.seq (.reg [zm 5 0,
 zq 6 (.bin .shr (.t 5) (.c (.int .u64 32))),
 zm 0 6])
  (.reg [zk 2 32])) (.skip)))
 (.seq (.seq (.reg [zm 7 0,
 zq 8 (.bin .geq (.t 7) (.c (.int .u64 65536)))])
 (.cond (.t 8) (.seq (.reg [zm 9 0,
 zq 10 (.bin .shr (.t 9) (.c (.int .u64 16))),
 zm 0 10])
  (.reg [zm 11 2,
 za 12 11 16,
 zm 2 12])) (.skip)))
 (.seq (.seq (.reg [zm 13 0,
 zq 14 (.bin .geq (.t 13) (.c (.int .u64 256)))])
 (.cond (.t 14) (.seq (.reg [zm 15 0,
 zq 16 (.bin .shr (.t 15) (.c (.int .u64 8))),
 zm 0 16])
  (.reg [zm 17 2,
 za 18 17 8,
 zm 2 18])) (.skip)))
 (.seq (.reg [zm 19 2,
 zm 20 0,
 zq 21 (.cvi .u8 (.t 20)),
  ⟨some 22, .idx (.c (.str ⟨#[0, 1, 2, 2, 3, 3, 3, 3, 4, 4, 4, 4, 4, 4, 4, 4, 5, 5, 5, 5, 5, 5, 5, 5, 5, 5, 5, 5, 5, 5, 5, 5, 6, 6, 6, 6, 6, 6, 6, 6, 6, 6, 6, 6, 6, 6, 6, 6, 6, 6, 6, 6, 6, 6, 6, 6, 6, 6, 6, 6, 6, 6, 6, 6, 7, 7, 7, 7, 7, 7, 7, 7, 7, 7, 7, 7, 7, 7, 7, 7, 7, 7, 7, 7, 7, 7, 7, 7, 7, 7, 7, 7, 7, 7, 7, 7, 7, 7, 7, 7, 7, 7, 7, 7, 7, 7, 7, 7, 7, 7, 7, 7, 7, 7, 7, 7, 7, 7, 7, 7, 7, 7, 7, 7, 7, 7, 7, 7, 8, 8, 8, 8, 8, 8, 8, 8, 8, 8, 8, 8, 8, 8, 8, 8, 8, 8, 8, 8, 8, 8, 8, 8, 8, 8, 8, 8, 8, 8, 8, 8, 8, 8, 8, 8, 8, 8, 8, 8, 8, 8, 8, 8, 8, 8, 8, 8, 8, 8, 8, 8, 8, 8, 8, 8, 8, 8, 8, 8, 8, 8, 8, 8, 8, 8, 8, 8, 8, 8, 8, 8, 8, 8, 8, 8, 8, 8, 8, 8, 8, 8, 8, 8, 8, 8, 8, 8, 8, 8, 8, 8, 8, 8, 8, 8, 8, 8, 8, 8, 8, 8, 8, 8, 8, 8, 8, 8, 8, 8, 8, 8, 8, 8, 8, 8, 8, 8, 8, 8, 8, 8, 8, 8, 8, 8, 8, 8]⟩)) (.t 21), none⟩,
 zq 23 (.cvi .i64 (.t 22)),
 zb 24 .add 19 23,
 zm 2 24])
 (.ret)))))
def s_math_bits_Len64 : List Nat := []
def F_math_bits_Len64 : IF := ⟨1, 25, 0, c_math_bits_Len64, [(2, none)], true, false, false⟩
def c_act_letter : C :=
 .seq (.reg [zo 2 false])
 (.seq (.reg [zm 3 0,
 zq 4 (.bin .geq (.t 3) (.c (.int .u8 97))),
 zm 5 4,
 zmg 6 0 5 true,
 zg 7 (.bin .leq (.t 6) (.c (.int .u8 122))) 5 true,
 zu 8 5 7,
 zm 9 8,
 zmg 10 0 9 false,
 zg 11 (.bin .geq (.t 10) (.c (.int .u8 65))) 9 false,
 zmg 12 11 9 false,
 zmg 13 0 12 true,
 zg 14 (.bin .leq (.t 13) (.c (.int .u8 90))) 12 true,
 zg 15 (.pick (.t 12) (.t 14) (.c (.bool false))) 9 false,
 zy 16 9 15,
 zm 2 16])
 (.ret))
def s_act_letter : List Nat := []
def F_act_letter : IF := ⟨1, 17, 0, c_act_letter, [(2, none)], true, false, false⟩
def l_slices_Index___string_string__0 : C :=
 .loop (rest 19 [0, 1, 7, 8]) [] (.seq (.reg [zb 9 .lss 8 7])
 (.seq (.cond (.t 9) (.skip) (.exit 0))
 (.seq (.blk 1 (.seq (.reg [zm 10 8,
 zm 5 10])
  (.seq (.reg [zm 11 1,
 zm 12 0,
 zm 13 5,
 zi 14 1 12 13,
 zl 15 1 14,
 zb 16 .eql 11 15])
  (.cond (.t 16) (.seq (.reg [zm 17 5,
 zm 4 17])
  (.ret)) (.skip)))))
 (.reg [za 18 8 1,
 zm 8 18]))))
def c_slices_IndexZsgsg : C :=
 .seq (.reg [zk 4 0])
 (.seq (.seq (.reg [zm 6 0,
 zn 7 6,
 zk 8 0])
 (.blk 0 (l_slices_Index___string_string__0)))
 (.seq (.reg [zk 4 (-1)])
 (.ret)))
def s_slices_IndexZsgsg : List Nat := []
def F_slices_IndexZsgsg : IF := ⟨2, 19, 0, c_slices_IndexZsgsg, [(4, none)], true, false, false⟩
def c_math_bits_Mul32 : C :=
 .seq (.reg [zq 4 (.mov (.c (.int .u32 0))),
 zq 5 (.mov (.c (.int .u32 0)))])
 (.seq (.reg [zm 7 0,
 zq 8 (.cvi .u64 (.t 7)),
 zm 9 1,
 zq 10 (.cvi .u64 (.t 9)),
 zb 11 .mul 8 10,
 zm 6 11])
 (.seq (.reg [zm 12 6,
 zq 13 (.bin .shr (.t 12) (.c (.int .u64 32))),
 zq 14 (.cvi .u32 (.t 13)),
 zm 15 6,
 zq 16 (.cvi .u32 (.t 15)),
 zm 4 14,
 zm 5 16])
 (.ret)))
def s_math_bits_Mul32 : List Nat := []
def F_math_bits_Mul32 : IF := ⟨2, 17, 0, c_math_bits_Mul32, [(4, none), (5, none)], true, false, false⟩
def c_math_bits_Mul64 : C :=
 .seq (.reg [zq 4 (.mov (.c (.int .u64 0))),
 zq 5 (.mov (.c (.int .u64 0)))])
 (.seq (.reg [zm 14 0,
 zq 15 (.bin .and (.t 14) (.c (.int .u64 4294967295))),
 zm 6 15])
 (.seq (.reg [zm 16 0,
 zq 17 (.bin .shr (.t 16) (.c (.int .u64 32))),
 zm 7 17])
 (.seq (.reg [zm 18 1,
 zq 19 (.bin .and (.t 18) (.c (.int .u64 4294967295))),
 zm 8 19])
 (.seq (.reg [zm 20 1,
 zq 21 (.bin .shr (.t 20) (.c (.int .u64 32))),
 zm 9 21])
 (.seq (.reg [zm 22 6,
 zm 23 8,
 zb 24 .mul 22 23,
 zm 10 24])
 (.seq (.reg [zm 25 7,
 zm 26 8,
 zb 27 .mul 25 26,
 zm 28 10,
 zq 29 (.bin .shr (.t 28) (.c (.int .u64 32))),
 zb 30 .add 27 29,
 zm 11 30])
 (.seq (.reg [zm 31 11,
 zq 32 (.bin .and (.t 31) (.c (.int .u64 4294967295))),
 zm 12 32])
 (.seq (.reg [zm 33 11,
 zq 34 (.bin .shr (.t 33) (.c (.int .u64 32))),
 zm 13 34])
 (.seq (.reg [zm 35 12,
 zm 36 6,
 zm 37 9,
 zb 38 .mul 36 37,
 zb 39 .add 35 38,
 zm 12 39])
 (.seq (.reg [zm 40 7,
 zm 41 9,
 zb 42 .mul 40 41,
 zm 43 13,
 zb 44 .add 42 43,
 zm 45 12,
 zq 46 (.bin .shr (.t 45) (.c (.int .u64 32))),
 zb 47 .add 44 46,
 zm 4 47])
 (.seq (.reg [zm 48 0,
 zm 49 1,
 zb 50 .mul 48 49,
 zm 5 50])
 (.ret))))))))))))
def s_math_bits_Mul64 : List Nat := []
def F_math_bits_Mul64 : IF := ⟨2, 51, 0, c_math_bits_Mul64, [(4, none), (5, none)], true, false, false⟩
def l_slices_insertionSortCmpFunc_api_Edge__2 : C :=
 .loop (rest 53 [0, 1, 2, 3, 8, 9]) [] (.seq (.seq (.drw [zm 18 9,
 zm 19 1,
 zb 20 .gtr 18 19,
 zm 21 20,
 zmg 22 3 21 true,
 zmg 23 0 21 true,
 zmg 24 9 21 true,
 zg 25 (.iad 2 (.t 23) (.t 24)) 21 true,
 zg 26 (.ld true 2 (.t 25)) 21 true,
 zmg 27 0 21 true,
 zmg 28 9 21 true,
 zg 29 (.bin .sub (.t 28) (.c (.int .i64 1))) 21 true,
 zg 30 (.iad 2 (.t 27) (.t 29)) 21 true,
 zg 31 (.ld true 2 (.t 30)) 21 true,
 zg 32 (.calv (.t 22) [(.t 26), (.t 31)] []) 21 true,
 zg 33 (.bin .lss (.t 32) (.c (.int .i64 0))) 21 true,
 zu 34 21 33] [])
 (.cond (.t 34) (.skip) (.exit 2)))
 (.seq (.blk 3 (.drw [zm 37 0,
 zm 38 9,
 zm 39 0,
 zm 40 9,
 zq 41 (.bin .sub (.t 40) (.c (.int .i64 1))),
 zm 42 0,
 zm 43 9,
 zq 44 (.bin .sub (.t 43) (.c (.int .i64 1))),
 zi 45 2 42 44,
 zL 46 2 45,
 zm 47 0,
 zm 48 9,
 zi 49 2 47 48,
 zL 50 2 49,
 zi 51 2 37 38,
 zs 2 51 46,
 zi 52 2 39 41,
 zs 2 52 50] []))
 (.reg [zm 35 9,
 zq 36 (.bin .sub (.t 35) (.c (.int .i64 1))),
 zm 9 36])))
def l_slices_insertionSortCmpFunc_api_Edge__0 : C :=
 .loop (rest 53 [0, 1, 2, 3, 8]) [] (.seq (.seq (.reg [zm 12 8,
 zm 13 2,
 zb 14 .lss 12 13])
 (.cond (.t 14) (.skip) (.exit 0)))
 (.seq (.blk 1 (.seq (.reg [zm 17 8,
 zm 9 17])
  (.blk 2 (l_slices_insertionSortCmpFunc_api_Edge__2))))
 (.reg [zm 15 8,
 za 16 15 1,
 zm 8 16])))
def c_slices_insertionSortCmpFunc_api_Edge_ : C :=
 .seq (.reg [zm 10 1,
 za 11 10 1,
 zm 8 11])
 (.blk 0 (l_slices_insertionSortCmpFunc_api_Edge__0))
def s_slices_insertionSortCmpFunc_api_Edge_ : List Nat := []
def F_slices_insertionSortCmpFunc_api_Edge_ : IF := ⟨4, 53, 0, c_slices_insertionSortCmpFunc_api_Edge_, [], true, false, false⟩
def l_slices_heapSortCmpFunc_api_Edge__0 : C :=
 .loop (rest 60 [0, 3, 8, 9, 10, 11]) [] (.seq (.seq (.reg [zm 20 11,
 zq 21 (.bin .geq (.t 20) (.c (.int .i64 0)))])
 (.cond (.t 21) (.skip) (.exit 0)))
 (.seq (.blk 1 (.reg [zm 24 0,
 zm 25 11,
 zm 26 10,
 zm 27 8,
 zm 28 3,
 zq 29 (.call f_slices_siftDownCmpFunc_api_Edge_ [(.t 24), (.t 25), (.t 26), (.t 27), (.t 28)] [])]))
 (.reg [zm 22 11,
 zq 23 (.bin .sub (.t 22) (.c (.int .i64 1))),
 zm 11 23])))
def l_slices_heapSortCmpFunc_api_Edge__2 : C :=
 .loop (rest 60 [0, 3, 8, 9, 12]) [] (.seq (.seq (.reg [zm 32 12,
 zq 33 (.bin .geq (.t 32) (.c (.int .i64 0)))])
 (.cond (.t 33) (.skip) (.exit 2)))
 (.seq (.blk 3 (.seq (.drw [zm 36 0,
 zm 37 8,
 zm 38 0,
 zm 39 8,
 zm 40 12,
 zb 41 .add 39 40,
 zm 42 0,
 zm 43 8,
 zm 44 12,
 zb 45 .add 43 44,
 zi 46 2 42 45,
 zL 47 2 46,
 zm 48 0,
 zm 49 8,
 zi 50 2 48 49,
 zL 51 2 50,
 zi 52 2 36 37,
 zs 2 52 47,
 zi 53 2 38 41,
 zs 2 53 51] [])
  (.reg [zm 54 0,
 zm 55 9,
 zm 56 12,
 zm 57 8,
 zm 58 3,
 zq 59 (.call f_slices_siftDownCmpFunc_api_Edge_ [(.t 54), (.t 55), (.t 56), (.t 57), (.t 58)] [])])))
 (.reg [zm 34 12,
 zq 35 (.bin .sub (.t 34) (.c (.int .i64 1))),
 zm 12 35])))
def c_slices_heapSortCmpFunc_api_Edge_ : C :=
 .seq (.reg [zm 13 1,
 zm 8 13])
 (.seq (.reg [zk 9 0])
 (.seq (.reg [zm 14 2,
 zm 15 1,
 zb 16 .sub 14 15,
 zm 10 16])
 (.seq (.seq (.reg [zm 17 10,
 zq 18 (.bin .sub (.t 17) (.c (.int .i64 1))),
 zq 19 (.bin .quo (.t 18) (.c (.int .i64 2))),
 zm 11 19])
 (.blk 0 (l_slices_heapSortCmpFunc_api_Edge__0)))
 (.seq (.reg [zm 30 10,
 zq 31 (.bin .sub (.t 30) (.c (.int .i64 1))),
 zm 12 31])
 (.blk 2 (l_slices_heapSortCmpFunc_api_Edge__2))))))
def s_slices_heapSortCmpFunc_api_Edge_ : List Nat := []
def F_slices_heapSortCmpFunc_api_Edge_ : IF := ⟨4, 60, 0, c_slices_heapSortCmpFunc_api_Edge_, [], true, false, false⟩
def l_slices_breakPatternsCmpFunc_api_Edge__0 : C :=
 .loop (rest 67 [0, 1, 8, 9, 10, 11]) [] (.seq (.seq (.reg [zm 28 11,
 zm 29 1,
 zm 30 8,
 zq 31 (.bin .quo (.t 30) (.c (.int .i64 4))),
 zq 32 (.bin .mul (.t 31) (.c (.int .i64 2))),
 zb 33 .add 29 32,
 za 34 33 1,
 zb 35 .leq 28 34])
 (.cond (.t 35) (.skip) (.exit 0)))
 (.seq (.blk 1 (.seq (.reg [zq 38 (.call f___slices_xorshift__Next [(.t 9)] []),
 zm 39 10,
 zq 40 (.bin .sub (.t 39) (.c (.int .u64 1))),
 zb 41 .and 38 40,
 zq 42 (.cvi .i64 (.t 41)),
 zm 12 42])
  (.seq (.seq (.reg [zm 43 12,
 zm 44 8,
 zb 45 .geq 43 44])
  (.cond (.t 45) (.reg [zm 46 12,
 zm 47 8,
 zb 48 .sub 46 47,
 zm 12 48]) (.skip)))
  (.drw [zm 49 0,
 zm 50 11,
 zm 51 0,
 zm 52 1,
 zm 53 12,
 zb 54 .add 52 53,
 zm 55 0,
 zm 56 1,
 zm 57 12,
 zb 58 .add 56 57,
 zi 59 2 55 58,
 zL 60 2 59,
 zm 61 0,
 zm 62 11,
 zi 63 2 61 62,
 zL 64 2 63,
 zi 65 2 49 50,
 zs 2 65 60,
 zi 66 2 51 54,
 zs 2 66 64] []))))
 (.reg [zm 36 11,
 za 37 36 1,
 zm 11 37])))
def c_slices_breakPatternsCmpFunc_api_Edge_ : C :=
 .seq (.reg [zm 13 2,
 zm 14 1,
 zb 15 .sub 13 14,
 zm 8 15])
 (.seq (.reg [zm 16 8,
 zq 17 (.bin .geq (.t 16) (.c (.int .i64 8)))])
 (.cond (.t 17) (.seq (.reg [zm 18 8,
 zq 19 (.cvi .u64 (.t 18)),
 zq 9 (.alc 0 1 (.int .u64 0)),
 zs 1 9 19])
  (.seq (.reg [zm 20 8,
 zq 21 (.call f_slices_nextPowerOfTwo [(.t 20)] []),
 zm 10 21])
  (.seq (.reg [zm 22 1,
 zm 23 8,
 zq 24 (.bin .quo (.t 23) (.c (.int .i64 4))),
 zq 25 (.bin .mul (.t 24) (.c (.int .i64 2))),
 zb 26 .add 22 25,
 zq 27 (.bin .sub (.t 26) (.c (.int .i64 1))),
 zm 11 27])
  (.blk 0 (l_slices_breakPatternsCmpFunc_api_Edge__0))))) (.skip)))
def s_slices_breakPatternsCmpFunc_api_Edge_ : List Nat := [9]
def F_slices_breakPatternsCmpFunc_api_Edge_ : IF := ⟨4, 67, 1, c_slices_breakPatternsCmpFunc_api_Edge_, [], true, false, false⟩
def c_slices_choosePivotCmpFunc_api_Edge_ : C :=
 .seq (.reg [zk 8 0,
 zk 9 0])
 (.seq (.reg [zm 15 2,
 zm 16 1,
 zb 17 .sub 15 16,
 zm 10 17])
 (.seq (.reg [zq 11 (.alc 0 1 (.int .i64 0))])
 (.seq (.reg [zm 18 1,
 zm 19 10,
 zq 20 (.bin .quo (.t 19) (.c (.int .i64 4))),
 zq 21 (.bin .mul (.t 20) (.c (.int .i64 1))),
 zb 22 .add 18 21,
 zm 12 22])
 (.seq (.reg [zm 23 1,
 zm 24 10,
 zq 25 (.bin .quo (.t 24) (.c (.int .i64 4))),
 zq 26 (.bin .mul (.t 25) (.c (.int .i64 2))),
 zb 27 .add 23 26,
 zm 13 27])
 (.seq (.reg [zm 28 1,
 zm 29 10,
 zq 30 (.bin .quo (.t 29) (.c (.int .i64 4))),
 zq 31 (.bin .mul (.t 30) (.c (.int .i64 3))),
 zb 32 .add 28 31,
 zm 14 32])
 (.seq (.seq (.reg [zm 33 10,
 zq 34 (.bin .geq (.t 33) (.c (.int .i64 8)))])
 (.cond (.t 34) (.seq (.seq (.reg [zm 35 10,
 zq 36 (.bin .geq (.t 35) (.c (.int .i64 50)))])
  (.cond (.t 36) (.seq (.reg [zm 37 0,
 zm 38 12,
 zm 39 3,
 zq 40 (.call f_slices_medianAdjacentCmpFunc_api_Edge_ [(.t 37), (.t 38), (.t 11), (.t 39)] []),
 zm 12 40])
  (.seq (.reg [zm 41 0,
 zm 42 13,
 zm 43 3,
 zq 44 (.call f_slices_medianAdjacentCmpFunc_api_Edge_ [(.t 41), (.t 42), (.t 11), (.t 43)] []),
 zm 13 44])
  (.reg [zm 45 0,
 zm 46 14,
 zm 47 3,
 zq 48 (.call f_slices_medianAdjacentCmpFunc_api_Edge_ [(.t 45), (.t 46), (.t 11), (.t 47)] []),
 zm 14 48]))) (.skip)))
  (.reg [zm 49 0,
 zm 50 12,
 zm 51 13,
 zm 52 14,
 zm 53 3,
 zq 54 (.call f_slices_medianCmpFunc_api_Edge_ [(.t 49), (.t 50), (.t 51), (.t 52), (.t 11), (.t 53)] []),
 zm 13 54])) (.skip)))
 (.seq (.reg [zl 55 1 11])
 (.blk 0 (.seq (.reg [zq 58 (.bin .eql (.t 55) (.c (.int .i64 0))),
 zm 57 58])
  (.cond (.t 57) (.seq (.reg [zm 59 13,
 zm 8 59,
 zk 9 1])
  (.ret)) (.seq (.reg [zq 61 (.bin .eql (.t 55) (.c (.int .i64 12))),
 zm 60 61])
  (.cond (.t 60) (.seq (.reg [zm 62 13,
 zm 8 62,
 zk 9 2])
  (.ret)) (.seq (.reg [zm 56 13,
 zm 8 56,
 zk 9 0])
  (.ret))))))))))))))
def s_slices_choosePivotCmpFunc_api_Edge_ : List Nat := [11]
def F_slices_choosePivotCmpFunc_api_Edge_ : IF := ⟨4, 63, 1, c_slices_choosePivotCmpFunc_api_Edge_, [(8, none), (9, none)], true, false, false⟩
def l_slices_reverseRangeCmpFunc_api_Edge__0 : C :=
 .loop (rest 34 [0, 8, 9]) [] (.seq (.seq (.reg [zm 13 8,
 zm 14 9,
 zb 15 .lss 13 14])
 (.cond (.t 15) (.skip) (.exit 0)))
 (.blk 1 (.seq (.drw [zm 16 0,
 zm 17 8,
 zm 18 0,
 zm 19 9,
 zm 20 0,
 zm 21 9,
 zi 22 2 20 21,
 zL 23 2 22,
 zm 24 0,
 zm 25 8,
 zi 26 2 24 25,
 zL 27 2 26,
 zi 28 2 16 17,
 zs 2 28 23,
 zi 29 2 18 19,
 zs 2 29 27] [])
  (.seq (.reg [zm 30 8,
 za 31 30 1,
 zm 8 31])
  (.reg [zm 32 9,
 zq 33 (.bin .sub (.t 32) (.c (.int .i64 1))),
 zm 9 33])))))
def c_slices_reverseRangeCmpFunc_api_Edge_ : C :=
 .seq (.reg [zm 10 1,
 zm 8 10])
 (.seq (.reg [zm 11 2,
 zq 12 (.bin .sub (.t 11) (.c (.int .i64 1))),
 zm 9 12])
 (.blk 0 (l_slices_reverseRangeCmpFunc_api_Edge__0)))
def s_slices_reverseRangeCmpFunc_api_Edge_ : List Nat := []
def F_slices_reverseRangeCmpFunc_api_Edge_ : IF := ⟨4, 34, 0, c_slices_reverseRangeCmpFunc_api_Edge_, [], true, false, false⟩
def l_slices_partialInsertionSortCmpFunc_api_Edge__2 : C :=
 .loop (rest 141 [0, 1, 2, 3, 9, 10]) [] (.seq (.seq (.drw [zm 19 9,
 zm 20 2,
 zb 21 .lss 19 20,
 zm 22 21,
 zmg 23 3 22 true,
 zmg 24 0 22 true,
 zmg 25 9 22 true,
 zg 26 (.iad 2 (.t 24) (.t 25)) 22 true,
 zg 27 (.ld true 2 (.t 26)) 22 true,
 zmg 28 0 22 true,
 zmg 29 9 22 true,
 zg 30 (.bin .sub (.t 29) (.c (.int .i64 1))) 22 true,
 zg 31 (.iad 2 (.t 28) (.t 30)) 22 true,
 zg 32 (.ld true 2 (.t 31)) 22 true,
 zg 33 (.calv (.t 23) [(.t 27), (.t 32)] []) 22 true,
 zg 34 (.bin .lss (.t 33) (.c (.int .i64 0))) 22 true,
 zg 35 (.un .not (.t 34)) 22 true,
 zu 36 22 35] [])
 (.cond (.t 36) (.skip) (.exit 2)))
 (.blk 3 (.reg [zm 37 9,
 za 38 37 1,
 zm 9 38])))
def l_slices_partialInsertionSortCmpFunc_api_Edge__4 : C :=
 .loop (rest 141 [0, 1, 2, 3, 9, 10, 11]) [] (.seq (.seq (.reg [zm 68 11,
 zq 69 (.bin .geq (.t 68) (.c (.int .i64 1)))])
 (.cond (.t 69) (.skip) (.exit 4)))
 (.seq (.blk 5 (.seq (.seq (.drw [zm 72 3,
 zm 73 0,
 zm 74 11,
 zi 75 2 73 74,
 zL 76 2 75,
 zm 77 0,
 zm 78 11,
 zq 79 (.bin .sub (.t 78) (.c (.int .i64 1))),
 zi 80 2 77 79,
 zL 81 2 80,
 zq 82 (.calv (.t 72) [(.t 76), (.t 81)] []),
 zq 83 (.bin .lss (.t 82) (.c (.int .i64 0))),
 zq 84 (.un .not (.t 83))] [])
  (.cond (.t 84) (.exit 4) (.skip)))
  (.drw [zm 85 0,
 zm 86 11,
 zm 87 0,
 zm 88 11,
 zq 89 (.bin .sub (.t 88) (.c (.int .i64 1))),
 zm 90 0,
 zm 91 11,
 zq 92 (.bin .sub (.t 91) (.c (.int .i64 1))),
 zi 93 2 90 92,
 zL 94 2 93,
 zm 95 0,
 zm 96 11,
 zi 97 2 95 96,
 zL 98 2 97,
 zi 99 2 85 86,
 zs 2 99 94,
 zi 100 2 87 89,
 zs 2 100 98] [])))
 (.reg [zm 70 11,
 zq 71 (.bin .sub (.t 70) (.c (.int .i64 1))),
 zm 11 71])))
def l_slices_partialInsertionSortCmpFunc_api_Edge__6 : C :=
 .loop (rest 141 [0, 1, 2, 3, 9, 10, 12]) [] (.seq (.seq (.reg [zm 107 12,
 zm 108 2,
 zb 109 .lss 107 108])
 (.cond (.t 109) (.skip) (.exit 6)))
 (.seq (.blk 7 (.seq (.seq (.drw [zm 112 3,
 zm 113 0,
 zm 114 12,
 zi 115 2 113 114,
 zL 116 2 115,
 zm 117 0,
 zm 118 12,
 zq 119 (.bin .sub (.t 118) (.c (.int .i64 1))),
 zi 120 2 117 119,
 zL 121 2 120,
 zq 122 (.calv (.t 112) [(.t 116), (.t 121)] []),
 zq 123 (.bin .lss (.t 122) (.c (.int .i64 0))),
 zq 124 (.un .not (.t 123))] [])
  (.cond (.t 124) (.exit 6) (.skip)))
  (.drw [zm 125 0,
 zm 126 12,
 zm 127 0,
 zm 128 12,
 zq 129 (.bin .sub (.t 128) (.c (.int .i64 1))),
 zm 130 0,
 zm 131 12,
 zq 132 (.bin .sub (.t 131) (.c (.int .i64 1))),
 zi 133 2 130 132,
 zL 134 2 133,
 zm 135 0,
 zm 136 12,
 zi 137 2 135 136,
 zL 138 2 137,
 zi 139 2 125 126,
 zs 2 139 134,
 zi 140 2 127 129,
 zs 2 140 138] [])))
 (.reg [zm 110 12,
 za 111 110 1,
 zm 12 111])))
def l_slices_partialInsertionSortCmpFunc_api_Edge__0 : C :=
 .loop (rest 141 [0, 1, 2, 3, 9, 10]) [] (.seq (.seq (.reg [zm 15 10,
 zq 16 (.bin .lss (.t 15) (.c (.int .i64 5)))])
 (.cond (.t 16) (.skip) (.exit 0)))
 (.seq (.blk 1 (.seq (.blk 2 (l_slices_partialInsertionSortCmpFunc_api_Edge__2))
  (.seq (.seq (.reg [zm 39 9,
 zm 40 2,
 zb 41 .eql 39 40])
  (.cond (.t 41) (.seq (.reg [zo 8 true])
   (.ret)) (.skip)))
  (.seq (.seq (.reg [zm 42 2,
 zm 43 1,
 zb 44 .sub 42 43,
 zq 45 (.bin .lss (.t 44) (.c (.int .i64 50)))])
  (.cond (.t 45) (.seq (.reg [zo 8 false])
   (.ret)) (.skip)))
  (.seq (.drw [zm 46 0,
 zm 47 9,
 zm 48 0,
 zm 49 9,
 zq 50 (.bin .sub (.t 49) (.c (.int .i64 1))),
 zm 51 0,
 zm 52 9,
 zq 53 (.bin .sub (.t 52) (.c (.int .i64 1))),
 zi 54 2 51 53,
 zL 55 2 54,
 zm 56 0,
 zm 57 9,
 zi 58 2 56 57,
 zL 59 2 58,
 zi 60 2 46 47,
 zs 2 60 55,
 zi 61 2 48 50,
 zs 2 61 59] [])
  (.seq (.seq (.reg [zm 62 9,
 zm 63 1,
 zb 64 .sub 62 63,
 zq 65 (.bin .geq (.t 64) (.c (.int .i64 2)))])
  (.cond (.t 65) (.seq (.reg [zm 66 9,
 zq 67 (.bin .sub (.t 66) (.c (.int .i64 1))),
 zm 11 67])
  (.blk 4 (l_slices_partialInsertionSortCmpFunc_api_Edge__4))) (.skip)))
  (.seq (.reg [zm 101 2,
 zm 102 9,
 zb 103 .sub 101 102,
 zq 104 (.bin .geq (.t 103) (.c (.int .i64 2)))])
  (.cond (.t 104) (.seq (.reg [zm 105 9,
 za 106 105 1,
 zm 12 106])
  (.blk 6 (l_slices_partialInsertionSortCmpFunc_api_Edge__6))) (.skip)))))))))
 (.reg [zm 17 10,
 za 18 17 1,
 zm 10 18])))
def c_slices_partialInsertionSortCmpFunc_api_Edge_ : C :=
 .seq (.reg [zo 8 false])
 (.seq (.reg [zm 13 1,
 za 14 13 1,
 zm 9 14])
 (.seq (.seq (.reg [zk 10 0])
 (.blk 0 (l_slices_partialInsertionSortCmpFunc_api_Edge__0)))
 (.seq (.reg [zo 8 false])
 (.ret))))
def s_slices_partialInsertionSortCmpFunc_api_Edge_ : List Nat := []
def F_slices_partialInsertionSortCmpFunc_api_Edge_ : IF := ⟨4, 141, 0, c_slices_partialInsertionSortCmpFunc_api_Edge_, [(8, none)], true, false, false⟩
def l_slices_partitionEqualCmpFunc_api_Edge__2 : C :=
 .loop (rest 90 [0, 1, 4, 11, 12]) [] (.seq (.seq (.drw [zm 31 11,
 zm 32 12,
 zb 33 .leq 31 32,
 zm 34 33,
 zmg 35 4 34 true,
 zmg 36 0 34 true,
 zmg 37 1 34 true,
 zg 38 (.iad 2 (.t 36) (.t 37)) 34 true,
 zg 39 (.ld true 2 (.t 38)) 34 true,
 zmg 40 0 34 true,
 zmg 41 11 34 true,
 zg 42 (.iad 2 (.t 40) (.t 41)) 34 true,
 zg 43 (.ld true 2 (.t 42)) 34 true,
 zg 44 (.calv (.t 35) [(.t 39), (.t 43)] []) 34 true,
 zg 45 (.bin .lss (.t 44) (.c (.int .i64 0))) 34 true,
 zg 46 (.un .not (.t 45)) 34 true,
 zu 47 34 46] [])
 (.cond (.t 47) (.skip) (.exit 2)))
 (.blk 3 (.reg [zm 48 11,
 za 49 48 1,
 zm 11 49])))
def l_slices_partitionEqualCmpFunc_api_Edge__4 : C :=
 .loop (rest 90 [0, 1, 4, 11, 12]) [] (.seq (.seq (.drw [zm 50 11,
 zm 51 12,
 zb 52 .leq 50 51,
 zm 53 52,
 zmg 54 4 53 true,
 zmg 55 0 53 true,
 zmg 56 1 53 true,
 zg 57 (.iad 2 (.t 55) (.t 56)) 53 true,
 zg 58 (.ld true 2 (.t 57)) 53 true,
 zmg 59 0 53 true,
 zmg 60 12 53 true,
 zg 61 (.iad 2 (.t 59) (.t 60)) 53 true,
 zg 62 (.ld true 2 (.t 61)) 53 true,
 zg 63 (.calv (.t 54) [(.t 58), (.t 62)] []) 53 true,
 zg 64 (.bin .lss (.t 63) (.c (.int .i64 0))) 53 true,
 zu 65 53 64] [])
 (.cond (.t 65) (.skip) (.exit 4)))
 (.blk 5 (.reg [zm 66 12,
 zq 67 (.bin .sub (.t 66) (.c (.int .i64 1))),
 zm 12 67])))
def l_slices_partitionEqualCmpFunc_api_Edge__0 : C :=
 .loop (rest 90 [0, 1, 4, 11, 12]) [] (.blk 1 (.seq (.blk 2 (l_slices_partitionEqualCmpFunc_api_Edge__2))
  (.seq (.blk 4 (l_slices_partitionEqualCmpFunc_api_Edge__4))
  (.seq (.seq (.reg [zm 68 11,
 zm 69 12,
 zb 70 .gtr 68 69])
  (.cond (.t 70) (.exit 0) (.skip)))
  (.seq (.drw [zm 71 0,
 zm 72 11,
 zm 73 0,
 zm 74 12,
 zm 75 0,
 zm 76 12,
 zi 77 2 75 76,
 zL 78 2 77,
 zm 79 0,
 zm 80 11,
 zi 81 2 79 80,
 zL 82 2 81,
 zi 83 2 71 72,
 zs 2 83 78,
 zi 84 2 73 74,
 zs 2 84 82] [])
  (.seq (.reg [zm 85 11,
 za 86 85 1,
 zm 11 86])
  (.reg [zm 87 12,
 zq 88 (.bin .sub (.t 87) (.c (.int .i64 1))),
 zm 12 88])))))))
def c_slices_partitionEqualCmpFunc_api_Edge_ : C :=
 .seq (.reg [zk 10 0])
 (.seq (.drw [zm 13 0,
 zm 14 1,
 zm 15 0,
 zm 16 3,
 zm 17 0,
 zm 18 3,
 zi 19 2 17 18,
 zL 20 2 19,
 zm 21 0,
 zm 22 1,
 zi 23 2 21 22,
 zL 24 2 23,
 zi 25 2 13 14,
 zs 2 25 20,
 zi 26 2 15 16,
 zs 2 26 24] [])
 (.seq (.reg [zm 27 1,
 za 28 27 1,
 zm 29 2,
 zq 30 (.bin .sub (.t 29) (.c (.int .i64 1))),
 zm 11 28,
 zm 12 30])
 (.seq (.blk 0 (l_slices_partitionEqualCmpFunc_api_Edge__0))
 (.seq (.reg [zm 89 11,
 zm 10 89])
 (.ret)))))
def s_slices_partitionEqualCmpFunc_api_Edge_ : List Nat := []
def F_slices_partitionEqualCmpFunc_api_Edge_ : IF := ⟨5, 90, 0, c_slices_partitionEqualCmpFunc_api_Edge_, [(10, none)], true, false, false⟩
def l_slices_partitionCmpFunc_api_Edge__0 : C :=
 .loop (rest 178 [0, 1, 4, 12, 13]) [] (.seq (.seq (.drw [zm 32 12,
 zm 33 13,
 zb 34 .leq 32 33,
 zm 35 34,
 zmg 36 4 35 true,
 zmg 37 0 35 true,
 zmg 38 12 35 true,
 zg 39 (.iad 2 (.t 37) (.t 38)) 35 true,
 zg 40 (.ld true 2 (.t 39)) 35 true,
 zmg 41 0 35 true,
 zmg 42 1 35 true,
 zg 43 (.iad 2 (.t 41) (.t 42)) 35 true,
 zg 44 (.ld true 2 (.t 43)) 35 true,
 zg 45 (.calv (.t 36) [(.t 40), (.t 44)] []) 35 true,
 zg 46 (.bin .lss (.t 45) (.c (.int .i64 0))) 35 true,
 zu 47 35 46] [])
 (.cond (.t 47) (.skip) (.exit 0)))
 (.blk 1 (.reg [zm 48 12,
 za 49 48 1,
 zm 12 49])))
def l_slices_partitionCmpFunc_api_Edge__2 : C :=
 .loop (rest 178 [0, 1, 4, 12, 13]) [] (.seq (.seq (.drw [zm 50 12,
 zm 51 13,
 zb 52 .leq 50 51,
 zm 53 52,
 zmg 54 4 53 true,
 zmg 55 0 53 true,
 zmg 56 13 53 true,
 zg 57 (.iad 2 (.t 55) (.t 56)) 53 true,
 zg 58 (.ld true 2 (.t 57)) 53 true,
 zmg 59 0 53 true,
 zmg 60 1 53 true,
 zg 61 (.iad 2 (.t 59) (.t 60)) 53 true,
 zg 62 (.ld true 2 (.t 61)) 53 true,
 zg 63 (.calv (.t 54) [(.t 58), (.t 62)] []) 53 true,
 zg 64 (.bin .lss (.t 63) (.c (.int .i64 0))) 53 true,
 zg 65 (.un .not (.t 64)) 53 true,
 zu 66 53 65] [])
 (.cond (.t 66) (.skip) (.exit 2)))
 (.blk 3 (.reg [zm 67 13,
 zq 68 (.bin .sub (.t 67) (.c (.int .i64 1))),
 zm 13 68])))
def l_slices_partitionCmpFunc_api_Edge__6 : C :=
 .loop (rest 178 [0, 1, 4, 12, 13]) [] (.seq (.seq (.drw [zm 105 12,
 zm 106 13,
 zb 107 .leq 105 106,
 zm 108 107,
 zmg 109 4 108 true,
 zmg 110 0 108 true,
 zmg 111 12 108 true,
 zg 112 (.iad 2 (.t 110) (.t 111)) 108 true,
 zg 113 (.ld true 2 (.t 112)) 108 true,
 zmg 114 0 108 true,
 zmg 115 1 108 true,
 zg 116 (.iad 2 (.t 114) (.t 115)) 108 true,
 zg 117 (.ld true 2 (.t 116)) 108 true,
 zg 118 (.calv (.t 109) [(.t 113), (.t 117)] []) 108 true,
 zg 119 (.bin .lss (.t 118) (.c (.int .i64 0))) 108 true,
 zu 120 108 119] [])
 (.cond (.t 120) (.skip) (.exit 6)))
 (.blk 7 (.reg [zm 121 12,
 za 122 121 1,
 zm 12 122])))
def l_slices_partitionCmpFunc_api_Edge__8 : C :=
 .loop (rest 178 [0, 1, 4, 12, 13]) [] (.seq (.seq (.drw [zm 123 12,
 zm 124 13,
 zb 125 .leq 123 124,
 zm 126 125,
 zmg 127 4 126 true,
 zmg 128 0 126 true,
 zmg 129 13 126 true,
 zg 130 (.iad 2 (.t 128) (.t 129)) 126 true,
 zg 131 (.ld true 2 (.t 130)) 126 true,
 zmg 132 0 126 true,
 zmg 133 1 126 true,
 zg 134 (.iad 2 (.t 132) (.t 133)) 126 true,
 zg 135 (.ld true 2 (.t 134)) 126 true,
 zg 136 (.calv (.t 127) [(.t 131), (.t 135)] []) 126 true,
 zg 137 (.bin .lss (.t 136) (.c (.int .i64 0))) 126 true,
 zg 138 (.un .not (.t 137)) 126 true,
 zu 139 126 138] [])
 (.cond (.t 139) (.skip) (.exit 8)))
 (.blk 9 (.reg [zm 140 13,
 zq 141 (.bin .sub (.t 140) (.c (.int .i64 1))),
 zm 13 141])))
def l_slices_partitionCmpFunc_api_Edge__4 : C :=
 .loop (rest 178 [0, 1, 4, 12, 13]) [] (.blk 5 (.seq (.blk 6 (l_slices_partitionCmpFunc_api_Edge__6))
  (.seq (.blk 8 (l_slices_partitionCmpFunc_api_Edge__8))
  (.seq (.seq (.reg [zm 142 12,
 zm 143 13,
 zb 144 .gtr 142 143])
  (.cond (.t 144) (.exit 4) (.skip)))
  (.seq (.drw [zm 145 0,
 zm 146 12,
 zm 147 0,
 zm 148 13,
 zm 149 0,
 zm 150 13,
 zi 151 2 149 150,
 zL 152 2 151,
 zm 153 0,
 zm 154 12,
 zi 155 2 153 154,
 zL 156 2 155,
 zi 157 2 145 146,
 zs 2 157 152,
 zi 158 2 147 148,
 zs 2 158 156] [])
  (.seq (.reg [zm 159 12,
 za 160 159 1,
 zm 12 160])
  (.reg [zm 161 13,
 zq 162 (.bin .sub (.t 161) (.c (.int .i64 1))),
 zm 13 162])))))))
def c_slices_partitionCmpFunc_api_Edge_ : C :=
 .seq (.reg [zk 10 0,
 zo 11 false])
 (.seq (.drw [zm 14 0,
 zm 15 1,
 zm 16 0,
 zm 17 3,
 zm 18 0,
 zm 19 3,
 zi 20 2 18 19,
 zL 21 2 20,
 zm 22 0,
 zm 23 1,
 zi 24 2 22 23,
 zL 25 2 24,
 zi 26 2 14 15,
 zs 2 26 21,
 zi 27 2 16 17,
 zs 2 27 25] [])
 (.seq (.reg [zm 28 1,
 za 29 28 1,
 zm 30 2,
 zq 31 (.bin .sub (.t 30) (.c (.int .i64 1))),
 zm 12 29,
 zm 13 31])
 (.seq (.blk 0 (l_slices_partitionCmpFunc_api_Edge__0))
 (.seq (.blk 2 (l_slices_partitionCmpFunc_api_Edge__2))
 (.seq (.seq (.reg [zm 69 12,
 zm 70 13,
 zb 71 .gtr 69 70])
 (.cond (.t 71) (.seq (.drw [zm 72 0,
 zm 73 13,
 zm 74 0,
 zm 75 1,
 zm 76 0,
 zm 77 1,
 zi 78 2 76 77,
 zL 79 2 78,
 zm 80 0,
 zm 81 13,
 zi 82 2 80 81,
 zL 83 2 82,
 zi 84 2 72 73,
 zs 2 84 79,
 zi 85 2 74 75,
 zs 2 85 83] [])
  (.seq (.reg [zm 86 13,
 zm 10 86,
 zo 11 true])
  (.ret))) (.skip)))
 (.seq (.drw [zm 87 0,
 zm 88 12,
 zm 89 0,
 zm 90 13,
 zm 91 0,
 zm 92 13,
 zi 93 2 91 92,
 zL 94 2 93,
 zm 95 0,
 zm 96 12,
 zi 97 2 95 96,
 zL 98 2 97,
 zi 99 2 87 88,
 zs 2 99 94,
 zi 100 2 89 90,
 zs 2 100 98] [])
 (.seq (.reg [zm 101 12,
 za 102 101 1,
 zm 12 102])
 (.seq (.reg [zm 103 13,
 zq 104 (.bin .sub (.t 103) (.c (.int .i64 1))),
 zm 13 104])
 (.seq (.blk 4 (l_slices_partitionCmpFunc_api_Edge__4))
 (.seq (.drw [zm 163 0,
 zm 164 13,
 zm 165 0,
 zm 166 1,
 zm 167 0,
 zm 168 1,
 zi 169 2 167 168,
 zL 170 2 169,
 zm 171 0,
 zm 172 13,
 zi 173 2 171 172,
 zL 174 2 173,
 zi 175 2 163 164,
 zs 2 175 170,
 zi 176 2 165 166,
 zs 2 176 174] [])
 (.seq (.reg [zm 177 13,
 zm 10 177,
 zo 11 false])
 (.ret))))))))))))
def s_slices_partitionCmpFunc_api_Edge_ : List Nat := []
def F_slices_partitionCmpFunc_api_Edge_ : IF := ⟨5, 178, 0, c_slices_partitionCmpFunc_api_Edge_, [(10, none), (11, none)], true, false, false⟩
def l_slices_siftDownOrdered_int__0 : C :=
 .loop (rest 76 [0, 2, 3, 8]) [] (.blk 1 (.seq (.reg [zm 11 8,
 zq 12 (.bin .mul (.c (.int .i64 2)) (.t 11)),
 za 13 12 1,
 zm 9 13])
  (.seq (.seq (.reg [zm 14 9,
 zm 15 2,
 zb 16 .geq 14 15])
  (.cond (.t 16) (.exit 0) (.skip)))
  (.seq (.seq (.drw [zm 17 9,
 za 18 17 1,
 zm 19 2,
 zb 20 .lss 18 19,
 zm 21 20,
 zmg 22 0 21 true,
 zmg 23 3 21 true,
 zmg 24 9 21 true,
 zg 25 (.bin .add (.t 23) (.t 24)) 21 true,
 zg 26 (.iad 1 (.t 22) (.t 25)) 21 true,
 zlg 27 1 26 21 true,
 zmg 28 0 21 true,
 zmg 29 3 21 true,
 zmg 30 9 21 true,
 zg 31 (.bin .add (.t 29) (.t 30)) 21 true,
 zg 32 (.bin .add (.t 31) (.c (.int .i64 1))) 21 true,
 zg 33 (.iad 1 (.t 28) (.t 32)) 21 true,
 zlg 34 1 33 21 true,
 zg 35 (.call f_cmp_Less_int_ [(.t 27), (.t 34)] []) 21 true,
 zu 36 21 35] [])
  (.cond (.t 36) (.reg [zm 37 9,
 za 38 37 1,
 zm 9 38]) (.skip)))
  (.seq (.seq (.drw [zm 39 0,
 zm 40 3,
 zm 41 8,
 zb 42 .add 40 41,
 zi 43 1 39 42,
 zl 44 1 43,
 zm 45 0,
 zm 46 3,
 zm 47 9,
 zb 48 .add 46 47,
 zi 49 1 45 48,
 zl 50 1 49,
 zq 51 (.call f_cmp_Less_int_ [(.t 44), (.t 50)] []),
 zq 52 (.un .not (.t 51))] [])
  (.cond (.t 52) (.ret) (.skip)))
  (.seq (.drw [zm 53 0,
 zm 54 3,
 zm 55 8,
 zb 56 .add 54 55,
 zm 57 0,
 zm 58 3,
 zm 59 9,
 zb 60 .add 58 59,
 zm 61 0,
 zm 62 3,
 zm 63 9,
 zb 64 .add 62 63,
 zi 65 1 61 64,
 zl 66 1 65,
 zm 67 0,
 zm 68 3,
 zm 69 8,
 zb 70 .add 68 69,
 zi 71 1 67 70,
 zl 72 1 71,
 zi 73 1 53 56,
 zs 1 73 66,
 zi 74 1 57 60,
 zs 1 74 72] [])
  (.reg [zm 75 9,
 zm 8 75])))))))
def c_slices_siftDownOrdered_int_ : C :=
 .seq (.reg [zm 10 1,
 zm 8 10])
 (.blk 0 (l_slices_siftDownOrdered_int__0))
def s_slices_siftDownOrdered_int_ : List Nat := []
def F_slices_siftDownOrdered_int_ : IF := ⟨4, 76, 0, c_slices_siftDownOrdered_int_, [], false, false, false⟩
def c_slices_nextPowerOfTwo : C :=
 .seq (.reg [zq 2 (.mov (.c (.int .u64 0)))])
 (.seq (.reg [zm 3 0,
 zq 4 (.cvi .u64 (.t 3)),
 zq 5 (.call f_math_bits_Len [(.t 4)] []),
 zq 6 (.bin .shl (.c (.int .u64 1)) (.t 5)),
 zm 2 6])
 (.ret))
def s_slices_nextPowerOfTwo : List Nat := []
def F_slices_nextPowerOfTwo : IF := ⟨1, 7, 0, c_slices_nextPowerOfTwo, [(2, none)], true, false, false⟩
def c___slices_xorshift__Next : C :=
 .seq (.reg [zq 2 (.mov (.c (.int .u64 0)))])
 (.seq (.drw [zm 3 0,
 zf 4 0 3,
 zl 5 1 4,
 zm 6 0,
 zf 7 0 6,
 zl 8 1 7,
 zq 9 (.bin .shl (.t 8) (.c (.int .u64 13))),
 zb 10 .xor 5 9,
 zf 11 0 3,
 zs 1 11 10] [])
 (.seq (.drw [zm 12 0,
 zf 13 0 12,
 zl 14 1 13,
 zm 15 0,
 zf 16 0 15,
 zl 17 1 16,
 zq 18 (.bin .shr (.t 17) (.c (.int .u64 7))),
 zb 19 .xor 14 18,
 zf 20 0 12,
 zs 1 20 19] [])
 (.seq (.drw [zm 21 0,
 zf 22 0 21,
 zl 23 1 22,
 zm 24 0,
 zf 25 0 24,
 zl 26 1 25,
 zq 27 (.bin .shl (.t 26) (.c (.int .u64 17))),
 zb 28 .xor 23 27,
 zf 29 0 21,
 zs 1 29 28] [])
 (.seq (.reg [zm 30 0,
 zf 31 0 30,
 zl 32 1 31,
 zm 2 32])
 (.ret)))))
def s___slices_xorshift__Next : List Nat := []
def F___slices_xorshift__Next : IF := ⟨1, 33, 0, c___slices_xorshift__Next, [(2, none)], false, false, false⟩
def c_slices_medianAdjacentOrdered_int_ : C :=
 .seq (.reg [zk 6 0])
 (.seq (.reg [zm 7 0,
 zm 8 1,
 zq 9 (.bin .sub (.t 8) (.c (.int .i64 1))),
 zm 10 1,
 zm 11 1,
 za 12 11 1,
 zm 13 2,
 zq 14 (.call f_slices_medianOrdered_int_ [(.t 7), (.t 9), (.t 10), (.t 12), (.t 13)] []),
 zm 6 14])
 (.ret))
def s_slices_medianAdjacentOrdered_int_ : List Nat := []
def F_slices_medianAdjacentOrdered_int_ : IF := ⟨3, 15, 0, c_slices_medianAdjacentOrdered_int_, [(6, none)], false, false, false⟩
def c_slices_medianOrdered_int_ : C :=
 .seq (.reg [zk 10 0])
 (.seq (.reg [zm 12 0,
 zm 13 1,
 zm 14 2,
 zm 15 4,
 zq 16 (.call f_slices_order2Ordered_int_ [(.t 12), (.t 13), (.t 14), (.t 15)] []),
 zm 11 16,
 zq 17 (.ext (.t 11) 0),
 zq 18 (.ext (.t 11) 1),
 zm 1 17,
 zm 2 18])
 (.seq (.reg [zm 20 0,
 zm 21 2,
 zm 22 3,
 zm 23 4,
 zq 24 (.call f_slices_order2Ordered_int_ [(.t 20), (.t 21), (.t 22), (.t 23)] []),
 zm 19 24,
 zq 25 (.ext (.t 19) 0),
 zq 26 (.ext (.t 19) 1),
 zm 2 25,
 zm 3 26])
 (.seq (.reg [zm 28 0,
 zm 29 1,
 zm 30 2,
 zm 31 4,
 zq 32 (.call f_slices_order2Ordered_int_ [(.t 28), (.t 29), (.t 30), (.t 31)] []),
 zm 27 32,
 zq 33 (.ext (.t 27) 0),
 zq 34 (.ext (.t 27) 1),
 zm 1 33,
 zm 2 34])
 (.seq (.reg [zm 35 2,
 zm 10 35])
 (.ret)))))
def s_slices_medianOrdered_int_ : List Nat := []
def F_slices_medianOrdered_int_ : IF := ⟨5, 36, 0, c_slices_medianOrdered_int_, [(10, none)], false, false, false⟩
def c_cmp_isNaN_int_ : C :=
 .seq (.reg [zo 2 false])
 (.seq (.reg [zm 3 0,
 zm 4 0,
 zb 5 .neq 3 4,
 zm 2 5])
 (.ret))
def s_cmp_isNaN_int_ : List Nat := []
def F_cmp_isNaN_int_ : IF := ⟨1, 6, 0, c_cmp_isNaN_int_, [(2, none)], true, false, false⟩
def l_slices_siftDownCmpFunc_api_Edge__0 : C :=
 .loop (rest 82 [0, 2, 3, 4, 10]) [] (.blk 1 (.seq (.reg [zm 13 10,
 zq 14 (.bin .mul (.c (.int .i64 2)) (.t 13)),
 za 15 14 1,
 zm 11 15])
  (.seq (.seq (.reg [zm 16 11,
 zm 17 2,
 zb 18 .geq 16 17])
  (.cond (.t 18) (.exit 0) (.skip)))
  (.seq (.seq (.drw [zm 19 11,
 za 20 19 1,
 zm 21 2,
 zb 22 .lss 20 21,
 zm 23 22,
 zmg 24 4 23 true,
 zmg 25 0 23 true,
 zmg 26 3 23 true,
 zmg 27 11 23 true,
 zg 28 (.bin .add (.t 26) (.t 27)) 23 true,
 zg 29 (.iad 2 (.t 25) (.t 28)) 23 true,
 zg 30 (.ld true 2 (.t 29)) 23 true,
 zmg 31 0 23 true,
 zmg 32 3 23 true,
 zmg 33 11 23 true,
 zg 34 (.bin .add (.t 32) (.t 33)) 23 true,
 zg 35 (.bin .add (.t 34) (.c (.int .i64 1))) 23 true,
 zg 36 (.iad 2 (.t 31) (.t 35)) 23 true,
 zg 37 (.ld true 2 (.t 36)) 23 true,
 zg 38 (.calv (.t 24) [(.t 30), (.t 37)] []) 23 true,
 zg 39 (.bin .lss (.t 38) (.c (.int .i64 0))) 23 true,
 zu 40 23 39] [])
  (.cond (.t 40) (.reg [zm 41 11,
 za 42 41 1,
 zm 11 42]) (.skip)))
  (.seq (.seq (.drw [zm 43 4,
 zm 44 0,
 zm 45 3,
 zm 46 10,
 zb 47 .add 45 46,
 zi 48 2 44 47,
 zL 49 2 48,
 zm 50 0,
 zm 51 3,
 zm 52 11,
 zb 53 .add 51 52,
 zi 54 2 50 53,
 zL 55 2 54,
 zq 56 (.calv (.t 43) [(.t 49), (.t 55)] []),
 zq 57 (.bin .lss (.t 56) (.c (.int .i64 0))),
 zq 58 (.un .not (.t 57))] [])
  (.cond (.t 58) (.ret) (.skip)))
  (.seq (.drw [zm 59 0,
 zm 60 3,
 zm 61 10,
 zb 62 .add 60 61,
 zm 63 0,
 zm 64 3,
 zm 65 11,
 zb 66 .add 64 65,
 zm 67 0,
 zm 68 3,
 zm 69 11,
 zb 70 .add 68 69,
 zi 71 2 67 70,
 zL 72 2 71,
 zm 73 0,
 zm 74 3,
 zm 75 10,
 zb 76 .add 74 75,
 zi 77 2 73 76,
 zL 78 2 77,
 zi 79 2 59 62,
 zs 2 79 72,
 zi 80 2 63 66,
 zs 2 80 78] [])
  (.reg [zm 81 11,
 zm 10 81])))))))
def c_slices_siftDownCmpFunc_api_Edge_ : C :=
 .seq (.reg [zm 12 1,
 zm 10 12])
 (.blk 0 (l_slices_siftDownCmpFunc_api_Edge__0))
def s_slices_siftDownCmpFunc_api_Edge_ : List Nat := []
def F_slices_siftDownCmpFunc_api_Edge_ : IF := ⟨5, 82, 0, c_slices_siftDownCmpFunc_api_Edge_, [], true, false, false⟩
def c_slices_medianAdjacentCmpFunc_api_Edge_ : C :=
 .seq (.reg [zk 8 0])
 (.seq (.reg [zm 9 0,
 zm 10 1,
 zq 11 (.bin .sub (.t 10) (.c (.int .i64 1))),
 zm 12 1,
 zm 13 1,
 za 14 13 1,
 zm 15 2,
 zm 16 3,
 zq 17 (.call f_slices_medianCmpFunc_api_Edge_ [(.t 9), (.t 11), (.t 12), (.t 14), (.t 15), (.t 16)] []),
 zm 8 17])
 (.ret))
def s_slices_medianAdjacentCmpFunc_api_Edge_ : List Nat := []
def F_slices_medianAdjacentCmpFunc_api_Edge_ : IF := ⟨4, 18, 0, c_slices_medianAdjacentCmpFunc_api_Edge_, [(8, none)], true, false, false⟩
def c_slices_medianCmpFunc_api_Edge_ : C :=
 .seq (.reg [zk 12 0])
 (.seq (.reg [zm 14 0,
 zm 15 1,
 zm 16 2,
 zm 17 4,
 zm 18 5,
 zq 19 (.call f_slices_order2CmpFunc_api_Edge_ [(.t 14), (.t 15), (.t 16), (.t 17), (.t 18)] []),
 zm 13 19,
 zq 20 (.ext (.t 13) 0),
 zq 21 (.ext (.t 13) 1),
 zm 1 20,
 zm 2 21])
 (.seq (.reg [zm 23 0,
 zm 24 2,
 zm 25 3,
 zm 26 4,
 zm 27 5,
 zq 28 (.call f_slices_order2CmpFunc_api_Edge_ [(.t 23), (.t 24), (.t 25), (.t 26), (.t 27)] []),
 zm 22 28,
 zq 29 (.ext (.t 22) 0),
 zq 30 (.ext (.t 22) 1),
 zm 2 29,
 zm 3 30])
 (.seq (.reg [zm 32 0,
 zm 33 1,
 zm 34 2,
 zm 35 4,
 zm 36 5,
 zq 37 (.call f_slices_order2CmpFunc_api_Edge_ [(.t 32), (.t 33), (.t 34), (.t 35), (.t 36)] []),
 zm 31 37,
 zq 38 (.ext (.t 31) 0),
 zq 39 (.ext (.t 31) 1),
 zm 1 38,
 zm 2 39])
 (.seq (.reg [zm 40 2,
 zm 12 40])
 (.ret)))))
def s_slices_medianCmpFunc_api_Edge_ : List Nat := []
def F_slices_medianCmpFunc_api_Edge_ : IF := ⟨6, 41, 0, c_slices_medianCmpFunc_api_Edge_, [(12, none)], true, false, false⟩
def c_slices_order2Ordered_int_ : C :=
 .seq (.reg [zk 8 0,
 zk 9 0])
 (.seq (.seq (.drw [zm 10 0,
 zm 11 2,
 zi 12 1 10 11,
 zl 13 1 12,
 zm 14 0,
 zm 15 1,
 zi 16 1 14 15,
 zl 17 1 16,
 zq 18 (.call f_cmp_Less_int_ [(.t 13), (.t 17)] [])] [])
 (.cond (.t 18) (.seq (.reg [zm 19 3,
 zf 20 0 19,
 zl 21 1 20,
 za 22 21 1,
 zf 23 0 19,
 zs 1 23 22])
  (.seq (.reg [zm 24 2,
 zm 25 1,
 zm 8 24,
 zm 9 25])
  (.ret))) (.skip)))
 (.seq (.reg [zm 26 1,
 zm 27 2,
 zm 8 26,
 zm 9 27])
 (.ret)))
def s_slices_order2Ordered_int_ : List Nat := []
def F_slices_order2Ordered_int_ : IF := ⟨4, 28, 0, c_slices_order2Ordered_int_, [(8, none), (9, none)], false, false, false⟩
def c_slices_order2CmpFunc_api_Edge_ : C :=
 .seq (.reg [zk 10 0,
 zk 11 0])
 (.seq (.seq (.drw [zm 12 4,
 zm 13 0,
 zm 14 2,
 zi 15 2 13 14,
 zL 16 2 15,
 zm 17 0,
 zm 18 1,
 zi 19 2 17 18,
 zL 20 2 19,
 zq 21 (.calv (.t 12) [(.t 16), (.t 20)] []),
 zq 22 (.bin .lss (.t 21) (.c (.int .i64 0)))] [])
 (.cond (.t 22) (.seq (.reg [zm 23 3,
 zf 24 0 23,
 zl 25 1 24,
 za 26 25 1,
 zf 27 0 23,
 zs 1 27 26])
  (.seq (.reg [zm 28 2,
 zm 29 1,
 zm 10 28,
 zm 11 29])
  (.ret))) (.skip)))
 (.seq (.reg [zm 30 1,
 zm 31 2,
 zm 10 30,
 zm 11 31])
 (.ret)))
def s_slices_order2CmpFunc_api_Edge_ : List Nat := []
def F_slices_order2CmpFunc_api_Edge_ : IF := ⟨5, 32, 0, c_slices_order2CmpFunc_api_Edge_, [(10, none), (11, none)], true, false, false⟩
def G : Prg := fun f => match f with
 | 5 => some F_w04_PruneHollow
 | 6 => some F_w04_light
 | 7 => some F_w04_awake
 | 8 => some F_r03_Is
 | 10 => some F_prune_Trim
 | 11 => some F_r03_Copy
 | 13 => some F_r01_SameInts
 | 14 => some F_r04_Hollow
 | 15 => some F_prune_Some
 | 18 => some F_r04_Places
 | 19 => some F_r04_IsLadder
 | 20 => some F_prune_Hollow
 | 21 => some F_prune_Ladder
 | 22 => some F_prune_IsLadder
 | 23 => some F_r03_Few
 | 24 => some F_w04_twigs
 | 25 => some F_r01_Is
 | 26 => some F_r03_state
 | 30 => some F_spec_Valid
 | 31 => some F_prune_Trimmed
 | 33 => some F_r04_allFall
 | 34 => some F_prune_Witness
 | 37 => some F_slices_SortZitit
 | 38 => some F_prune_rungs
 | 39 => some F_prune_Rests
 | 40 => some F_r01_Name
 | 41 => some F_r01_Index
 | 42 => some F_r01_Rising
 | 43 => some F_r01_Set
 | 44 => some F_r01_List
 | 45 => some F_r04_falls
 | 46 => some F_r01_Has
 | 47 => some F_act_Valid
 | 48 => some F_slices_CloneZsgsg
 | 49 => some F_prune_Left
 | 50 => some F_spec_Nothing
 | 51 => some F_slices_RepeatZitit
 | 52 => some F_act_In
 | 53 => some F_slices_ContainsZitit
 | 54 => some F_slices_SortFuncZaiEeai
 | 55 => some F_prune_Witness_1
 | 58 => some F_slices_pdqsortOrdered_int_
 | 59 => some F_math_bits_Len
 | 60 => some F_prune_rungs_1
 | 61 => some F_r01_letter
 | 62 => some F_act_Name
 | 63 => some F_slices_ContainsZsgsg
 | 64 => some F_prune_Left_1
 | 65 => some F_prune_Hollows
 | 66 => some F_math_bits_Mul
 | 67 => some F_act_In_1
 | 68 => some F_slices_IndexZitit
 | 69 => some F_slices_pdqsortCmpFunc_api_Edge_
 | 71 => some F_slices_insertionSortOrdered_int_
 | 72 => some F_slices_heapSortOrdered_int_
 | 73 => some F_slices_breakPatternsOrdered_int_
 | 74 => some F_slices_choosePivotOrdered_int_
 | 75 => some F_slices_reverseRangeOrdered_int_
 | 76 => some F_slices_partialInsertionSortOrdered_int_
 | 77 => some F_cmp_Less_int_
 | 78 => some F_slices_partitionEqualOrdered_int_
 | 79 => some F_slices_partitionOrdered_int_
 | 80 => some F_math_bits_Len32
 | 81 => some F_math_bits_Len64
 | 82 => some F_act_letter
 | 83 => some F_slices_IndexZsgsg
 | 84 => some F_math_bits_Mul32
 | 85 => some F_math_bits_Mul64
 | 86 => some F_slices_insertionSortCmpFunc_api_Edge_
 | 87 => some F_slices_heapSortCmpFunc_api_Edge_
 | 88 => some F_slices_breakPatternsCmpFunc_api_Edge_
 | 89 => some F_slices_choosePivotCmpFunc_api_Edge_
 | 90 => some F_slices_reverseRangeCmpFunc_api_Edge_
 | 91 => some F_slices_partialInsertionSortCmpFunc_api_Edge_
 | 92 => some F_slices_partitionEqualCmpFunc_api_Edge_
 | 93 => some F_slices_partitionCmpFunc_api_Edge_
 | 96 => some F_slices_siftDownOrdered_int_
 | 97 => some F_slices_nextPowerOfTwo
 | 98 => some F___slices_xorshift__Next
 | 99 => some F_slices_medianAdjacentOrdered_int_
 | 100 => some F_slices_medianOrdered_int_
 | 101 => some F_cmp_isNaN_int_
 | 102 => some F_slices_siftDownCmpFunc_api_Edge_
 | 103 => some F_slices_medianAdjacentCmpFunc_api_Edge_
 | 104 => some F_slices_medianCmpFunc_api_Edge_
 | 106 => some F_slices_order2Ordered_int_
 | 107 => some F_slices_order2CmpFunc_api_Edge_
 | _ => none
theorem g_w04_PruneHollow : G f_w04_PruneHollow = some F_w04_PruneHollow := rfl
theorem pure_w04_PruneHollow : PureF G f_w04_PruneHollow := ⟨F_w04_PruneHollow, rfl, rfl⟩
theorem g_w04_light : G f_w04_light = some F_w04_light := rfl
theorem pure_w04_light : PureF G f_w04_light := ⟨F_w04_light, rfl, rfl⟩
theorem g_w04_awake : G f_w04_awake = some F_w04_awake := rfl
theorem pure_w04_awake : PureF G f_w04_awake := ⟨F_w04_awake, rfl, rfl⟩
theorem g_r03_Is : G f_r03_Is = some F_r03_Is := rfl
theorem pure_r03_Is : PureF G f_r03_Is := ⟨F_r03_Is, rfl, rfl⟩
theorem g_prune_Trim : G f_prune_Trim = some F_prune_Trim := rfl
theorem pure_prune_Trim : PureF G f_prune_Trim := ⟨F_prune_Trim, rfl, rfl⟩
theorem g_r03_Copy : G f_r03_Copy = some F_r03_Copy := rfl
theorem pure_r03_Copy : PureF G f_r03_Copy := ⟨F_r03_Copy, rfl, rfl⟩
theorem g_r01_SameInts : G f_r01_SameInts = some F_r01_SameInts := rfl
theorem pure_r01_SameInts : PureF G f_r01_SameInts := ⟨F_r01_SameInts, rfl, rfl⟩
theorem g_r04_Hollow : G f_r04_Hollow = some F_r04_Hollow := rfl
theorem pure_r04_Hollow : PureF G f_r04_Hollow := ⟨F_r04_Hollow, rfl, rfl⟩
theorem g_prune_Some : G f_prune_Some = some F_prune_Some := rfl
theorem pure_prune_Some : PureF G f_prune_Some := ⟨F_prune_Some, rfl, rfl⟩
theorem g_r04_Places : G f_r04_Places = some F_r04_Places := rfl
theorem pure_r04_Places : PureF G f_r04_Places := ⟨F_r04_Places, rfl, rfl⟩
theorem g_r04_IsLadder : G f_r04_IsLadder = some F_r04_IsLadder := rfl
theorem pure_r04_IsLadder : PureF G f_r04_IsLadder := ⟨F_r04_IsLadder, rfl, rfl⟩
theorem g_prune_Hollow : G f_prune_Hollow = some F_prune_Hollow := rfl
theorem pure_prune_Hollow : PureF G f_prune_Hollow := ⟨F_prune_Hollow, rfl, rfl⟩
theorem g_prune_Ladder : G f_prune_Ladder = some F_prune_Ladder := rfl
theorem pure_prune_Ladder : PureF G f_prune_Ladder := ⟨F_prune_Ladder, rfl, rfl⟩
theorem g_prune_IsLadder : G f_prune_IsLadder = some F_prune_IsLadder := rfl
theorem pure_prune_IsLadder : PureF G f_prune_IsLadder := ⟨F_prune_IsLadder, rfl, rfl⟩
theorem g_r03_Few : G f_r03_Few = some F_r03_Few := rfl
theorem pure_r03_Few : PureF G f_r03_Few := ⟨F_r03_Few, rfl, rfl⟩
theorem g_w04_twigs : G f_w04_twigs = some F_w04_twigs := rfl
theorem pure_w04_twigs : PureF G f_w04_twigs := ⟨F_w04_twigs, rfl, rfl⟩
theorem g_r01_Is : G f_r01_Is = some F_r01_Is := rfl
theorem pure_r01_Is : PureF G f_r01_Is := ⟨F_r01_Is, rfl, rfl⟩
theorem g_r03_state : G f_r03_state = some F_r03_state := rfl
theorem pure_r03_state : PureF G f_r03_state := ⟨F_r03_state, rfl, rfl⟩
theorem g_spec_Valid : G f_spec_Valid = some F_spec_Valid := rfl
theorem pure_spec_Valid : PureF G f_spec_Valid := ⟨F_spec_Valid, rfl, rfl⟩
theorem g_prune_Trimmed : G f_prune_Trimmed = some F_prune_Trimmed := rfl
theorem pure_prune_Trimmed : PureF G f_prune_Trimmed := ⟨F_prune_Trimmed, rfl, rfl⟩
theorem g_r04_allFall : G f_r04_allFall = some F_r04_allFall := rfl
theorem pure_r04_allFall : PureF G f_r04_allFall := ⟨F_r04_allFall, rfl, rfl⟩
theorem g_prune_Witness : G f_prune_Witness = some F_prune_Witness := rfl
theorem pure_prune_Witness : PureF G f_prune_Witness := ⟨F_prune_Witness, rfl, rfl⟩
theorem g_slices_SortZitit : G f_slices_SortZitit = some F_slices_SortZitit := rfl
theorem g_prune_rungs : G f_prune_rungs = some F_prune_rungs := rfl
theorem pure_prune_rungs : PureF G f_prune_rungs := ⟨F_prune_rungs, rfl, rfl⟩
theorem g_prune_Rests : G f_prune_Rests = some F_prune_Rests := rfl
theorem pure_prune_Rests : PureF G f_prune_Rests := ⟨F_prune_Rests, rfl, rfl⟩
theorem g_r01_Name : G f_r01_Name = some F_r01_Name := rfl
theorem pure_r01_Name : PureF G f_r01_Name := ⟨F_r01_Name, rfl, rfl⟩
theorem g_r01_Index : G f_r01_Index = some F_r01_Index := rfl
theorem pure_r01_Index : PureF G f_r01_Index := ⟨F_r01_Index, rfl, rfl⟩
theorem g_r01_Rising : G f_r01_Rising = some F_r01_Rising := rfl
theorem pure_r01_Rising : PureF G f_r01_Rising := ⟨F_r01_Rising, rfl, rfl⟩
theorem g_r01_Set : G f_r01_Set = some F_r01_Set := rfl
theorem pure_r01_Set : PureF G f_r01_Set := ⟨F_r01_Set, rfl, rfl⟩
theorem g_r01_List : G f_r01_List = some F_r01_List := rfl
theorem pure_r01_List : PureF G f_r01_List := ⟨F_r01_List, rfl, rfl⟩
theorem g_r04_falls : G f_r04_falls = some F_r04_falls := rfl
theorem pure_r04_falls : PureF G f_r04_falls := ⟨F_r04_falls, rfl, rfl⟩
theorem g_r01_Has : G f_r01_Has = some F_r01_Has := rfl
theorem pure_r01_Has : PureF G f_r01_Has := ⟨F_r01_Has, rfl, rfl⟩
theorem g_act_Valid : G f_act_Valid = some F_act_Valid := rfl
theorem pure_act_Valid : PureF G f_act_Valid := ⟨F_act_Valid, rfl, rfl⟩
theorem g_slices_CloneZsgsg : G f_slices_CloneZsgsg = some F_slices_CloneZsgsg := rfl
theorem pure_slices_CloneZsgsg : PureF G f_slices_CloneZsgsg := ⟨F_slices_CloneZsgsg, rfl, rfl⟩
theorem g_prune_Left : G f_prune_Left = some F_prune_Left := rfl
theorem pure_prune_Left : PureF G f_prune_Left := ⟨F_prune_Left, rfl, rfl⟩
theorem g_spec_Nothing : G f_spec_Nothing = some F_spec_Nothing := rfl
theorem pure_spec_Nothing : PureF G f_spec_Nothing := ⟨F_spec_Nothing, rfl, rfl⟩
theorem g_slices_RepeatZitit : G f_slices_RepeatZitit = some F_slices_RepeatZitit := rfl
theorem pure_slices_RepeatZitit : PureF G f_slices_RepeatZitit := ⟨F_slices_RepeatZitit, rfl, rfl⟩
theorem g_act_In : G f_act_In = some F_act_In := rfl
theorem pure_act_In : PureF G f_act_In := ⟨F_act_In, rfl, rfl⟩
theorem g_slices_ContainsZitit : G f_slices_ContainsZitit = some F_slices_ContainsZitit := rfl
theorem pure_slices_ContainsZitit : PureF G f_slices_ContainsZitit := ⟨F_slices_ContainsZitit, rfl, rfl⟩
theorem g_slices_SortFuncZaiEeai : G f_slices_SortFuncZaiEeai = some F_slices_SortFuncZaiEeai := rfl
theorem pure_slices_SortFuncZaiEeai : PureF G f_slices_SortFuncZaiEeai := ⟨F_slices_SortFuncZaiEeai, rfl, rfl⟩
theorem g_prune_Witness_1 : G f_prune_Witness_1 = some F_prune_Witness_1 := rfl
theorem pure_prune_Witness_1 : PureF G f_prune_Witness_1 := ⟨F_prune_Witness_1, rfl, rfl⟩
theorem g_slices_pdqsortOrdered_int_ : G f_slices_pdqsortOrdered_int_ = some F_slices_pdqsortOrdered_int_ := rfl
theorem g_math_bits_Len : G f_math_bits_Len = some F_math_bits_Len := rfl
theorem pure_math_bits_Len : PureF G f_math_bits_Len := ⟨F_math_bits_Len, rfl, rfl⟩
theorem g_prune_rungs_1 : G f_prune_rungs_1 = some F_prune_rungs_1 := rfl
theorem g_r01_letter : G f_r01_letter = some F_r01_letter := rfl
theorem pure_r01_letter : PureF G f_r01_letter := ⟨F_r01_letter, rfl, rfl⟩
theorem g_act_Name : G f_act_Name = some F_act_Name := rfl
theorem pure_act_Name : PureF G f_act_Name := ⟨F_act_Name, rfl, rfl⟩
theorem g_slices_ContainsZsgsg : G f_slices_ContainsZsgsg = some F_slices_ContainsZsgsg := rfl
theorem pure_slices_ContainsZsgsg : PureF G f_slices_ContainsZsgsg := ⟨F_slices_ContainsZsgsg, rfl, rfl⟩
theorem g_prune_Left_1 : G f_prune_Left_1 = some F_prune_Left_1 := rfl
theorem g_prune_Hollows : G f_prune_Hollows = some F_prune_Hollows := rfl
theorem pure_prune_Hollows : PureF G f_prune_Hollows := ⟨F_prune_Hollows, rfl, rfl⟩
theorem g_math_bits_Mul : G f_math_bits_Mul = some F_math_bits_Mul := rfl
theorem pure_math_bits_Mul : PureF G f_math_bits_Mul := ⟨F_math_bits_Mul, rfl, rfl⟩
theorem g_act_In_1 : G f_act_In_1 = some F_act_In_1 := rfl
theorem g_slices_IndexZitit : G f_slices_IndexZitit = some F_slices_IndexZitit := rfl
theorem pure_slices_IndexZitit : PureF G f_slices_IndexZitit := ⟨F_slices_IndexZitit, rfl, rfl⟩
theorem g_slices_pdqsortCmpFunc_api_Edge_ : G f_slices_pdqsortCmpFunc_api_Edge_ = some F_slices_pdqsortCmpFunc_api_Edge_ := rfl
theorem pure_slices_pdqsortCmpFunc_api_Edge_ : PureF G f_slices_pdqsortCmpFunc_api_Edge_ := ⟨F_slices_pdqsortCmpFunc_api_Edge_, rfl, rfl⟩
theorem g_slices_insertionSortOrdered_int_ : G f_slices_insertionSortOrdered_int_ = some F_slices_insertionSortOrdered_int_ := rfl
theorem g_slices_heapSortOrdered_int_ : G f_slices_heapSortOrdered_int_ = some F_slices_heapSortOrdered_int_ := rfl
theorem g_slices_breakPatternsOrdered_int_ : G f_slices_breakPatternsOrdered_int_ = some F_slices_breakPatternsOrdered_int_ := rfl
theorem g_slices_choosePivotOrdered_int_ : G f_slices_choosePivotOrdered_int_ = some F_slices_choosePivotOrdered_int_ := rfl
theorem pure_slices_choosePivotOrdered_int_ : PureF G f_slices_choosePivotOrdered_int_ := ⟨F_slices_choosePivotOrdered_int_, rfl, rfl⟩
theorem g_slices_reverseRangeOrdered_int_ : G f_slices_reverseRangeOrdered_int_ = some F_slices_reverseRangeOrdered_int_ := rfl
theorem g_slices_partialInsertionSortOrdered_int_ : G f_slices_partialInsertionSortOrdered_int_ = some F_slices_partialInsertionSortOrdered_int_ := rfl
theorem g_cmp_Less_int_ : G f_cmp_Less_int_ = some F_cmp_Less_int_ := rfl
theorem pure_cmp_Less_int_ : PureF G f_cmp_Less_int_ := ⟨F_cmp_Less_int_, rfl, rfl⟩
theorem g_slices_partitionEqualOrdered_int_ : G f_slices_partitionEqualOrdered_int_ = some F_slices_partitionEqualOrdered_int_ := rfl
theorem g_slices_partitionOrdered_int_ : G f_slices_partitionOrdered_int_ = some F_slices_partitionOrdered_int_ := rfl
theorem g_math_bits_Len32 : G f_math_bits_Len32 = some F_math_bits_Len32 := rfl
theorem pure_math_bits_Len32 : PureF G f_math_bits_Len32 := ⟨F_math_bits_Len32, rfl, rfl⟩
theorem g_math_bits_Len64 : G f_math_bits_Len64 = some F_math_bits_Len64 := rfl
theorem pure_math_bits_Len64 : PureF G f_math_bits_Len64 := ⟨F_math_bits_Len64, rfl, rfl⟩
theorem g_act_letter : G f_act_letter = some F_act_letter := rfl
theorem pure_act_letter : PureF G f_act_letter := ⟨F_act_letter, rfl, rfl⟩
theorem g_slices_IndexZsgsg : G f_slices_IndexZsgsg = some F_slices_IndexZsgsg := rfl
theorem pure_slices_IndexZsgsg : PureF G f_slices_IndexZsgsg := ⟨F_slices_IndexZsgsg, rfl, rfl⟩
theorem g_math_bits_Mul32 : G f_math_bits_Mul32 = some F_math_bits_Mul32 := rfl
theorem pure_math_bits_Mul32 : PureF G f_math_bits_Mul32 := ⟨F_math_bits_Mul32, rfl, rfl⟩
theorem g_math_bits_Mul64 : G f_math_bits_Mul64 = some F_math_bits_Mul64 := rfl
theorem pure_math_bits_Mul64 : PureF G f_math_bits_Mul64 := ⟨F_math_bits_Mul64, rfl, rfl⟩
theorem g_slices_insertionSortCmpFunc_api_Edge_ : G f_slices_insertionSortCmpFunc_api_Edge_ = some F_slices_insertionSortCmpFunc_api_Edge_ := rfl
theorem pure_slices_insertionSortCmpFunc_api_Edge_ : PureF G f_slices_insertionSortCmpFunc_api_Edge_ := ⟨F_slices_insertionSortCmpFunc_api_Edge_, rfl, rfl⟩
theorem g_slices_heapSortCmpFunc_api_Edge_ : G f_slices_heapSortCmpFunc_api_Edge_ = some F_slices_heapSortCmpFunc_api_Edge_ := rfl
theorem pure_slices_heapSortCmpFunc_api_Edge_ : PureF G f_slices_heapSortCmpFunc_api_Edge_ := ⟨F_slices_heapSortCmpFunc_api_Edge_, rfl, rfl⟩
theorem g_slices_breakPatternsCmpFunc_api_Edge_ : G f_slices_breakPatternsCmpFunc_api_Edge_ = some F_slices_breakPatternsCmpFunc_api_Edge_ := rfl
theorem pure_slices_breakPatternsCmpFunc_api_Edge_ : PureF G f_slices_breakPatternsCmpFunc_api_Edge_ := ⟨F_slices_breakPatternsCmpFunc_api_Edge_, rfl, rfl⟩
theorem g_slices_choosePivotCmpFunc_api_Edge_ : G f_slices_choosePivotCmpFunc_api_Edge_ = some F_slices_choosePivotCmpFunc_api_Edge_ := rfl
theorem pure_slices_choosePivotCmpFunc_api_Edge_ : PureF G f_slices_choosePivotCmpFunc_api_Edge_ := ⟨F_slices_choosePivotCmpFunc_api_Edge_, rfl, rfl⟩
theorem g_slices_reverseRangeCmpFunc_api_Edge_ : G f_slices_reverseRangeCmpFunc_api_Edge_ = some F_slices_reverseRangeCmpFunc_api_Edge_ := rfl
theorem pure_slices_reverseRangeCmpFunc_api_Edge_ : PureF G f_slices_reverseRangeCmpFunc_api_Edge_ := ⟨F_slices_reverseRangeCmpFunc_api_Edge_, rfl, rfl⟩
theorem g_slices_partialInsertionSortCmpFunc_api_Edge_ : G f_slices_partialInsertionSortCmpFunc_api_Edge_ = some F_slices_partialInsertionSortCmpFunc_api_Edge_ := rfl
theorem pure_slices_partialInsertionSortCmpFunc_api_Edge_ : PureF G f_slices_partialInsertionSortCmpFunc_api_Edge_ := ⟨F_slices_partialInsertionSortCmpFunc_api_Edge_, rfl, rfl⟩
theorem g_slices_partitionEqualCmpFunc_api_Edge_ : G f_slices_partitionEqualCmpFunc_api_Edge_ = some F_slices_partitionEqualCmpFunc_api_Edge_ := rfl
theorem pure_slices_partitionEqualCmpFunc_api_Edge_ : PureF G f_slices_partitionEqualCmpFunc_api_Edge_ := ⟨F_slices_partitionEqualCmpFunc_api_Edge_, rfl, rfl⟩
theorem g_slices_partitionCmpFunc_api_Edge_ : G f_slices_partitionCmpFunc_api_Edge_ = some F_slices_partitionCmpFunc_api_Edge_ := rfl
theorem pure_slices_partitionCmpFunc_api_Edge_ : PureF G f_slices_partitionCmpFunc_api_Edge_ := ⟨F_slices_partitionCmpFunc_api_Edge_, rfl, rfl⟩
theorem g_slices_siftDownOrdered_int_ : G f_slices_siftDownOrdered_int_ = some F_slices_siftDownOrdered_int_ := rfl
theorem g_slices_nextPowerOfTwo : G f_slices_nextPowerOfTwo = some F_slices_nextPowerOfTwo := rfl
theorem pure_slices_nextPowerOfTwo : PureF G f_slices_nextPowerOfTwo := ⟨F_slices_nextPowerOfTwo, rfl, rfl⟩
theorem g___slices_xorshift__Next : G f___slices_xorshift__Next = some F___slices_xorshift__Next := rfl
theorem g_slices_medianAdjacentOrdered_int_ : G f_slices_medianAdjacentOrdered_int_ = some F_slices_medianAdjacentOrdered_int_ := rfl
theorem g_slices_medianOrdered_int_ : G f_slices_medianOrdered_int_ = some F_slices_medianOrdered_int_ := rfl
theorem g_cmp_isNaN_int_ : G f_cmp_isNaN_int_ = some F_cmp_isNaN_int_ := rfl
theorem pure_cmp_isNaN_int_ : PureF G f_cmp_isNaN_int_ := ⟨F_cmp_isNaN_int_, rfl, rfl⟩
theorem g_slices_siftDownCmpFunc_api_Edge_ : G f_slices_siftDownCmpFunc_api_Edge_ = some F_slices_siftDownCmpFunc_api_Edge_ := rfl
theorem pure_slices_siftDownCmpFunc_api_Edge_ : PureF G f_slices_siftDownCmpFunc_api_Edge_ := ⟨F_slices_siftDownCmpFunc_api_Edge_, rfl, rfl⟩
theorem g_slices_medianAdjacentCmpFunc_api_Edge_ : G f_slices_medianAdjacentCmpFunc_api_Edge_ = some F_slices_medianAdjacentCmpFunc_api_Edge_ := rfl
theorem pure_slices_medianAdjacentCmpFunc_api_Edge_ : PureF G f_slices_medianAdjacentCmpFunc_api_Edge_ := ⟨F_slices_medianAdjacentCmpFunc_api_Edge_, rfl, rfl⟩
theorem g_slices_medianCmpFunc_api_Edge_ : G f_slices_medianCmpFunc_api_Edge_ = some F_slices_medianCmpFunc_api_Edge_ := rfl
theorem pure_slices_medianCmpFunc_api_Edge_ : PureF G f_slices_medianCmpFunc_api_Edge_ := ⟨F_slices_medianCmpFunc_api_Edge_, rfl, rfl⟩
theorem g_slices_order2Ordered_int_ : G f_slices_order2Ordered_int_ = some F_slices_order2Ordered_int_ := rfl
theorem g_slices_order2CmpFunc_api_Edge_ : G f_slices_order2CmpFunc_api_Edge_ = some F_slices_order2CmpFunc_api_Edge_ := rfl
theorem pure_slices_order2CmpFunc_api_Edge_ : PureF G f_slices_order2CmpFunc_api_Edge_ := ⟨F_slices_order2CmpFunc_api_Edge_, rfl, rfl⟩
attribute [go_sem] wpCall_T pure_w04_PruneHollow pure_w04_light pure_w04_awake pure_r03_Is pure_prune_Trim pure_r03_Copy pure_r01_SameInts pure_r04_Hollow pure_prune_Some pure_r04_Places pure_r04_IsLadder pure_prune_Hollow pure_prune_Ladder pure_prune_IsLadder pure_r03_Few pure_w04_twigs pure_r01_Is pure_r03_state pure_spec_Valid pure_prune_Trimmed pure_r04_allFall pure_prune_Witness pure_prune_rungs pure_prune_Rests pure_r01_Name pure_r01_Index pure_r01_Rising pure_r01_Set pure_r01_List pure_r04_falls pure_r01_Has pure_act_Valid pure_slices_CloneZsgsg pure_prune_Left pure_spec_Nothing pure_slices_RepeatZitit pure_act_In pure_slices_ContainsZitit pure_slices_SortFuncZaiEeai pure_prune_Witness_1 pure_math_bits_Len pure_r01_letter pure_act_Name pure_slices_ContainsZsgsg pure_prune_Hollows pure_math_bits_Mul pure_slices_IndexZitit pure_slices_pdqsortCmpFunc_api_Edge_ pure_slices_choosePivotOrdered_int_ pure_cmp_Less_int_ pure_math_bits_Len32 pure_math_bits_Len64 pure_act_letter pure_slices_IndexZsgsg pure_math_bits_Mul32 pure_math_bits_Mul64 pure_slices_insertionSortCmpFunc_api_Edge_ pure_slices_heapSortCmpFunc_api_Edge_ pure_slices_breakPatternsCmpFunc_api_Edge_ pure_slices_choosePivotCmpFunc_api_Edge_ pure_slices_reverseRangeCmpFunc_api_Edge_ pure_slices_partialInsertionSortCmpFunc_api_Edge_ pure_slices_partitionEqualCmpFunc_api_Edge_ pure_slices_partitionCmpFunc_api_Edge_ pure_slices_nextPowerOfTwo pure_cmp_isNaN_int_ pure_slices_siftDownCmpFunc_api_Edge_ pure_slices_medianAdjacentCmpFunc_api_Edge_ pure_slices_medianCmpFunc_api_Edge_ pure_slices_order2CmpFunc_api_Edge_
end Go.Mw
