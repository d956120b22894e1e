/- The code, with hints. Printed by Gen. -/
import Derived.Test.YtondemeliogjmaaGreatM17
set_option linter.unusedVariables false
set_option linter.unusedSimpArgs false
namespace Go.Mw
set_option maxRecDepth 100000
abbrev f_w07_MeetOnly:FuncId:=5
abbrev Fa:FuncId:=9
abbrev CV:FuncId:=10
abbrev f_r07_Meet:FuncId:=12
abbrev Fk:FuncId:=14
abbrev HE:FuncId:=15
abbrev Fd:FuncId:=16
abbrev Cg:FuncId:=17
abbrev Ht:FuncId:=24
abbrev Jw:FuncId:=25
abbrev Ec:FuncId:=26
abbrev f_meet_Only:FuncId:=27
abbrev Fu:FuncId:=28
abbrev JS:FuncId:=29
abbrev Hu:FuncId:=30
abbrev A1:FuncId:=32
abbrev AI:FuncId:=37
abbrev C3:FuncId:=41
abbrev Cq:FuncId:=42
abbrev Bx:FuncId:=43
abbrev Ct:FuncId:=44
abbrev Kj:FuncId:=45
abbrev Eg:FuncId:=46
abbrev Kg:FuncId:=47
abbrev C5:FuncId:=48
abbrev ED:FuncId:=50
abbrev H7:FuncId:=51
abbrev LD:FuncId:=52
abbrev Hj:FuncId:=53
abbrev Fs:FuncId:=54
abbrev LC:FuncId:=55
abbrev J6:FuncId:=56
abbrev BV:FuncId:=57
abbrev BE:FuncId:=60
abbrev Dr:FuncId:=61
abbrev E8:FuncId:=62
abbrev DR:FuncId:=63
abbrev Co:FuncId:=64
abbrev Ag:FuncId:=65
abbrev BB:FuncId:=66
abbrev Dl:FuncId:=67
abbrev BC:FuncId:=68
abbrev BX:FuncId:=69
abbrev A4:FuncId:=70
abbrev f_meet_Only_4:FuncId:=71
abbrev Bb:FuncId:=72
abbrev AR:FuncId:=73
abbrev B8:FuncId:=74
abbrev FP:FuncId:=75
abbrev f_meet_Only_5:FuncId:=76
abbrev Ak:FuncId:=77
abbrev A3:FuncId:=78
abbrev D9:FuncId:=86
abbrev DW:FuncId:=87
abbrev CR:FuncId:=88
abbrev Fq:FuncId:=89
abbrev DK:FuncId:=90
abbrev Cx:FuncId:=91
abbrev Jy:FuncId:=92
abbrev Ks:FuncId:=93
abbrev Ju:FuncId:=94
abbrev EB:FuncId:=95
abbrev EF:FuncId:=96
abbrev Eu:FuncId:=97
abbrev Hd:FuncId:=98
abbrev EL:FuncId:=99
abbrev HC:FuncId:=100
abbrev Fh:FuncId:=101
abbrev Fe:FuncId:=104
abbrev AC:FuncId:=106
abbrev Aw:FuncId:=107
abbrev Ej:FuncId:=108
abbrev JY:FuncId:=109
abbrev Hv:FuncId:=110
abbrev Cr:FuncId:=111
abbrev AB:FuncId:=112
abbrev Au:FuncId:=113
abbrev BO:FuncId:=114
abbrev Bj:FuncId:=115
abbrev Ah:FuncId:=116
abbrev FG:FuncId:=117
abbrev D6:FuncId:=118
abbrev EI:FuncId:=127
abbrev C2:FuncId:=128
abbrev Cu:FuncId:=129
abbrev C6:FuncId:=130
abbrev DM:FuncId:=131
abbrev FS:FuncId:=132
abbrev Bk:FuncId:=133
abbrev CS:FuncId:=134
abbrev HB:FuncId:=136
abbrev AY:FuncId:=137
abbrev Ey:FuncId:=138
abbrev BD:FuncId:=139
abbrev Cf:FuncId:=140
abbrev CY:FuncId:=148
abbrev AN:FuncId:=150
abbrev DV:FuncId:=151
abbrev Ai:FuncId:=152
abbrev BN:FuncId:=153
abbrev CZ:FuncId:=154
abbrev Bs:FuncId:=155
abbrev Db:FuncId:=156
abbrev Dm:FuncId:=157
abbrev Cv:FuncId:=158
abbrev Dc:FuncId:=171
abbrev Df:FuncId:=172
abbrev CD:FuncId:=173
abbrev Bc:FuncId:=174
abbrev By:FuncId:=175
abbrev Bd:FuncId:=176
abbrev AP:FuncId:=177
abbrev Bg:FuncId:=178
abbrev AL:FuncId:=179
abbrev A6:FuncId:=180
abbrev Bv:FuncId:=181
abbrev Fz:FuncId:=182
abbrev Ca:FuncId:=183
abbrev Bz:FuncId:=188
abbrev B0:FuncId:=189
abbrev A5:FuncId:=192
abbrev Ap:FuncId:=193
abbrev Bh:FuncId:=194
abbrev AS:FuncId:=204
abbrev zq (d:Nat)(i:Ins):Rop:=⟨some d,i,none⟩
abbrev zr (i:Ins):Rop:=⟨none,i,none⟩
abbrev zg (d:Nat)(i:Ins)(t:Nat)(b:Bool):Rop:=⟨some d,i,some (t,b)⟩
abbrev zm (d x:Nat):Rop:=⟨some d,.mov (.t x),none⟩
abbrev zl (d n x:Nat):Rop:=⟨some d,.ld false n (.t x),none⟩
abbrev zL (d n x:Nat):Rop:=⟨some d,.ld true n (.t x),none⟩
abbrev zf (d k x:Nat):Rop:=⟨some d,.fad k (.t x),none⟩
abbrev zk (d:Nat)(n:Int):Rop:=⟨some d,.mov (.c (.int .i64 n)),none⟩
abbrev zo (d:Nat)(b:Bool):Rop:=⟨some d,.mov (.c (.bool b)),none⟩
abbrev zi (d e x y:Nat):Rop:=⟨some d,.iad e (.t x) (.t y),none⟩
abbrev zn (d x:Nat):Rop:=⟨some d,.lenl (.t x),none⟩
abbrev za (d x:Nat)(n:Int):Rop:=⟨some d,.bin .add (.t x) (.c (.int .i64 n)),none⟩
abbrev zb (d:Nat)(o:BinOp)(x y:Nat):Rop:=⟨some d,.bin o (.t x) (.t y),none⟩
abbrev zs (n x y:Nat):Rop:=⟨none,.sto n (.t x) (.t y),none⟩
abbrev zy (d x y:Nat):Rop:=⟨some d,.pick (.t x) (.c (.bool true)) (.t y),none⟩
abbrev zu (d x y:Nat):Rop:=⟨some d,.pick (.t x) (.t y) (.c (.bool false)),none⟩
abbrev zmg (d x t:Nat)(b:Bool):Rop:=⟨some d,.mov (.t x),some (t,b)⟩
abbrev zlg (d n x t:Nat)(b:Bool):Rop:=⟨some d,.ld false n (.t x),some (t,b)⟩
abbrev zfg (d k x t:Nat)(b:Bool):Rop:=⟨some d,.fad k (.t x),some (t,b)⟩
def OA:C:=.loop (rest 87 [1,2,5,6,22,23,24]) [] (.seq (.reg [zb 25 .lss 24 23]) (.seq (.cond (.t 25) (.skip) (.exit 0)) (.seq (.blk 1 (.seq (.reg [zi 26 1 22 24,zl 27 1 26,zm 8 27]) (.seq (.reg [zm 28 5,zm 29 8,zn 30 29,zb 31 .add 28 30,zm 5 31]) (.reg [zm 32 6,zm 33 32,zfg 34 0 2 33 true,zlg 35 1 34 33 true,zg 36 (.lenl (.t 35)) 33 true,zmg 37 8 33 true,zg 38 (.call Ht [.t 36,.t 37] []) 33 true,zu 39 33 38,zm 6 39])))) (.reg [za 40 24 1,zm 24 40]))))
def FN:C:=.seq (.reg [zq 2 (.box 0 2 (.t 0)),zo 4 false]) (.seq (.seq (.reg [zL 13 2 2,zq 14 (.call Fa [.t 13] []),zq 15 (.un .not (.t 14)),zm 16 15,zmg 17 1 16 false,zg 18 (.lenl (.t 17)) 16 false,zg 19 (.bin .gtr (.t 18) (.c (.int .i64 60))) 16 false,zy 20 16 19]) (.cond (.t 20) (.seq (.reg [zq 21 (.call CV [] []),zm 4 21]) (.ret)) (.skip))) (.seq (.reg [zk 5 1,zo 6 true]) (.seq (.seq (.reg [zm 22 1,zn 23 22,zk 24 0]) (.blk 0 (OA))) (.seq (.seq (.reg [zm 41 6,zm 42 41,zmg 43 5 42 true,zg 44 (.bin .gtr (.t 43) (.c (.int .i64 401))) 42 true,zmg 45 44 42 true,zfg 46 1 2 45 false,zlg 47 1 46 45 false,zg 48 (.lenl (.t 47)) 45 false,zmg 49 5 45 false,zg 50 (.bin .mul (.t 48) (.t 49)) 45 false,zg 51 (.bin .gtr (.t 50) (.c (.int .i64 1000))) 45 false,zg 52 (.pick (.t 45) (.c (.bool true)) (.t 51)) 42 true,zu 53 42 52]) (.cond (.t 53) (.seq (.reg [zq 54 (.call CV [] []),zm 4 54]) (.ret)) (.skip))) (.seq (.reg [zk 9 0]) (.seq (.reg [zq 10 (.alc 1 2 (.agg [.nils,.nils]))]) (.seq (.blk 2 (.seq (.reg [zL 59 2 2,zq 60 (.call Jw [.t 59] []),zq 61 (.un .not (.t 60)),zm 58 61]) (.cond (.t 58) (.reg [zk 9 30]) (.seq (.reg [zm 63 6,zq 64 (.un .not (.t 63)),zm 62 64]) (.cond (.t 62) (.reg [zk 9 1]) (.reg [zL 55 2 2,zm 56 1,zq 57 (.call Ec [.t 55,.t 56] []),zs 2 10 57])))))) (.seq (.reg [zL 66 2 2,zq 67 (.call HE [.t 66] []),zm 68 1,zq 69 (.call Fu [.t 68] []),zq 70 (.call f_meet_Only [.t 67,.t 69] []),zm 65 70,zq 71 (.ext (.t 65) 0),zq 72 (.ext (.t 65) 1),zq 11 (.alc 2 2 (.agg [.nils,.nils])),zs 2 11 71,zm 12 72]) (.seq (.reg [zL 73 2 11,zm 74 12,zm 75 9,zL 76 2 10,zf 77 1 2,zl 78 1 77,zn 79 78,zm 80 5,zb 81 .mul 79 80,zq 82 (.bin .gtr (.t 81) (.c (.int .i64 500))),zq 83 (.call Cg [.t 73,.t 74,.t 75,.t 76,.t 82] []),zm 84 83,zg 85 (.call CV [] []) 84 true,zu 86 84 85,zm 4 86]) (.ret))))))))))
def RE:List Nat:=[2,10,11]
def CH:IF:=⟨2,87,3,FN,[(4,none)],true,false,false⟩
def Pw:C:=.seq (.reg [zq 1 (.box 0 2 (.t 0)),zo 2 false]) (.seq (.reg [zf 3 1 1,zl 4 1 3,zn 5 4,zq 6 (.bin .leq (.t 5) (.c (.int .i64 30))),zm 7 6,zg 8 (.ld true 2 (.t 1)) 7 true,zg 9 (.call JS [.t 8,(.c (.int .i64 600))] []) 7 true,zu 10 7 9,zm 2 10]) (.ret))
def XB:List Nat:=[1]
def Fo:IF:=⟨1,11,1,Pw,[(2,none)],true,false,false⟩
def Pn:C:=.seq (.reg [zo 0 false]) (.seq (.reg [zq 6 (.call C3 [] []),zq 7 (.call Cq [] []),zq 8 (.call Fk [.t 6,.t 7] []),zm 5 8,zq 9 (.ext (.t 5) 0),zq 10 (.ext (.t 5) 1),zq 1 (.alc 0 2 (.agg [.nils,.nils])),zs 2 1 9,zm 2 10]) (.seq (.reg [zq 12 (.call C3 [] []),zq 13 (.call Cq [] []),zq 14 (.call Fd [.t 12,.t 13] []),zm 11 14,zq 15 (.ext (.t 11) 0),zq 16 (.ext (.t 11) 1),zq 3 (.alc 1 2 (.agg [.nils,.nils])),zs 2 3 15,zm 4 16]) (.seq (.drw [zm 17 2,zq 18 (.bin .eql (.t 17) (.c (.int .i64 0))),zm 19 18,zg 20 (.ld true 2 (.t 1)) 19 true,zg 21 (.call Cq [] []) 19 true,zg 22 (.call Bx [.t 20,.t 21] []) 19 true,zu 23 19 22,zm 24 23,zmg 25 4 24 true,zg 26 (.bin .eql (.t 25) (.c (.int .i64 0))) 24 true,zu 27 24 26,zm 28 27,zg 29 (.ld true 2 (.t 3)) 28 true,zg 30 (.call C3 [] []) 28 true,zg 31 (.call Bx [.t 29,.t 30] []) 28 true,zu 32 28 31,zm 0 32] [(3,4),(12,13)]) (.ret))))
def W8:List Nat:=[1,3]
def FA:IF:=⟨0,33,2,Pn,[(0,none)],true,false,false⟩
def US:C:=.loop (rest 98 [2,3,4,5,6,7,8,9,34,35,36]) [8,9] (.seq (.reg [zb 37 .lss 36 35]) (.seq (.cond (.t 37) (.skip) (.exit 2)) (.seq (.blk 3 (.seq (.reg [zi 38 1 34 36,zl 39 1 38,zm 11 39]) (.seq (.reg [zL 40 2 3,zq 41 (.iaa 2 1 (.t 8) (.c (.int .i64 1))),zl 42 1 41,zq 43 (.call Ct [.t 40,.t 42] []),zm 44 11,zq 45 (.call Kj [.t 43,.t 44] [])]) (.cond (.t 45) (.reg [zf 46 0 9,zl 47 1 46,zm 48 11,zq 49 (.bsl 8 1 1 [.t 48]),zq 50 (.app 9 1 8 (.t 47) (.t 49)),zf 51 0 9,zs 1 51 50]) (.skip))))) (.reg [za 52 36 1,zm 36 52]))))
def Wa:C:=.loop (rest 98 [2,3,4,5,6,7,8,9,55,56]) [10,12,13] (.mvt 6 5 (.seq (.reg [zb 57 .lss 56 55]) (.seq (.cond (.t 57) (.skip) (.exit 4)) (.seq (.blk 5 (.seq (.reg [zm 58 56,zm 12 58]) (.seq (.drw [zL 59 2 2,zq 60 (.iaa 2 1 (.t 8) (.c (.int .i64 0))),zl 61 1 60,zm 62 12,zq 63 (.call Eg [.t 59,.t 61,.t 62] []),zL 64 2 3,zq 65 (.iaa 2 1 (.t 8) (.c (.int .i64 1))),zl 66 1 65,zm 67 12,zq 68 (.call Eg [.t 64,.t 66,.t 67] []),zq 69 (.bld [(.int .i64 0),(.int .i64 0)] [(0,1,(.t 63)),(1,1,(.t 68))]),zq 13 (.alc 10 2 (.agg [(.int .i64 0),(.int .i64 0)])),zs 2 13 69,zk 14 (-1)] [(4,5),(4,6),(4,7),(0,11),(1,11),(2,11),(4,11),(5,11),(6,11),(7,11),(9,11),(10,11)]) (.seq (.seq (.reg [zq 70 (.iaa 2 1 (.t 13) (.c (.int .i64 0))),zl 71 1 70,zq 72 (.bin .geq (.t 71) (.c (.int .i64 0))),zm 73 72,zg 74 (.iaa 2 1 (.t 13) (.c (.int .i64 1))) 73 true,zlg 75 1 74 73 true,zg 76 (.bin .geq (.t 75) (.c (.int .i64 0))) 73 true,zu 77 73 76]) (.cond (.t 77) (.reg [zm 79 6,zL 80 2 13,zq 81 (.call Kg [.t 79,.t 80] [11]),zm 78 81,zq 82 (.ext (.t 78) 0),zq 83 (.ext (.t 78) 1),zm 14 82,zm 6 83]) (.skip))) (.reg [zf 84 1 9,zl 85 1 84,zm 86 14,zq 87 (.bsl 12 1 1 [.t 86]),zq 88 (.app 13 1 8 (.t 85) (.t 87)),zf 89 1 9,zs 1 89 88]))))) (.reg [za 90 56 1,zm 56 90])))))
def U7:C:=.loop (rest 98 [2,3,4,5,6,7]) [6,7,8,9,10,12,13,14,15] (.mvt 6 5 (.seq (.seq (.reg [zm 21 7,zm 22 6,zn 23 22,zb 24 .lss 21 23]) (.cond (.t 24) (.skip) (.exit 0))) (.seq (.blk 1 (.seq (.reg [zm 27 6,zm 28 7,zi 29 2 27 28,zL 30 2 29,zq 8 (.alc 6 2 (.agg [(.int .i64 0),(.int .i64 0)])),zs 2 8 30]) (.seq (.reg [zq 9 (.alc 7 2 (.agg [.nils,.nils]))]) (.seq (.seq (.reg [zL 31 2 2,zq 32 (.iaa 2 1 (.t 8) (.c (.int .i64 0))),zl 33 1 32,zq 34 (.call Ct [.t 31,.t 33] []),zn 35 34,zk 36 0]) (.blk 2 (US))) (.seq (.seq (.reg [zf 53 0 2,zl 54 1 53,zn 55 54,zk 56 0]) (.blk 4 (Wa))) (.reg [zf 91 1 5,zl 92 1 91,zL 93 2 9,zq 94 (.bsl 14 2 1 [.t 93]),zq 95 (.app 15 2 48 (.t 92) (.t 94)),zf 96 1 5,zs 1 96 95])))))) (.reg [zm 25 7,za 26 25 1,zm 7 26]))))
def RP:C:=.seq (.reg [zq 2 (.box 0 2 (.t 0)),zq 3 (.box 1 2 (.t 1)),zq 4 (.alc 2 2 (.agg [.nils,.nils]))]) (.seq (.reg [zf 15 0 2,zl 16 1 15,zq 17 (.app 3 1 16 (.c .nils) (.t 16)),zq 18 (.bld [.nils,.nils] [(0,1,(.t 17))]),zq 5 (.alc 4 2 (.agg [.nils,.nils])),zs 2 5 18]) (.seq (.reg [zq 19 (.bld [(.int .i64 0),(.int .i64 0)] [(0,1,(.c (.int .i64 0))),(1,1,(.c (.int .i64 0)))]),zq 20 (.bsl 5 2 1 [.t 19]),zm 6 20]) (.seq (.seq (.reg [zk 7 0]) (.blk 0 (U7))) (.seq (.reg [zL 97 2 5,zs 2 4 97]) (.ret)))))
def Aa3:List Nat:=[2,3,4,17,5,20,8,9,49,50,13,81,87,88,94,95]
def Hy:IF:=⟨2,98,16,RP,[(4,some (true,2))],true,false,false⟩
def Xj:C:=.seq (.reg [zq 2 (.box 0 2 (.t 0)),zq 3 (.box 1 2 (.t 1)),zq 4 (.alc 2 2 (.agg [.nils,.nils])),zk 5 0]) (.seq (.seq (.reg [zL 7 2 2,zL 8 2 3,zq 9 (.call ED [.t 7,.t 8] []),zm 6 9]) (.seq (.reg [zm 10 6,zq 11 (.bin .neq (.t 10) (.c (.int .i64 0)))]) (.cond (.t 11) (.seq (.reg [zq 12 (.bld [.nils,.nils] []),zm 13 6,zs 2 4 12,zm 5 13]) (.ret)) (.skip)))) (.seq (.reg [zL 14 2 2,zL 15 2 3,zq 16 (.call LD [.t 14,.t 15] []),zq 17 (.ext (.t 16) 0),zq 18 (.ext (.t 16) 1),zq 19 (.call H7 [.t 17,.t 18] []),zq 20 (.ext (.t 19) 0),zq 21 (.ext (.t 19) 1),zs 2 4 20,zm 5 21]) (.ret)))
def WA:List Nat:=[2,3,4]
def E5:IF:=⟨2,22,3,Xj,[(4,some (true,2)),(5,none)],true,false,false⟩
def Vx:C:=.loop (rest 31 [2,3,11,12,13]) [4,5,6,7,8] (.seq (.reg [zb 14 .lss 13 12]) (.seq (.cond (.t 14) (.skip) (.exit 0)) (.seq (.blk 1 (.seq (.reg [zi 15 2 11 13,zL 16 2 15,zq 5 (.alc 4 2 (.agg [.nils,.nils])),zs 2 5 16]) (.drw [zf 17 1 3,zl 18 1 17,zf 19 0 5,zl 20 1 19,zq 21 (.app 5 1 8 (.c .nils) (.t 20)),zf 22 1 5,zl 23 1 22,zq 24 (.app 6 1 8 (.c .nils) (.t 23)),zq 25 (.bld [.nils,.nils] [(0,1,(.t 21)),(1,1,(.t 24))]),zq 26 (.bsl 7 2 1 [.t 25]),zq 27 (.app 8 2 48 (.t 18) (.t 26)),zf 28 1 3,zs 1 28 27] [(0,4),(1,4),(4,5),(4,6),(0,7),(1,7),(0,9),(1,9)]))) (.reg [za 29 13 1,zm 13 29]))))
def Sh:C:=.seq (.reg [zq 1 (.box 0 2 (.t 0)),zq 2 (.alc 1 2 (.agg [.nils,.nils]))]) (.seq (.reg [zf 6 0 1,zl 7 1 6,zq 8 (.app 2 1 16 (.c .nils) (.t 7)),zq 9 (.bld [.nils,.nils] [(0,1,(.t 8))]),zq 3 (.alc 3 2 (.agg [.nils,.nils])),zs 2 3 9]) (.seq (.seq (.reg [zf 10 1 1,zl 11 1 10,zn 12 11,zk 13 0]) (.blk 0 (Vx))) (.seq (.reg [zL 30 2 3,zs 2 2 30]) (.ret))))
def Aan:List Nat:=[1,2,8,3,5,21,24,26,27]
def HA:IF:=⟨1,31,9,Sh,[(2,some (true,2))],true,false,false⟩
def Wj:C:=.seq (.reg [zq 2 (.box 0 2 (.t 0)),zq 3 (.box 1 2 (.t 1)),zq 4 (.alc 2 2 (.agg [.nils,.nils])),zk 5 0]) (.seq (.seq (.reg [zL 7 2 2,zL 8 2 3,zq 9 (.call ED [.t 7,.t 8] []),zm 6 9]) (.seq (.reg [zm 10 6,zq 11 (.bin .neq (.t 10) (.c (.int .i64 0)))]) (.cond (.t 11) (.seq (.reg [zq 12 (.bld [.nils,.nils] []),zm 13 6,zs 2 4 12,zm 5 13]) (.ret)) (.skip)))) (.seq (.reg [zL 14 2 2,zL 15 2 3,zq 16 (.call Hj [.t 14,.t 15] []),zq 17 (.ext (.t 16) 0),zq 18 (.ext (.t 16) 1),zq 19 (.call H7 [.t 17,.t 18] []),zq 20 (.ext (.t 19) 0),zq 21 (.ext (.t 19) 1),zs 2 4 20,zm 5 21]) (.ret)))
def XA:List Nat:=[2,3,4]
def Fc:IF:=⟨2,22,3,Wj,[(4,some (true,2)),(5,none)],true,false,false⟩
def Lz:C:=.seq (.reg [zq 5 (.box 0 2 (.t 0)),zq 8 (.box 1 2 (.t 3)),zo 10 false]) (.seq (.seq (.reg [zm 11 2,zq 12 (.bin .neq (.t 11) (.c (.int .i64 0)))]) (.cond (.t 12) (.seq (.reg [zm 13 1,zm 14 2,zb 15 .eql 13 14,zm 16 15,zg 17 (.ld true 2 (.t 5)) 16 true,zg 18 (.call Fs [.t 17] []) 16 true,zu 19 16 18,zm 10 19]) (.ret)) (.skip))) (.seq (.reg [zm 20 1,zq 21 (.bin .eql (.t 20) (.c (.int .i64 2))),zm 22 21,zmg 23 4 22 true,zu 24 22 23,zm 25 24,zg 26 (.ld true 2 (.t 5)) 25 true,zg 27 (.call Fs [.t 26] []) 25 true,zu 28 25 27,zm 29 28,zmg 30 1 29 false,zg 31 (.bin .eql (.t 30) (.c (.int .i64 0))) 29 false,zmg 32 31 29 false,zg 33 (.ld true 2 (.t 5)) 32 true,zg 34 (.ld true 2 (.t 8)) 32 true,zg 35 (.call Bx [.t 33,.t 34] []) 32 true,zg 36 (.pick (.t 32) (.t 35) (.c (.bool false))) 29 false,zy 37 29 36,zm 10 37]) (.ret)))
def Aao:List Nat:=[5,8]
def HD:IF:=⟨5,38,2,Lz,[(10,none)],true,false,false⟩
def NH:C:=.seq (.reg [zo 4 false]) (.seq (.reg [zm 5 1,zn 6 5,zq 7 (.bin .leq (.t 6) (.c (.int .i64 10000))),zm 8 7,zmg 9 0 8 true,zmg 10 1 8 true,zg 11 (.call Dr [.t 9,.t 10] []) 8 true,zu 12 8 11,zm 4 12]) (.ret))
def Aay:List Nat:=[]
def HF:IF:=⟨2,13,0,NH,[(4,none)],true,false,false⟩
def ZR:C:=.loop (rest 38 [1,22,23,24]) [1] (.seq (.reg [zb 25 .lss 24 23]) (.seq (.cond (.t 25) (.skip) (.exit 0)) (.seq (.blk 1 (.seq (.reg [zi 26 2 22 24,zL 27 2 26,zq 4 (.alc 1 2 (.agg [.nils,.nils])),zs 2 4 27]) (.seq (.reg [zL 28 2 4,zf 29 1 1,zl 30 1 29,zn 31 30,zf 32 0 1,zl 33 1 32,zn 34 33,zq 35 (.call E8 [.t 28,.t 31,.t 34] []),zq 36 (.un .not (.t 35))]) (.cond (.t 36) (.seq (.reg [zo 2 false]) (.ret)) (.skip))))) (.reg [za 37 24 1,zm 24 37]))))
def Y4:C:=.seq (.reg [zq 1 (.box 0 2 (.t 0)),zo 2 false]) (.seq (.seq (.reg [zf 5 0 1,zl 6 1 5,zq 7 (.call LC [.t 6] []),zq 8 (.un .not (.t 7)),zm 9 8,zfg 10 1 1 9 false,zlg 11 1 10 9 false,zg 12 (.lenl (.t 11)) 9 false,zg 13 (.bin .lss (.t 12) (.c (.int .i64 1))) 9 false,zy 14 9 13,zm 15 14,zfg 16 1 1 15 false,zlg 17 1 16 15 false,zg 18 (.lenl (.t 17)) 15 false,zg 19 (.bin .gtr (.t 18) (.c (.int .i64 500))) 15 false,zy 20 15 19]) (.cond (.t 20) (.seq (.reg [zo 2 false]) (.ret)) (.skip))) (.seq (.seq (.reg [zf 21 1 1,zl 22 1 21,zn 23 22,zk 24 0]) (.blk 0 (ZR))) (.seq (.reg [zo 2 true]) (.ret))))
def Aet:List Nat:=[1,4]
def Li:IF:=⟨1,38,2,Y4,[(2,none)],true,false,false⟩
def Vk:C:=.loop (rest 26 [1,2,4,7,8,9]) [] (.seq (.reg [zb 10 .lss 9 8]) (.seq (.cond (.t 10) (.skip) (.exit 0)) (.seq (.blk 1 (.seq (.reg [zi 11 1 7 9,zl 12 1 11,zm 6 12]) (.seq (.reg [zm 13 6,zn 14 13,zq 15 (.bin .eql (.t 14) (.c (.int .i64 0)))]) (.cond (.t 15) (.seq (.reg [zf 16 0 2,zl 17 1 16,zq 18 (.call BV [.t 17] []),zs 2 4 18]) (.ret)) (.skip))))) (.reg [za 19 9 1,zm 9 19]))))
def NU:C:=.seq (.reg [zq 2 (.box 0 2 (.t 0)),zq 4 (.alc 1 2 (.agg [.nils,.nils]))]) (.seq (.seq (.reg [zm 7 1,zn 8 7,zk 9 0]) (.blk 0 (Vk))) (.seq (.drw [zL 20 2 2,zf 21 0 2,zl 22 1 21,zm 23 1,zq 24 (.call DR [.t 22,.t 23] []),zq 25 (.call f_r07_Meet [.t 20,.t 24] []),zs 2 4 25] [(0,4)]) (.ret)))
def Aab:List Nat:=[2,4]
def Hx:IF:=⟨2,26,2,NU,[(4,some (true,2))],true,false,false⟩
def Fl:C:=.seq (.reg [zq 2 (.box 0 2 (.t 0)),zq 4 (.alc 1 2 (.agg [.nils,.nils])),zk 5 0]) (.seq (.seq (.reg [zL 12 2 2,zq 13 (.call Co [.t 12] []),zq 14 (.un .not (.t 13))]) (.cond (.t 14) (.seq (.reg [zq 15 (.bld [.nils,.nils] []),zs 2 4 15,zk 5 30]) (.ret)) (.skip))) (.seq (.seq (.frzt 2 (.reg [zm 16 1,zq 17 (.mkf BB [.t 2]),zq 18 (.call Ag [.t 16,.t 17] [])])) (.cond (.t 18) (.seq (.reg [zq 19 (.bld [.nils,.nils] []),zs 2 4 19,zk 5 1]) (.ret)) (.skip))) (.seq (.seq (.reg [zm 20 1,zq 21 (.call Ag [.t 20,(.c (.fn BC []))] [])]) (.cond (.t 21) (.seq (.reg [zf 22 0 2,zl 23 1 22,zq 24 (.call BE [.t 23] []),zs 2 4 24,zk 5 0]) (.ret)) (.skip))) (.seq (.reg [zf 26 0 2,zl 27 1 26,zm 28 1,zq 29 (.call BX [.t 27,.t 28] []),zm 25 29,zq 30 (.ext (.t 25) 0),zq 31 (.ext (.t 25) 1),zq 6 (.alc 2 1 .nils),zq 7 (.alc 3 1 .nils),zs 1 6 30,zs 1 7 31]) (.seq (.frzt 6 (.reg [zq 32 (.mkf A4 [.t 6]),zq 8 (.alc 4 1 .nilf),zs 1 8 32])) (.seq (.frzt 7 (.frzt 8 (.reg [zq 33 (.mkf f_meet_Only_4 [.t 2,.t 8,.t 7]),zq 34 (.mkf f_meet_Only_5 [.t 2,.t 8]),zq 35 (.bld [.nilf,.nilf] [(0,1,(.t 33)),(1,1,(.t 34))]),zq 9 (.alc 5 2 (.agg [.nilf,.nilf])),zs 2 9 35]))) (.seq (.reg [zL 37 2 9,zf 38 0 2,zl 39 1 38,zq 40 (.bld [(.int .i64 0),(.int .i64 0)] []),zq 41 (.call Ak [.t 37,.t 39,.t 40] []),zm 36 41,zq 42 (.ext (.t 36) 0),zq 43 (.ext (.t 36) 1),zq 10 (.alc 6 2 (.agg [.nils,.nils])),zs 2 10 42,zm 11 43]) (.seq (.seq (.reg [zm 44 11,zq 45 (.un .not (.t 44))]) (.cond (.t 45) (.seq (.reg [zq 46 (.bld [.nils,.nils] []),zs 2 4 46,zk 5 2]) (.ret)) (.skip))) (.seq (.reg [zL 48 2 10,zq 49 (.call A3 [.t 48] []),zm 47 49,zq 50 (.ext (.t 47) 0),zq 51 (.ext (.t 47) 1),zs 2 10 50]) (.seq (.reg [zL 52 2 10,zs 2 4 52,zk 5 0]) (.ret)))))))))))
def Wl:List Nat:=[2,4,6,7,8,9,10]
def Fb:IF:=⟨2,53,7,Fl,[(4,some (true,2)),(5,none)],true,false,false⟩
def SV:C:=.loop (rest 19 [3,6,7,8]) [0,1] (.seq (.reg [zb 9 .lss 8 7]) (.seq (.cond (.t 9) (.skip) (.exit 0)) (.seq (.blk 1 (.seq (.reg [zi 10 1 6 8,zl 11 1 10,zm 5 11]) (.reg [zm 12 3,zm 13 5,zq 14 (.app 0 1 8 (.c .nils) (.t 13)),zq 15 (.bsl 1 1 1 [.t 14]),zq 16 (.app 2 1 24 (.t 12) (.t 15)),zm 3 16]))) (.reg [za 17 8 1,zm 8 17]))))
def QB:C:=.seq (.reg [zq 2 (.mov (.c .nils))]) (.seq (.reg [zq 3 (.mov (.c .nils))]) (.seq (.seq (.reg [zm 6 0,zn 7 6,zk 8 0]) (.blk 0 (SV))) (.seq (.reg [zm 18 3,zm 2 18]) (.ret))))
def X0:List Nat:=[14,15,16]
def FK:IF:=⟨1,19,3,QB,[(2,none)],true,false,false⟩
def Yb:C:=.loop (rest 46 [1,2,5,6]) [] (.seq (.seq (.reg [zm 14 6,zf 15 1 2,zl 16 1 15,zn 17 16,zb 18 .lss 14 17,zm 19 18,zmg 20 5 19 true,zmg 21 1 19 true,zg 22 (.bin .leq (.t 20) (.t 21)) 19 true,zu 23 19 22]) (.cond (.t 23) (.skip) (.exit 0))) (.seq (.blk 1 (.drw [zm 26 5,zf 27 1 2,zl 28 1 27,zm 29 6,zi 30 2 28 29,zf 31 0 30,zl 32 1 31,zn 33 32,zf 34 1 2,zl 35 1 34,zm 36 6,zi 37 2 35 36,zf 38 1 37,zl 39 1 38,zn 40 39,zb 41 .add 33 40,zb 42 .add 26 41,zm 5 42] [])) (.reg [zm 24 6,za 25 24 1,zm 6 25])))
def Vv:C:=.seq (.reg [zq 2 (.box 0 2 (.t 0)),zo 4 false]) (.seq (.reg [zf 7 0 2,zl 8 1 7,zn 9 8,zf 10 1 2,zl 11 1 10,zn 12 11,zb 13 .add 9 12,zm 5 13]) (.seq (.seq (.reg [zk 6 0]) (.blk 0 (Yb))) (.seq (.reg [zm 43 5,zm 44 1,zb 45 .leq 43 44,zm 4 45]) (.ret))))
def Ab6:List Nat:=[2]
def J2:IF:=⟨2,46,1,Vv,[(4,none)],true,false,false⟩
def UY:C:=.loop (rest 53 [3,23,24,25]) [2] (.seq (.reg [zb 26 .lss 25 24]) (.seq (.cond (.t 26) (.skip) (.exit 0)) (.seq (.blk 1 (.seq (.reg [zm 27 25,zi 28 2 23 25,zL 29 2 28,zq 6 (.alc 2 2 (.agg [.nils,.nils])),zm 5 27,zs 2 6 29]) (.seq (.drw [zf 30 0 6,zl 31 1 30,zf 32 1 3,zl 33 1 32,zm 34 5,zi 35 2 33 34,zf 36 0 35,zl 37 1 36,zq 38 (.call A1 [.t 31,.t 37] []),zq 39 (.un .not (.t 38)),zm 40 39,zfg 41 1 6 40 false,zlg 42 1 41 40 false,zfg 43 1 3 40 false,zlg 44 1 43 40 false,zmg 45 5 40 false,zg 46 (.iad 2 (.t 44) (.t 45)) 40 false,zfg 47 1 46 40 false,zlg 48 1 47 40 false,zg 49 (.call A1 [.t 42,.t 48] []) 40 false,zg 50 (.un .not (.t 49)) 40 false,zy 51 40 50] []) (.cond (.t 51) (.seq (.reg [zo 4 false]) (.ret)) (.skip))))) (.reg [za 52 25 1,zm 25 52]))))
def Si:C:=.seq (.reg [zq 2 (.box 0 2 (.t 0)),zq 3 (.box 1 2 (.t 1)),zo 4 false]) (.seq (.seq (.reg [zf 7 0 2,zl 8 1 7,zf 9 0 3,zl 10 1 9,zq 11 (.call AI [.t 8,.t 10] []),zq 12 (.un .not (.t 11)),zm 13 12,zfg 14 1 2 13 false,zlg 15 1 14 13 false,zg 16 (.lenl (.t 15)) 13 false,zfg 17 1 3 13 false,zlg 18 1 17 13 false,zg 19 (.lenl (.t 18)) 13 false,zg 20 (.bin .neq (.t 16) (.t 19)) 13 false,zy 21 13 20]) (.cond (.t 21) (.seq (.reg [zo 4 false]) (.ret)) (.skip))) (.seq (.seq (.reg [zf 22 1 2,zl 23 1 22,zn 24 23,zk 25 0]) (.blk 0 (UY))) (.seq (.reg [zo 4 true]) (.ret))))
def Zb:List Nat:=[2,3,6]
def HL:IF:=⟨2,53,3,Si,[(4,none)],true,false,false⟩
def OF:C:=.loop (rest 26 [1,12,13,14]) [] (.seq (.reg [zb 15 .lss 14 13]) (.seq (.cond (.t 15) (.skip) (.exit 0)) (.seq (.blk 1 (.seq (.reg [zm 16 14,zi 17 1 12 14,zl 18 1 17,zm 5 16,zm 6 18]) (.seq (.reg [zm 19 6,zm 20 1,zm 21 5,zi 22 1 20 21,zl 23 1 22,zb 24 .neq 19 23]) (.cond (.t 24) (.seq (.reg [zo 4 false]) (.ret)) (.skip))))) (.reg [za 25 14 1,zm 14 25]))))
def JP:C:=.seq (.reg [zo 4 false]) (.seq (.seq (.reg [zm 7 0,zn 8 7,zm 9 1,zn 10 9,zb 11 .neq 8 10]) (.cond (.t 11) (.seq (.reg [zo 4 false]) (.ret)) (.skip))) (.seq (.seq (.reg [zm 12 0,zn 13 12,zk 14 0]) (.blk 0 (OF))) (.seq (.reg [zo 4 true]) (.ret))))
def RB:List Nat:=[]
def CF:IF:=⟨2,26,0,JP,[(4,none)],true,false,false⟩
def L6:C:=.loop (rest 26 [1,12,13,14]) [] (.seq (.reg [zb 15 .lss 14 13]) (.seq (.cond (.t 15) (.skip) (.exit 0)) (.seq (.blk 1 (.seq (.reg [zm 16 14,zi 17 1 12 14,zl 18 1 17,zm 5 16,zm 6 18]) (.seq (.reg [zm 19 6,zm 20 1,zm 21 5,zi 22 1 20 21,zl 23 1 22,zb 24 .neq 19 23]) (.cond (.t 24) (.seq (.reg [zo 4 false]) (.ret)) (.skip))))) (.reg [za 25 14 1,zm 14 25]))))
def E7:C:=.seq (.reg [zo 4 false]) (.seq (.seq (.reg [zm 7 0,zn 8 7,zm 9 1,zn 10 9,zb 11 .neq 8 10]) (.cond (.t 11) (.seq (.reg [zo 4 false]) (.ret)) (.skip))) (.seq (.seq (.reg [zm 12 0,zn 13 12,zk 14 0]) (.blk 0 (L6))) (.seq (.reg [zo 4 true]) (.ret))))
def N0:List Nat:=[]
def BI:IF:=⟨2,26,0,E7,[(4,none)],true,false,false⟩
def Qp:C:=.seq (.reg [zq 0 (.alc 0 2 (.agg [.nils,.nils]))]) (.seq (.reg [⟨some 1,.bsl 1 1 1 [(.c (.str ⟨#[97]⟩))],none⟩,zq 2 (.bsl 2 1 2 [(.c (.int .i64 0)),(.c (.int .i64 1))]),zq 3 (.bsl 3 1 1 [(.c (.int .i64 0))]),zq 4 (.bld [.nils,.nils] [(0,1,(.t 2)),(1,1,(.t 3))]),zq 5 (.bsl 4 2 1 [.t 4]),zq 6 (.bld [.nils,.nils] [(0,1,(.t 1)),(1,1,(.t 5))]),zs 2 0 6]) (.ret))
def Wt:List Nat:=[0,1,2,3,5]
def FL:IF:=⟨0,7,5,Qp,[(0,some (true,2))],true,false,false⟩
def Oi:C:=.seq (.reg [zq 0 (.alc 0 2 (.agg [.nils,.nils]))]) (.seq (.reg [⟨some 1,.bsl 1 1 1 [(.c (.str ⟨#[97]⟩))],none⟩,zq 2 (.bsl 2 1 1 [(.c (.int .i64 1))]),zq 3 (.bsl 3 1 1 [(.c (.int .i64 0))]),zq 4 (.bld [.nils,.nils] [(0,1,(.t 2)),(1,1,(.t 3))]),zq 5 (.bsl 4 2 1 [.t 4]),zq 6 (.bld [.nils,.nils] [(0,1,(.t 1)),(1,1,(.t 5))]),zs 2 0 6]) (.ret))
def Ut:List Nat:=[0,1,2,3,5]
def D8:IF:=⟨0,7,5,Oi,[(0,some (true,2))],true,false,false⟩
def R7:C:=.seq (.reg [zq 2 (.box 0 2 (.t 0)),zq 3 (.box 1 2 (.t 1)),zo 4 false]) (.seq (.reg [zL 5 2 2,zq 6 (.call Jw [.t 5] []),zm 7 6,zfg 8 0 2 7 true,zlg 9 1 8 7 true,zfg 10 0 3 7 true,zlg 11 1 10 7 true,zg 12 (.call AI [.t 9,.t 11] []) 7 true,zu 13 7 12,zm 14 13,zg 15 (.ld true 2 (.t 2)) 14 true,zg 16 (.call D9 [.t 15] []) 14 true,zu 17 14 16,zm 18 17,zg 19 (.ld true 2 (.t 2)) 18 true,zg 20 (.ld true 2 (.t 3)) 18 true,zg 21 (.call DW [.t 19,.t 20] []) 18 true,zu 22 18 21,zm 4 22]) (.ret))
def Aag:List Nat:=[2,3]
def HK:IF:=⟨2,23,2,R7,[(4,none)],true,false,false⟩
def K7:C:=.seq (.reg [zq 2 (.box 0 2 (.t 0)),zq 4 (.mov (.c .nils))]) (.seq (.seq (.reg [zm 5 1,zq 6 (.bin .lss (.t 5) (.c (.int .i64 0)))]) (.cond (.t 6) (.seq (.reg [zq 4 (.mov (.c .nils))]) (.ret)) (.skip))) (.seq (.reg [zf 7 1 2,zl 8 1 7,zm 9 1,zi 10 2 8 9,zf 11 0 10,zl 12 1 11,zm 4 12]) (.ret)))
def Vi:List Nat:=[2]
def D3:IF:=⟨2,13,1,K7,[(4,none)],true,false,false⟩
def ZF:C:=.loop (rest 17 [1,7,8,9]) [] (.seq (.reg [zb 10 .lss 9 8]) (.seq (.cond (.t 10) (.skip) (.exit 0)) (.seq (.blk 1 (.seq (.reg [zi 11 1 7 9,zl 12 1 11,zm 6 12]) (.seq (.reg [zm 13 1,zm 14 6,zb 15 .eql 13 14]) (.cond (.t 15) (.seq (.reg [zo 4 true]) (.ret)) (.skip))))) (.reg [za 16 9 1,zm 9 16]))))
def YU:C:=.seq (.reg [zo 4 false]) (.seq (.seq (.reg [zm 7 0,zn 8 7,zk 9 0]) (.blk 0 (ZF))) (.seq (.reg [zo 4 false]) (.ret)))
def AfL:List Nat:=[]
def Lh:IF:=⟨2,17,0,YU,[(4,none)],true,false,false⟩
def NJ:C:=.seq (.reg [zq 3 (.box 0 2 (.t 0)),zk 6 0]) (.seq (.seq (.reg [zm 7 1,zq 8 (.bin .lss (.t 7) (.c (.int .i64 0)))]) (.cond (.t 8) (.seq (.reg [zk 6 (-1)]) (.ret)) (.skip))) (.seq (.reg [zf 9 1 3,zl 10 1 9,zm 11 1,zi 12 2 10 11,zf 13 1 12,zl 14 1 13,zm 15 2,zi 16 1 14 15,zl 17 1 16,zm 6 17]) (.ret)))
def Za:List Nat:=[3]
def HI:IF:=⟨3,18,1,NJ,[(6,none)],true,false,false⟩
def Ta:C:=.loop (rest 27 [0,3,8,9,10]) [1] (.seq (.reg [zb 11 .lss 10 9]) (.seq (.cond (.t 11) (.skip) (.exit 0)) (.seq (.blk 1 (.seq (.reg [zm 12 10,zi 13 2 8 10,zL 14 2 13,zq 7 (.alc 1 2 (.agg [(.int .i64 0),(.int .i64 0)])),zm 6 12,zs 2 7 14]) (.seq (.reg [zL 15 2 3,zL 16 2 7,zq 17 (.eqa false [1,1] (.t 15) (.t 16))]) (.cond (.t 17) (.seq (.reg [zm 18 6,zm 19 0,zm 4 18,zm 5 19]) (.ret)) (.skip))))) (.reg [za 20 10 1,zm 10 20]))))
def Pv:C:=.seq (.reg [zq 3 (.box 0 2 (.t 1)),zk 4 0,zq 5 (.mov (.c .nils))]) (.seq (.seq (.reg [zm 8 0,zn 9 8,zk 10 0]) (.blk 0 (Ta))) (.seq (.reg [zm 21 0,zn 22 21,zm 23 0,zL 24 2 3,zq 25 (.bsl 2 2 1 [.t 24]),zq 26 (.app 3 2 16 (.t 23) (.t 25)),zm 4 22,zm 5 26]) (.ret)))
def X6:List Nat:=[3,7,25,26]
def HW:IF:=⟨2,27,4,Pv,[(4,none),(5,none)],false,true,false⟩
def U0:C:=.loop (rest 92 [1,2,4,5,6,30,31,32]) [] (.seq (.reg [zb 33 .lss 32 31]) (.seq (.cond (.t 33) (.skip) (.exit 0)) (.seq (.blk 1 (.seq (.reg [zm 34 32,zi 35 1 30 32,zl 36 1 35,zm 7 34,zm 8 36]) (.reg [zm 37 6,zm 38 8,zm 39 7,zi 40 1 37 38,zs 1 40 39]))) (.reg [za 41 32 1,zm 32 41]))))
def Va:C:=.loop (rest 92 [2,4,5,6,9,12,46,47,48,64,65,66]) [7,8] (.seq (.reg [zb 67 .lss 66 65]) (.seq (.cond (.t 67) (.skip) (.exit 4)) (.seq (.blk 5 (.seq (.reg [zi 68 1 64 66,zl 69 1 68,zm 14 69]) (.seq (.seq (.reg [zm 70 14,zq 71 (.bin .geq (.t 70) (.c (.int .i64 0)))]) (.cond (.t 71) (.reg [zm 72 6,zm 73 14,zi 74 1 72 73,zl 75 1 74,zm 14 75]) (.skip))) (.reg [zf 76 1 12,zl 77 1 76,zm 78 14,zq 79 (.bsl 7 1 1 [.t 78]),zq 80 (.app 8 1 8 (.t 77) (.t 79)),zf 81 1 12,zs 1 81 80])))) (.reg [za 82 66 1,zm 66 82]))))
def VH:C:=.loop (rest 92 [2,4,5,6,9,46,47,48]) [6,7,8,9,10] (.seq (.reg [zb 49 .lss 48 47]) (.seq (.cond (.t 49) (.skip) (.exit 2)) (.seq (.blk 3 (.seq (.reg [zi 50 1 46 48,zl 51 1 50,zm 11 51]) (.seq (.reg [zf 52 1 4,zl 53 1 52,zm 54 11,zi 55 2 53 54,zf 56 0 55,zl 57 1 56,zq 58 (.bld [.nils,.nils] [(0,1,(.t 57))]),zq 12 (.alc 6 2 (.agg [.nils,.nils])),zs 2 12 58]) (.seq (.seq (.reg [zf 59 1 4,zl 60 1 59,zm 61 11,zi 62 2 60 61,zf 63 1 62,zl 64 1 63,zn 65 64,zk 66 0]) (.blk 4 (Va))) (.reg [zf 83 1 9,zl 84 1 83,zL 85 2 12,zq 86 (.bsl 9 2 1 [.t 85]),zq 87 (.app 10 2 48 (.t 84) (.t 86)),zf 88 1 9,zs 1 88 87]))))) (.reg [za 89 48 1,zm 48 89]))))
def NE:C:=.seq (.reg [zq 1 (.box 0 2 (.t 0)),zq 2 (.alc 1 2 (.agg [.nils,.nils])),zq 3 (.mov (.c .nils))]) (.seq (.seq (.reg [zL 15 2 1,zq 16 (.call CR [.t 15] []),zq 17 (.iad 1 (.t 16) (.c (.int .i64 0))),zl 18 1 17]) (.cond (.t 18) (.seq (.reg [zf 19 0 1,zl 20 1 19,zq 21 (.call BV [.t 20] []),zs 2 2 21,zq 3 (.mov (.c .nils))]) (.ret)) (.skip))) (.seq (.reg [zL 22 2 1,zq 23 (.call Fq [.t 22] []),zq 4 (.alc 2 2 (.agg [.nils,.nils])),zs 2 4 23]) (.seq (.reg [zL 24 2 4,zq 25 (.call DK [.t 24] []),zm 5 25]) (.seq (.reg [zf 26 1 1,zl 27 1 26,zn 28 27,zq 29 (.mks 3 1 8 (.int .i64 0) (.t 28) (.t 28)),zm 6 29]) (.seq (.seq (.reg [zm 30 5,zn 31 30,zk 32 0]) (.blk 0 (U0))) (.seq (.reg [zf 42 0 1,zl 43 1 42,zq 44 (.app 4 1 16 (.c .nils) (.t 43)),zq 45 (.bld [.nils,.nils] [(0,1,(.t 44))]),zq 9 (.alc 5 2 (.agg [.nils,.nils])),zs 2 9 45]) (.seq (.seq (.reg [zm 46 5,zn 47 46,zk 48 0]) (.blk 2 (VH))) (.seq (.reg [zL 90 2 9,zm 91 5,zs 2 2 90,zm 3 91]) (.ret)))))))))
def ZK:List Nat:=[1,2,4,29,44,9,12,79,80,86,87]
def Hz:IF:=⟨1,92,11,NE,[(2,some (true,2)),(3,none)],true,false,false⟩
def Ts:C:=.seq (.reg [zq 2 (.box 0 2 (.t 0)),zq 3 (.box 1 2 (.t 1)),zk 4 0]) (.seq (.blk 0 (.seq (.reg [zL 6 2 2,zq 7 (.call Co [.t 6] []),zq 8 (.un .not (.t 7)),zm 9 8,zg 10 (.ld true 2 (.t 3)) 9 false,zg 11 (.call Co [.t 10] []) 9 false,zg 12 (.un .not (.t 11)) 9 false,zy 13 9 12,zm 5 13]) (.cond (.t 5) (.seq (.reg [zk 4 30]) (.ret)) (.seq (.reg [zf 15 0 2,zl 16 1 15,zf 17 0 3,zl 18 1 17,zq 19 (.call Cx [.t 16,.t 18] []),zq 20 (.un .not (.t 19)),zm 14 20]) (.cond (.t 14) (.seq (.reg [zk 4 10]) (.ret)) (.skip)))))) (.seq (.reg [zk 4 0]) (.ret)))
def Ud:List Nat:=[2,3]
def Dj:IF:=⟨2,21,2,Ts,[(4,none)],true,false,false⟩
def WG:C:=.seq (.reg [zq 2 (.box 0 2 (.t 0)),zq 4 (.alc 1 2 (.agg [.nils,.nils])),zk 5 0]) (.seq (.seq (.reg [zm 6 1,zq 7 (.un .not (.t 6))]) (.cond (.t 7) (.seq (.reg [zq 8 (.bld [.nils,.nils] []),zs 2 4 8,zk 5 2]) (.ret)) (.skip))) (.seq (.reg [zL 9 2 2,zs 2 4 9,zk 5 0]) (.ret)))
def Yj:List Nat:=[2,4]
def E6:IF:=⟨2,10,2,WG,[(4,some (true,2)),(5,none)],true,false,false⟩
def AaW:C:=.seq (.reg [zq 2 (.box 0 2 (.t 0)),zq 3 (.box 1 2 (.t 1)),zq 4 (.alc 2 2 (.agg [.nils,.nils])),zo 5 false]) (.seq (.frzt 2 (.frzt 3 (.reg [zq 9 (.mkf Jy [.t 2,.t 3]),zq 10 (.mkf Ju [.t 2,.t 3]),zq 11 (.bld [.nilf,.nilf] [(0,1,(.t 9)),(1,1,(.t 10))]),zq 6 (.alc 3 2 (.agg [.nilf,.nilf])),zs 2 6 11]))) (.seq (.reg [zL 13 2 6,zf 14 0 2,zl 15 1 14,zq 16 (.bld [(.int .i64 0),(.int .i64 0)] []),zq 17 (.call Ak [.t 13,.t 15,.t 16] []),zm 12 17,zq 18 (.ext (.t 12) 0),zq 19 (.ext (.t 12) 1),zq 7 (.alc 4 2 (.agg [.nils,.nils])),zs 2 7 18,zm 8 19]) (.seq (.seq (.reg [zm 20 8,zq 21 (.un .not (.t 20))]) (.cond (.t 21) (.seq (.reg [zq 22 (.bld [.nils,.nils] []),zs 2 4 22,zo 5 false]) (.ret)) (.skip))) (.seq (.reg [zL 24 2 7,zq 25 (.call A3 [.t 24] []),zm 23 25,zq 26 (.ext (.t 23) 0),zq 27 (.ext (.t 23) 1),zs 2 7 26]) (.seq (.reg [zL 28 2 7,zs 2 4 28,zo 5 true]) (.ret))))))
def ZI:List Nat:=[2,3,4,6,7]
def HH:IF:=⟨2,29,5,AaW,[(4,some (true,2)),(5,none)],true,false,false⟩
def Te:C:=.seq (.reg [zq 2 (.box 0 2 (.t 0)),zq 3 (.box 1 2 (.t 1)),zq 4 (.alc 2 2 (.agg [.nils,.nils])),zo 5 false]) (.seq (.reg [zL 14 2 2,zq 15 (.call A3 [.t 14] []),zm 13 15,zq 16 (.ext (.t 13) 0),zq 17 (.ext (.t 13) 1),zs 2 2 16,zm 6 17]) (.seq (.reg [zL 19 2 3,zq 20 (.call A3 [.t 19] []),zm 18 20,zq 21 (.ext (.t 18) 0),zq 22 (.ext (.t 18) 1),zs 2 3 21,zm 7 22]) (.seq (.blk 0 (.seq (.reg [zm 24 6,zn 25 24,zq 26 (.bin .eql (.t 25) (.c (.int .i64 0))),zm 23 26]) (.cond (.t 23) (.seq (.reg [zL 27 2 3,zs 2 4 27,zo 5 true]) (.ret)) (.seq (.reg [zm 29 7,zn 30 29,zq 31 (.bin .eql (.t 30) (.c (.int .i64 0))),zm 28 31]) (.cond (.t 28) (.seq (.reg [zL 32 2 2,zs 2 4 32,zo 5 true]) (.ret)) (.skip)))))) (.seq (.reg [zq 8 (.alc 3 1 .nilf),zr (.sto 1 (.t 8) (.c (.fn EB [])))]) (.seq (.reg [zq 9 (.alc 4 1 .nilf),zr (.sto 1 (.t 9) (.c (.fn EF [])))]) (.seq (.frzt 2 (.frzt 3 (.frzt 8 (.frzt 9 (.reg [zq 33 (.mkf Eu [.t 8,.t 2,.t 3]),zq 34 (.mkf EL [.t 9,.t 2,.t 3]),zq 35 (.bld [.nilf,.nilf] [(0,1,(.t 33)),(1,1,(.t 34))]),zq 10 (.alc 5 2 (.agg [.nilf,.nilf])),zs 2 10 35]))))) (.seq (.reg [zL 37 2 10,zf 38 0 2,zl 39 1 38,zq 40 (.bld [(.int .i64 0),(.int .i64 0)] []),zq 41 (.call Ak [.t 37,.t 39,.t 40] []),zm 36 41,zq 42 (.ext (.t 36) 0),zq 43 (.ext (.t 36) 1),zq 11 (.alc 6 2 (.agg [.nils,.nils])),zs 2 11 42,zm 12 43]) (.seq (.seq (.reg [zm 44 12,zq 45 (.un .not (.t 44))]) (.cond (.t 45) (.seq (.reg [zq 46 (.bld [.nils,.nils] []),zs 2 4 46,zo 5 false]) (.ret)) (.skip))) (.seq (.reg [zL 48 2 11,zq 49 (.call A3 [.t 48] []),zm 47 49,zq 50 (.ext (.t 47) 0),zq 51 (.ext (.t 47) 1),zs 2 11 50]) (.seq (.reg [zL 52 2 11,zs 2 4 52,zo 5 true]) (.ret)))))))))))
def SF:List Nat:=[2,3,4,8,9,10,11]
def Da:IF:=⟨2,53,7,Te,[(4,some (true,2)),(5,none)],true,false,false⟩
def R5:C:=.seq (.reg [zq 1 (.box 0 2 (.t 0)),zo 2 false]) (.seq (.reg [zf 3 0 1,zl 4 1 3,zn 5 4,zq 6 (.bin .eql (.t 5) (.c (.int .i64 0))),zm 7 6,zfg 8 1 1 7 true,zlg 9 1 8 7 true,zg 10 (.lenl (.t 9)) 7 true,zg 11 (.bin .eql (.t 10) (.c (.int .i64 0))) 7 true,zu 12 7 11,zm 2 12]) (.ret))
def Zn:List Nat:=[1]
def Hs:IF:=⟨1,13,1,R5,[(2,none)],true,false,false⟩
def Z0:C:=.loop (rest 26 [0,8,9,10]) [] (.seq (.reg [zb 11 .lss 10 9]) (.seq (.cond (.t 11) (.skip) (.exit 0)) (.seq (.blk 1 (.seq (.reg [zm 12 10,zi 13 1 8 10,zl 14 1 13,zm 3 12,zm 4 14]) (.seq (.reg [zm 15 4,zq 16 (.call HC [.t 15] []),zq 17 (.un .not (.t 16)),zm 18 17,zmg 19 0 18 false,zmg 20 4 18 false,zg 21 (.call Fh [.t 19,.t 20] []) 18 false,zmg 22 3 18 false,zg 23 (.bin .neq (.t 21) (.t 22)) 18 false,zy 24 18 23]) (.cond (.t 24) (.seq (.reg [zo 2 false]) (.ret)) (.skip))))) (.reg [za 25 10 1,zm 10 25]))))
def YB:C:=.seq (.reg [zo 2 false]) (.seq (.seq (.reg [zm 5 0,zn 6 5,zq 7 (.bin .gtr (.t 6) (.c (.int .i64 8)))]) (.cond (.t 7) (.seq (.reg [zo 2 false]) (.ret)) (.skip))) (.seq (.seq (.reg [zm 8 0,zn 9 8,zk 10 0]) (.blk 0 (Z0))) (.seq (.reg [zo 2 true]) (.ret))))
def AfX:List Nat:=[]
def Lj:IF:=⟨1,26,0,YB,[(2,none)],true,false,false⟩
def WD:C:=.loop (rest 33 [0,2,3,7,8]) [2,3] (.seq (.reg [zb 9 .lss 8 7]) (.seq (.cond (.t 9) (.skip) (.exit 0)) (.seq (.blk 1 (.seq (.reg [zm 10 8,zm 4 10]) (.reg [zf 11 0 3,zl 12 1 11,zm 13 4,zq 14 (.bsl 2 1 1 [.t 13]),zq 15 (.app 3 1 8 (.t 12) (.t 14)),zf 16 0 3,zs 1 16 15]))) (.reg [za 17 8 1,zm 8 17]))))
def Xp:C:=.loop (rest 33 [0,2,3,19,20]) [4,5] (.seq (.reg [zb 21 .lss 20 19]) (.seq (.cond (.t 21) (.skip) (.exit 2)) (.seq (.blk 3 (.reg [zf 22 1 3,zl 23 1 22,zq 24 (.bsl 4 1 1 [(.c (.int .i64 0))]),zq 25 (.app 5 1 8 (.t 23) (.t 24)),zf 26 1 3,zs 1 26 25])) (.reg [za 27 20 1,zm 20 27]))))
def U8:C:=.seq (.reg [zq 2 (.alc 0 2 (.agg [.nils,.nils]))]) (.seq (.reg [zq 3 (.alc 1 2 (.agg [.nils,.nils]))]) (.seq (.seq (.reg [zm 5 0,zn 6 5,zq 7 (.bin .shl (.c (.int .i64 1)) (.t 6)),zk 8 0]) (.blk 0 (WD))) (.seq (.seq (.reg [zm 18 0,zn 19 18,zk 20 0]) (.blk 2 (Xp))) (.seq (.drw [zm 28 0,zq 29 (.app 6 1 16 (.c .nils) (.t 28)),zL 30 2 3,zq 31 (.bsl 7 2 1 [.t 30]),zq 32 (.bld [.nils,.nils] [(0,1,(.t 29)),(1,1,(.t 31))]),zs 2 2 32] [(1,2),(1,3)]) (.ret)))))
def AbH:List Nat:=[2,3,14,15,24,25,29,31]
def JU:IF:=⟨1,33,8,U8,[(2,some (true,2))],true,true,false⟩
def PI:C:=.loop (rest 19 [0,2,3,5,6]) [2,3] (.seq (.reg [zb 7 .lss 6 5]) (.seq (.cond (.t 7) (.skip) (.exit 0)) (.seq (.blk 1 (.reg [zf 8 1 3,zl 9 1 8,zq 10 (.bsl 2 1 1 [(.c (.int .i64 (-1)))]),zq 11 (.app 3 1 8 (.t 9) (.t 10)),zf 12 1 3,zs 1 12 11])) (.reg [za 13 6 1,zm 6 13]))))
def MX:C:=.seq (.reg [zq 2 (.alc 0 2 (.agg [.nils,.nils]))]) (.seq (.reg [zq 3 (.alc 1 2 (.agg [.nils,.nils]))]) (.seq (.seq (.reg [zm 4 0,zn 5 4,zk 6 0]) (.blk 0 (PI))) (.seq (.drw [zm 14 0,zq 15 (.app 4 1 16 (.c .nils) (.t 14)),zL 16 2 3,zq 17 (.bsl 5 2 1 [.t 16]),zq 18 (.bld [.nils,.nils] [(0,1,(.t 15)),(1,1,(.t 17))]),zs 2 2 18] [(1,2),(1,3)]) (.ret))))
def SP:List Nat:=[2,3,10,11,15,17]
def Dt:IF:=⟨1,19,6,MX,[(2,some (true,2))],true,false,false⟩
def LX:C:=.seq (.reg [zq 2 (.alc 0 2 (.agg [.nils,.nils]))]) (.seq (.reg [zm 3 0,zq 4 (.call AC [.t 3] []),zq 5 (.bsl 1 1 1 [(.c (.int .i64 (-1)))]),zm 6 0,zn 7 6,zq 8 (.call Aw [.t 5,.t 7] [2]),zq 9 (.bld [.nils,.nils] [(1,1,(.t 8))]),zq 10 (.bsl 3 2 1 [.t 9]),zq 11 (.bld [.nils,.nils] [(0,1,(.t 4)),(1,1,(.t 10))]),zs 2 2 11]) (.ret))
def Rr:List Nat:=[2,5,8,10]
def CG:IF:=⟨1,12,4,LX,[(2,some (true,2))],true,false,false⟩
def Qw:C:=.loop (rest 21 [0,7,8,9]) [] (.seq (.reg [zb 10 .lss 9 8]) (.seq (.cond (.t 10) (.skip) (.exit 0)) (.seq (.blk 1 (.seq (.reg [zi 11 1 7 9,zl 12 1 11,zm 6 12]) (.seq (.reg [zm 13 6,zq 14 (.bin .lss (.t 13) (.c (.int .i64 0))),zm 15 14,zmg 16 6 15 false,zmg 17 0 15 false,zg 18 (.bin .geq (.t 16) (.t 17)) 15 false,zy 19 15 18]) (.cond (.t 19) (.seq (.reg [zo 4 false]) (.ret)) (.skip))))) (.reg [za 20 9 1,zm 9 20]))))
def MV:C:=.seq (.reg [zo 4 false]) (.seq (.seq (.reg [zm 7 1,zn 8 7,zk 9 0]) (.blk 0 (Qw))) (.seq (.reg [zo 4 true]) (.ret)))
def SJ:List Nat:=[]
def Dh:IF:=⟨2,21,0,MV,[(4,none)],true,false,false⟩
def Uj:C:=.loop (rest 66 [1,2,3,25,26,27]) [] (.seq (.reg [zb 28 .lss 27 26]) (.seq (.cond (.t 28) (.skip) (.exit 0)) (.seq (.blk 1 (.seq (.reg [zi 29 1 25 27,zl 30 1 29,zm 8 30]) (.seq (.reg [zm 31 8,zq 32 (.bin .lss (.t 31) (.c (.int .i64 (-1)))),zm 33 32,zmg 34 8 33 false,zmg 35 1 33 false,zg 36 (.bin .geq (.t 34) (.t 35)) 33 false,zy 37 33 36]) (.cond (.t 37) (.seq (.reg [zo 6 false]) (.ret)) (.skip))))) (.reg [za 38 27 1,zm 27 38]))))
def SE:C:=.loop (rest 66 [2,3,40,41,42,52,53,54]) [] (.seq (.reg [zb 55 .lss 54 53]) (.seq (.cond (.t 55) (.skip) (.exit 4)) (.seq (.blk 5 (.seq (.reg [zi 56 1 52 54,zl 57 1 56,zm 12 57]) (.seq (.reg [zf 58 1 3,zl 59 1 58,zm 60 12,zi 61 1 59 60,zl 62 1 61,zq 63 (.bin .lss (.t 62) (.c (.int .i64 0)))]) (.cond (.t 63) (.seq (.reg [zo 6 false]) (.ret)) (.skip))))) (.reg [za 64 54 1,zm 54 64]))))
def SU:C:=.loop (rest 66 [2,3,40,41,42]) [] (.seq (.reg [zb 43 .lss 42 41]) (.seq (.cond (.t 43) (.skip) (.exit 2)) (.seq (.blk 3 (.seq (.reg [zi 44 1 40 42,zl 45 1 44,zm 10 45]) (.seq (.seq (.reg [zm 46 2,zm 47 10,zq 48 (.call JY [.t 46,.t 47] []),zq 49 (.un .not (.t 48))]) (.cond (.t 49) (.seq (.reg [zo 6 false]) (.ret)) (.skip))) (.seq (.reg [zm 50 2,zm 51 10,zq 52 (.call Hv [.t 50,.t 51] []),zn 53 52,zk 54 0]) (.blk 4 (SE)))))) (.reg [za 65 42 1,zm 42 65]))))
def Qm:C:=.seq (.reg [zq 3 (.box 0 2 (.t 0)),zo 6 false]) (.seq (.seq (.reg [zf 13 1 3,zl 14 1 13,zn 15 14,zm 16 2,zb 17 .neq 15 16,zm 18 17,zfg 19 0 3 18 false,zlg 20 1 19 18 false,zg 21 (.call Ej [.t 20] []) 18 false,zg 22 (.un .not (.t 21)) 18 false,zy 23 18 22]) (.cond (.t 23) (.seq (.reg [zo 6 false]) (.ret)) (.skip))) (.seq (.seq (.reg [zf 24 1 3,zl 25 1 24,zn 26 25,zk 27 0]) (.blk 0 (Uj))) (.seq (.seq (.reg [zf 39 0 3,zl 40 1 39,zn 41 40,zk 42 0]) (.blk 2 (SU))) (.seq (.reg [zo 6 true]) (.ret)))))
def Wu:List Nat:=[3]
def FI:IF:=⟨3,66,1,Qm,[(6,none)],true,false,false⟩
def TX:C:=.loop (rest 122 [0,1,4,5,22,23]) [] (.seq (.reg [zb 24 .lss 23 22]) (.seq (.cond (.t 24) (.skip) (.exit 0)) (.seq (.blk 1 (.seq (.reg [zm 25 23,zm 6 25]) (.reg [zf 26 1 5,zl 27 1 26,zm 28 6,zi 29 1 27 28,zr (.sto 1 (.t 29) (.c (.int .i64 1)))]))) (.reg [za 30 23 1,zm 23 30]))))
def Ug:C:=.loop (rest 122 [0,1,4,5,7,8,9,10,11,50,51]) [10,11,12,13,14,15,16,17,19,20] (.mvt 7 4 (.seq (.reg [zb 52 .lss 51 50]) (.seq (.cond (.t 52) (.skip) (.exit 4)) (.seq (.blk 5 (.seq (.reg [zm 53 51,zm 12 53]) (.seq (.reg [zm 54 7,zm 55 9,zi 56 1 54 55,zl 57 1 56,zq 58 (.app 10 1 8 (.c .nils) (.t 57)),zm 59 12,zq 60 (.bsl 11 1 1 [.t 59]),zq 61 (.app 12 1 8 (.t 58) (.t 60)),zm 13 61]) (.seq (.blk 6 (.seq (.reg [zm 68 1,zm 69 13,zq 70 (.call Cr [.t 68,.t 69,(.c (.bool true))] []),zm 67 70]) (.cond (.t 67) (.seq (.reg [zf 71 1 10,zl 72 1 71,zq 73 (.bsl 13 1 1 [(.c (.int .i64 (-1)))]),zq 74 (.app 14 1 8 (.t 72) (.t 73)),zf 75 1 10,zs 1 75 74]) (.exit 5)) (.seq (.reg [zm 77 1,zm 78 13,zq 79 (.call Cr [.t 77,.t 78,(.c (.bool false))] []),zm 76 79]) (.cond (.t 76) (.seq (.reg [zf 80 1 10,zl 81 1 80,zm 82 7,zn 83 82,zq 84 (.bsl 15 1 1 [.t 83]),zq 85 (.app 16 1 8 (.t 81) (.t 84)),zf 86 1 10,zs 1 86 85]) (.reg [zm 87 7,zm 88 13,zq 89 (.bsl 17 1 1 [.t 88]),zq 90 (.app 18 1 24 (.t 87) (.t 89)),zm 7 90])) (.reg [zf 62 1 10,zl 63 1 62,zq 64 (.bsl 19 1 1 [(.c (.int .i64 1))]),zq 65 (.app 20 1 8 (.t 63) (.t 64)),zf 66 1 10,zs 1 66 65])))))) (.reg [zm 91 11,zm 92 12,zq 93 (.bin .shl (.c (.int .i64 1)) (.t 92)),zb 94 .or 91 93,zm 11 94]))))) (.reg [za 95 51 1,zm 51 95])))))
def Tm:C:=.loop (rest 122 [0,1,4,5,7,8,9,10,11,97,98,99]) [21,22] (.seq (.reg [zb 100 .lss 99 98]) (.seq (.cond (.t 100) (.skip) (.exit 7)) (.seq (.blk 8 (.seq (.reg [zi 101 1 97 99,zl 102 1 101,zm 15 102]) (.seq (.reg [zm 103 15,zm 104 11,zb 105 .and 103 104,zm 106 15,zb 107 .eql 105 106]) (.cond (.t 107) (.reg [zf 108 0 10,zl 109 1 108,zm 110 15,zq 111 (.bsl 21 1 1 [.t 110]),zq 112 (.app 22 1 8 (.t 109) (.t 111)),zf 113 0 10,zs 1 113 112]) (.skip))))) (.reg [za 114 99 1,zm 99 114]))))
def Tw:C:=.loop (rest 122 [0,1,4,5,7,8,9]) [7,8,9,10,11,12,13,14,15,16,17,19,20,21,22,23,24] (.mvt 7 4 (.seq (.seq (.reg [zm 35 9,zm 36 7,zn 37 36,zb 38 .lss 35 37]) (.cond (.t 38) (.skip) (.exit 2))) (.seq (.blk 3 (.seq (.seq (.reg [zm 41 9,zq 42 (.bin .eql (.t 41) (.c (.int .i64 1)))]) (.cond (.t 42) (.seq (.reg [zf 43 1 8,zl 44 1 43,zL 45 2 5,zq 46 (.bsl 7 2 1 [.t 45]),zq 47 (.app 8 2 48 (.t 44) (.t 46)),zf 48 1 8,zs 1 48 47]) (.exit 3)) (.skip))) (.seq (.reg [zq 10 (.alc 9 2 (.agg [.nils,.nils]))]) (.seq (.reg [zk 11 0]) (.seq (.seq (.reg [zm 49 0,zn 50 49,zk 51 0]) (.blk 4 (Ug))) (.seq (.seq (.reg [zf 96 0 5,zl 97 1 96,zn 98 97,zk 99 0]) (.blk 7 (Tm))) (.reg [zf 115 1 8,zl 116 1 115,zL 117 2 10,zq 118 (.bsl 23 2 1 [.t 117]),zq 119 (.app 24 2 48 (.t 116) (.t 118)),zf 120 1 8,zs 1 120 119]))))))) (.reg [zm 39 9,za 40 39 1,zm 9 40]))))
def Qk:C:=.seq (.reg [zq 4 (.alc 0 2 (.agg [.nils,.nils]))]) (.seq (.reg [zm 16 0,zq 17 (.call J6 [.t 16] [1,2]),zq 18 (.fld false 1 1 (.t 17)),zq 19 (.iad 2 (.t 18) (.c (.int .i64 0))),zL 20 2 19,zq 5 (.alc 3 2 (.agg [.nils,.nils])),zs 2 5 20]) (.seq (.seq (.reg [zm 21 0,zn 22 21,zk 23 0]) (.blk 0 (TX))) (.frzt 5 (.seq (.reg [zq 31 (.bsl 4 1 2 [(.c .nils),(.c .nils)]),zm 7 31]) (.seq (.reg [zm 32 0,zq 33 (.app 5 1 16 (.c .nils) (.t 32)),zq 34 (.bld [.nils,.nils] [(0,1,(.t 33))]),zq 8 (.alc 6 2 (.agg [.nils,.nils])),zs 2 8 34]) (.seq (.seq (.reg [zk 9 0]) (.blk 2 (Tw))) (.seq (.reg [zL 121 2 8,zs 2 4 121]) (.ret))))))))
def Xb:List Nat:=[4,17,17,5,31,33,8,46,47,10,58,60,61,73,74,84,85,89,90,64,65,111,112,118,119]
def FH:IF:=⟨2,122,25,Qk,[(4,some (true,2))],true,false,false⟩
def QW:C:=.loop (rest 94 [1,3,5,6,27,28,29,41,42,43]) [] (.seq (.reg [zb 44 .lss 43 42]) (.seq (.cond (.t 44) (.skip) (.exit 2)) (.seq (.blk 3 (.seq (.reg [zm 45 43,zi 46 1 41 43,zl 47 1 46,zm 7 45,zm 8 47]) (.seq (.seq (.reg [zm 48 8,zq 49 (.bin .lss (.t 48) (.c (.int .i64 (-1)))),zm 50 49,zmg 51 8 50 false,zmg 52 3 50 false,zg 53 (.bin .geq (.t 51) (.t 52)) 50 false,zy 54 50 53]) (.cond (.t 54) (.seq (.reg [zo 2 false]) (.ret)) (.skip))) (.seq (.reg [zm 55 8,zq 56 (.bin .geq (.t 55) (.c (.int .i64 0)))]) (.cond (.t 56) (.reg [zm 57 6,zm 58 7,zq 59 (.bin .shl (.c (.int .i64 1)) (.t 58)),zb 60 .or 57 59,zm 6 60]) (.skip)))))) (.reg [za 61 43 1,zm 43 61]))))
def Rw:C:=.loop (rest 94 [1,3,5,6,27,28,29,63,64,65]) [] (.seq (.reg [zb 66 .lss 65 64]) (.seq (.cond (.t 66) (.skip) (.exit 4)) (.seq (.blk 5 (.seq (.reg [zm 67 65,zi 68 1 63 65,zl 69 1 68,zm 9 67,zm 10 69]) (.seq (.reg [zm 70 10,zq 71 (.bin .lss (.t 70) (.c (.int .i64 0))),zm 72 71,zmg 73 10 72 false,zmg 74 6 72 false,zg 75 (.bin .andNot (.t 73) (.t 74)) 72 false,zg 76 (.bin .neq (.t 75) (.c (.int .i64 0))) 72 false,zy 77 72 76,zm 78 77,zmg 79 9 78 false,zg 80 (.bin .gtr (.t 79) (.c (.int .i64 0))) 78 false,zmg 81 80 78 false,zfg 82 0 5 81 true,zlg 83 1 82 81 true,zmg 84 9 81 true,zg 85 (.bin .sub (.t 84) (.c (.int .i64 1))) 81 true,zg 86 (.iad 1 (.t 83) (.t 85)) 81 true,zlg 87 1 86 81 true,zmg 88 10 81 true,zg 89 (.bin .geq (.t 87) (.t 88)) 81 true,zg 90 (.pick (.t 81) (.t 89) (.c (.bool false))) 78 false,zy 91 78 90]) (.cond (.t 91) (.seq (.reg [zo 2 false]) (.ret)) (.skip))))) (.reg [za 92 65 1,zm 65 92]))))
def Q7:C:=.loop (rest 94 [1,3,27,28,29]) [1] (.seq (.reg [zb 30 .lss 29 28]) (.seq (.cond (.t 30) (.skip) (.exit 0)) (.seq (.blk 1 (.seq (.reg [zi 31 2 27 29,zL 32 2 31,zq 5 (.alc 1 2 (.agg [.nils,.nils])),zs 2 5 32]) (.seq (.seq (.reg [zf 33 1 5,zl 34 1 33,zn 35 34,zf 36 0 1,zl 37 1 36,zn 38 37,zb 39 .neq 35 38]) (.cond (.t 39) (.seq (.reg [zo 2 false]) (.ret)) (.skip))) (.seq (.reg [zk 6 0]) (.seq (.seq (.reg [zf 40 1 5,zl 41 1 40,zn 42 41,zk 43 0]) (.blk 2 (QW))) (.seq (.reg [zf 62 0 5,zl 63 1 62,zn 64 63,zk 65 0]) (.blk 4 (Rw)))))))) (.reg [za 93 29 1,zm 29 93]))))
def Oa:C:=.seq (.reg [zq 1 (.box 0 2 (.t 0)),zo 2 false]) (.seq (.reg [zf 11 1 1,zl 12 1 11,zn 13 12,zm 3 13]) (.seq (.seq (.reg [zf 14 0 1,zl 15 1 14,zq 16 (.call Fe [.t 15] []),zq 17 (.un .not (.t 16)),zm 18 17,zmg 19 3 18 false,zg 20 (.bin .lss (.t 19) (.c (.int .i64 1))) 18 false,zy 21 18 20,zm 22 21,zmg 23 3 22 false,zg 24 (.bin .gtr (.t 23) (.c (.int .i64 500))) 22 false,zy 25 22 24]) (.cond (.t 25) (.seq (.reg [zo 2 false]) (.ret)) (.skip))) (.seq (.seq (.reg [zf 26 1 1,zl 27 1 26,zn 28 27,zk 29 0]) (.blk 0 (Q7))) (.seq (.reg [zo 2 true]) (.ret)))))
def Uo:List Nat:=[1,5]
def Ef:IF:=⟨1,94,2,Oa,[(2,none)],true,false,false⟩
def Du:C:=.seq (.reg [zo 4 false]) (.seq (.reg [zm 5 0,zm 6 1,zq 7 (.call AB [.t 5,.t 6] []),zq 8 (.bin .geq (.t 7) (.c (.int .i64 0))),zm 4 8]) (.ret))
def Jh:List Nat:=[]
def AA:IF:=⟨2,9,0,Du,[(4,none)],true,false,false⟩
def MR:C:=.seq (.reg [zo 3 false]) (.seq (.reg [zf 4 0 1,zl 5 1 4,zm 6 0,zq 7 (.call Dl [.t 5,.t 6] []),zq 8 (.un .not (.t 7)),zm 3 8]) (.ret))
def S5:List Nat:=[]
def Dq:IF:=⟨2,9,0,MR,[(3,none)],true,false,false⟩
def Kk:C:=.seq (.reg [zq 2 (.box 0 1 (.t 0)),zo 4 false]) (.seq (.reg [zm 5 1,zn 6 5,zq 7 (.bin .leq (.t 6) (.c (.int .i64 10000))),zm 8 7,zmg 9 1 8 true,zg 10 (.mkf BO [.t 2]) 8 true,zg 11 (.call Au [.t 9,.t 10] []) 8 true,zg 12 (.un .not (.t 11)) 8 true,zu 13 8 12,zm 4 13]) (.ret))
def Td:List Nat:=[2]
def Dd:IF:=⟨2,14,1,Kk,[(4,none)],true,false,false⟩
def Na:C:=.seq (.reg [zo 2 false]) (.seq (.reg [zm 3 0,zn 4 3,zq 5 (.bin .eql (.t 4) (.c (.int .i64 0))),zm 2 5]) (.ret))
def Tj:List Nat:=[]
def Dn:IF:=⟨1,6,0,Na,[(2,none)],true,false,false⟩
def Ox:C:=.loop (rest 67 [4,5,6,9,17,18,19,23,24,25]) [4,5,7] (.mvt 4 2 (.mvt 5 3 (.seq (.reg [zb 26 .lss 25 24]) (.seq (.cond (.t 26) (.skip) (.exit 2)) (.seq (.blk 3 (.seq (.reg [zi 27 1 23 25,zl 28 1 27,zm 11 28]) (.seq (.seq (.reg [zm 29 4,zm 30 9,zi 31 1 29 30,zl 32 1 31,zm 33 11,zi 34 1 32 33,zl 35 1 34,zq 36 (.bin .lss (.t 35) (.c (.int .i64 0)))]) (.cond (.t 36) (.seq (.reg [zm 37 4,zm 38 9,zi 39 1 37 38,zl 40 1 39,zm 41 11,zm 42 4,zn 43 42,zi 44 1 40 41,zs 1 44 43]) (.reg [zm 45 4,zm 46 6,zq 47 (.calv (.t 46) [] [4]),zq 48 (.bsl 5 1 1 [.t 47]),zq 49 (.app 6 1 24 (.t 45) (.t 48)),zm 50 5,zq 51 (.bsl 7 1 1 [(.c (.bool false))]),zq 52 (.app 8 1 1 (.t 50) (.t 51)),zm 4 49,zm 5 52])) (.skip))) (.reg [zm 53 4,zm 54 9,zi 55 1 53 54,zl 56 1 55,zm 57 11,zi 58 1 56 57,zl 59 1 58,zm 9 59])))) (.reg [za 60 25 1,zm 25 60]))))))
def OY:C:=.loop (rest 67 [4,5,6,17,18,19]) [4,5,7] (.mvt 4 2 (.mvt 5 3 (.seq (.reg [zb 20 .lss 19 18]) (.seq (.cond (.t 20) (.skip) (.exit 0)) (.seq (.blk 1 (.seq (.reg [zi 21 1 17 19,zl 22 1 21,zm 8 22]) (.seq (.reg [zk 9 0]) (.seq (.seq (.reg [zm 23 8,zn 24 23,zk 25 0]) (.blk 2 (Ox))) (.reg [zm 61 5,zm 62 9,zi 63 1 61 62,zr (.sto 1 (.t 63) (.c (.bool true)))]))))) (.reg [za 64 19 1,zm 19 64]))))))
def L0:C:=.seq (.reg [zq 2 (.box 0 1 (.t 0)),zq 4 (.mov (.c .nils)),zq 5 (.mov (.c .nils))]) (.seq (.frzt 2 (.reg [zq 12 (.mkf Bj [.t 2]),zm 6 12])) (.seq (.reg [zm 13 6,zq 14 (.calv (.t 13) [] [1]),zq 15 (.bsl 2 1 1 [.t 14]),zq 16 (.bsl 3 1 1 [(.c (.bool false))]),zm 4 15,zm 5 16]) (.seq (.seq (.reg [zm 17 1,zn 18 17,zk 19 0]) (.blk 0 (OY))) (.seq (.reg [zm 65 4,zm 66 5,zm 4 65,zm 5 66]) (.ret)))))
def Rt:List Nat:=[2,14,15,16,47,48,49,51,52]
def CJ:IF:=⟨2,67,9,L0,[(4,none),(5,none)],true,false,false⟩
def Kd:C:=.seq (.reg [zk 5 0]) (.seq (.seq (.reg [zm 6 0,zq 7 (.bin .lss (.t 6) (.c (.int .i64 0)))]) (.cond (.t 7) (.seq (.reg [zk 5 (-1)]) (.ret)) (.skip))) (.seq (.reg [zl 8 1 2,zm 9 0,zi 10 1 8 9,zl 11 1 10,zm 12 1,zi 13 1 11 12,zl 14 1 13,zm 5 14]) (.ret)))
def S9:List Nat:=[]
def C9:IF:=⟨3,15,0,Kd,[(5,none)],true,false,false⟩
def Ke:C:=.seq (.reg [zq 4 (.box 0 2 (.t 0)),zq 5 (.mov (.c .nils))]) (.seq (.reg [zf 6 1 1,zl 7 1 6,zq 8 (.iaa 2 1 (.t 4) (.c (.int .i64 0))),zl 9 1 8,zi 10 2 7 9,zf 11 0 10,zl 12 1 11,zq 13 (.call AR [.t 12] [1]),zq 14 (.mkf B8 [.t 2,.t 4,.t 3]),zq 15 (.call Bb [.t 13,.t 14] []),zm 5 15]) (.ret))
def Tz:List Nat:=[4,13]
def Dk:IF:=⟨4,16,2,Ke,[(5,none)],true,false,false⟩
def ES:C:=.loop (rest 42 [0,1,5,6]) [] (.seq (.seq (.reg [zm 16 6,zm 17 0,zn 18 17,zb 19 .lss 16 18]) (.cond (.t 19) (.skip) (.exit 0))) (.seq (.blk 1 (.seq (.reg [zm 22 0,zm 23 6,zi 24 1 22 23,zl 25 1 24,zm 7 25]) (.seq (.reg [zm 26 1,zm 27 7,zq 28 (.calv (.t 26) [.t 27] []),zq 29 (.un .not (.t 28))]) (.cond (.t 29) (.seq (.reg [zm 30 0,zm 31 5,zm 32 7,zi 33 1 30 31,zs 1 33 32]) (.reg [zm 34 5,za 35 34 1,zm 5 35])) (.skip))))) (.reg [zm 20 6,za 21 20 1,zm 6 21])))
def B7:C:=.seq (.reg [zq 4 (.mov (.c .nils))]) (.seq (.reg [zm 8 0,zm 9 1,zq 10 (.call Ah [.t 8,.t 9] []),zm 5 10]) (.seq (.seq (.reg [zm 11 5,zq 12 (.bin .eql (.t 11) (.c (.int .i64 (-1))))]) (.cond (.t 12) (.seq (.reg [zm 13 0,zm 4 13]) (.ret)) (.skip))) (.seq (.seq (.reg [zm 14 5,za 15 14 1,zm 6 15]) (.blk 0 (ES))) (.seq (.reg [zm 36 0,zm 37 5,zq 38 (.sli 1 (.t 36) (some (.t 37)) none none),zr (.clr (.int .i64 0) (.t 38))]) (.seq (.reg [zm 39 0,zm 40 5,zq 41 (.sli 1 (.t 39) none (some (.t 40)) none),zm 4 41]) (.ret))))))
def s_slices_DeleteFuncZitit:List Nat:=[]
def A8:IF:=⟨2,42,0,B7,[(4,none)],false,false,false⟩
def HZ:C:=.seq (.reg [zq 2 (.mov (.c .nils))]) (.seq (.seq (.reg [zm 3 0,zq 4 (.nilc false (.t 3) (.c .nils))]) (.cond (.t 4) (.seq (.reg [zq 2 (.mov (.c .nils))]) (.ret)) (.skip))) (.seq (.reg [zq 5 (.bsl 0 1 0 []),zm 6 0,zq 7 (.app 1 1 8 (.t 5) (.t 6)),zm 2 7]) (.ret)))
def Mj:List Nat:=[5,7]
def Bq:IF:=⟨1,8,2,HZ,[(2,none)],true,true,true⟩
def JW:C:=.reg [zm 6 10]
def J3:C:=.blk 1 (.seq (.reg [zl 11 1 1,zq 12 (.iaa 2 1 (.t 2) (.c (.int .i64 1))),zl 13 1 12,zm 14 6,zq 15 (.calv (.t 11) [.t 13,.t 14] []),zm 7 15]) (.seq (.reg [zm 16 7,zq 17 (.bin .geq (.t 16) (.c (.int .i64 0))),zm 18 17,zlg 19 1 3 18 true,zmg 20 7 18 true,zg 21 (.iad 1 (.t 19) (.t 20)) 18 true,zlg 22 1 21 18 true,zu 23 18 22]) (.cond (.t 23) (.seq (.reg [zr (.sto 1 (.t 5) (.c (.bool true)))]) (.ret)) (.skip))))
def Lf:C:=.seq (.reg [zq 5 (.alc 0 1 (.bool false))]) (.seq (.seq (.reg [zm 8 0,zq 9 (.call FP [.t 8] [])]) (.blk 0 (.rngf (.t 9) [10] (rest 24 [1,2,3,5]) [] JW J3))) (.seq (.reg [zr (.sto 1 (.t 5) (.c (.bool false)))]) (.ret)))
def PG:List Nat:=[5]
def Cl:IF:=⟨4,24,1,Lf,[(5,some (false,1))],true,false,false⟩
def Yo:C:=.seq (.reg [zq 1 (.box 0 1 (.t 0)),zq 2 (.mov (.c .nilf))]) (.seq (.reg [zq 3 (.mkf FG [.t 1]),zm 2 3]) (.ret))
def Ae7:List Nat:=[1]
def Lr:IF:=⟨1,4,1,Yo,[(2,none)],true,false,false⟩
def MW:C:=.seq (.reg [zq 4 (.box 0 2 (.t 0)),zq 6 (.alc 1 2 (.agg [(.int .i64 0),(.int .i64 0)]))]) (.seq (.drw [zf 7 1 2,zl 8 1 7,zq 9 (.iaa 2 1 (.t 4) (.c (.int .i64 0))),zl 10 1 9,zi 11 2 8 10,zf 12 1 11,zl 13 1 12,zm 14 1,zi 15 1 13 14,zl 16 1 15,zl 17 1 3,zq 18 (.iaa 2 1 (.t 4) (.c (.int .i64 1))),zl 19 1 18,zm 20 1,zq 21 (.calv (.t 17) [.t 19,.t 20] []),zq 22 (.bld [(.int .i64 0),(.int .i64 0)] [(0,1,(.t 16)),(1,1,(.t 21))]),zs 2 6 22] [(0,14),(1,14),(2,14),(3,14),(4,14),(5,14),(6,14),(8,14),(9,14)]) (.ret))
def Su:List Nat:=[4,6]
def Di:IF:=⟨4,23,2,MW,[(6,some (true,2))],true,false,false⟩
def HX:C:=.loop (rest 102 [1,3,6,7,8,9,10,11,12,13,47,48,49]) [] (.seq (.reg [zb 50 .lss 49 48]) (.seq (.cond (.t 50) (.skip) (.exit 2)) (.seq (.blk 3 (.seq (.reg [zi 51 1 47 49,zl 52 1 51,zm 15 52]) (.reg [zm 53 13,zm 54 15,zb 55 .or 53 54,zm 13 55]))) (.reg [za 56 49 1,zm 49 56]))))
def BL:C:=.reg [zm 16 59]
def BK:C:=.blk 5 (.seq (.drw [zf 60 1 3,zl 61 1 60,zl 62 1 9,zl 63 1 11,zi 64 2 62 63,zL 65 2 64,zm 66 16,zq 67 (.calv (.t 61) [.t 65,.t 66] []),zq 17 (.alc 13 2 (.agg [(.int .i64 0),(.int .i64 0)])),zs 2 17 67] [(0,8),(1,8),(2,8),(3,8),(4,8),(5,8),(7,8)]) (.seq (.reg [zl 69 1 8,zL 70 2 17,zq 71 (.lok (true,[1,1]) (.int .i64 0) true (.t 69) (.t 70)),zm 68 71,zq 72 (.ext (.t 68) 0),zq 73 (.ext (.t 68) 1),zm 18 72,zm 19 73]) (.seq (.seq (.reg [zm 74 19,zq 75 (.un .not (.t 74))]) (.cond (.t 75) (.seq (.seq (.reg [zl 76 1 9,zn 77 76,zq 78 (.bin .eql (.t 77) (.c (.int .i64 500)))]) (.cond (.t 78) (.seq (.reg [zq 79 (.bld [.nils,.nils] []),zs 2 6 79,zr (.sto 1 (.t 7) (.c (.bool false)))]) (.ret)) (.skip))) (.seq (.reg [zl 80 1 9,zn 81 80,zm 18 81]) (.seq (.reg [zl 82 1 8,zL 83 2 17,zm 84 18,zr (.mup (true,[1,1]) (.t 82) (.t 83) (.t 84))]) (.reg [zl 85 1 9,zL 86 2 17,zq 87 (.bsl 14 2 1 [.t 86]),zq 88 (.app 15 2 16 (.t 85) (.t 87)),zs 1 9 88])))) (.skip))) (.reg [zf 89 1 12,zl 90 1 89,zm 91 16,zm 92 18,zi 93 1 90 91,zs 1 93 92]))))
def H2:C:=.loop (rest 102 [1,3,6,7,8,9,10,11]) [10,11,12,13,14,15,16,17] (.seq (.seq (.reg [zl 28 1 11,zl 29 1 9,zn 30 29,zb 31 .lss 28 30]) (.cond (.t 31) (.skip) (.exit 0))) (.seq (.blk 1 (.seq (.drw [zf 34 0 3,zl 35 1 34,zl 36 1 9,zl 37 1 11,zi 38 2 36 37,zL 39 2 38,zq 40 (.calv (.t 35) [.t 39] []),zq 41 (.bsl 10 1 1 [(.c (.int .i64 (-1)))]),zm 42 1,zn 43 42,zq 44 (.call Aw [.t 41,.t 43] [11]),zq 45 (.bld [.nils,.nils] [(0,1,(.t 40)),(1,1,(.t 44))]),zq 12 (.alc 12 2 (.agg [.nils,.nils])),zs 2 12 45] [(0,7),(1,7),(2,7),(3,7),(4,7),(5,7),(6,7),(6,9),(7,9),(0,12),(1,12),(2,12),(3,12),(4,12),(5,12),(6,12),(7,12),(9,12),(10,12),(11,12)]) (.seq (.reg [zk 13 0]) (.seq (.seq (.reg [zf 46 0 12,zl 47 1 46,zn 48 47,zk 49 0]) (.blk 2 (HX))) (.seq (.seq (.reg [zm 57 13,zq 58 (.call FP [.t 57] [])]) (.blk 4 (.rngf (.t 58) [59] (rest 102 [1,3,6,7,8,9,10,11,12]) [13,14,15] BL BK))) (.reg [zf 94 1 10,zl 95 1 94,zL 96 2 12,zq 97 (.bsl 16 2 1 [.t 96]),zq 98 (.app 17 2 48 (.t 95) (.t 97)),zf 99 1 10,zs 1 99 98])))))) (.seq (.seq (.reg [zl 100 1 11]) (.frzt 11 (.reg [zq 11 (.alc 9 1 (.int .i64 0)),zs 1 11 100]))) (.reg [zl 32 1 11,za 33 32 1,zs 1 11 33]))))
def DB:C:=.seq (.reg [zq 3 (.box 0 2 (.t 0)),zq 5 (.box 1 2 (.t 2)),zq 6 (.alc 2 2 (.agg [.nils,.nils])),zq 7 (.alc 3 1 (.bool false))]) (.seq (.reg [zq 20 (.mkm 4),zL 21 2 5,zr (.mup (true,[1,1]) (.t 20) (.t 21) (.c (.int .i64 0))),zm 22 20,zq 8 (.alc 5 1 .nilm),zs 1 8 22]) (.seq (.reg [zL 23 2 5,zq 24 (.bsl 6 2 1 [.t 23]),zq 9 (.alc 7 1 .nils),zs 1 9 24]) (.seq (.reg [zm 25 1,zq 26 (.call AC [.t 25] []),zq 27 (.bld [.nils,.nils] [(0,1,(.t 26))]),zq 10 (.alc 8 2 (.agg [.nils,.nils])),zs 2 10 27]) (.seq (.seq (.reg [zq 11 (.alc 9 1 (.int .i64 0)),zr (.sto 1 (.t 11) (.c (.int .i64 0)))]) (.blk 0 (H2))) (.seq (.reg [zL 101 2 10,zs 2 6 101,zr (.sto 1 (.t 7) (.c (.bool true)))]) (.ret))))))
def JM:List Nat:=[3,5,6,7,20,8,24,9,10,11,41,44,12,17,87,88,97,98,11]
def AH:IF:=⟨3,102,19,DB,[(6,some (true,2)),(7,some (false,1))],true,false,false⟩
def Cn:C:=.seq (.reg [zm 7 26]) (.reg [zm 8 27])
def B4:C:=.blk 1 (.seq (.reg [zl 28 1 6,zm 29 7,zl 30 1 5,zn 31 30,zi 32 1 28 29,zs 1 32 31]) (.seq (.reg [zl 33 1 5,zm 34 7,zq 35 (.bsl 6 1 1 [.t 34]),zq 36 (.app 7 1 8 (.t 33) (.t 35)),zs 1 5 36]) (.reg [zf 37 1 4,zl 38 1 37,zm 39 8,zq 40 (.bld [.nils,.nils] [(0,1,(.t 39))]),zq 41 (.bsl 8 2 1 [.t 40]),zq 42 (.app 9 2 48 (.t 38) (.t 41)),zf 43 1 4,zs 1 43 42])))
def NW:C:=.loop (rest 104 [1,2,3,4,5,6,9,10,11,50,51,52,62,63,64]) [] (.seq (.reg [zb 65 .lss 64 63]) (.seq (.cond (.t 65) (.skip) (.exit 4)) (.seq (.blk 5 (.seq (.reg [zi 66 1 62 64,zl 67 1 66,zm 13 67]) (.reg [zm 68 11,zm 69 13,zb 70 .or 68 69,zm 11 70]))) (.reg [za 71 64 1,zm 64 71]))))
def JV:C:=.reg [zm 15 79]
def J5:C:=.blk 7 (.drw [zl 80 1 14,zm 81 15,zl 82 1 6,zf 83 1 1,zl 84 1 83,zl 85 1 10,zi 86 2 84 85,zf 87 1 86,zl 88 1 87,zm 89 15,zi 90 1 88 89,zl 91 1 90,zi 92 1 82 91,zl 93 1 92,zi 94 1 80 81,zs 1 94 93] [])
def NS:C:=.loop (rest 104 [1,2,3,4,5,6,50,51,52]) [10,11,12,13] (.seq (.reg [zb 53 .lss 52 51]) (.seq (.cond (.t 53) (.skip) (.exit 2)) (.seq (.blk 3 (.seq (.reg [zm 54 52,zi 55 1 50 52,zl 56 1 55,zq 10 (.alc 10 1 (.int .i64 0)),zm 9 54,zs 1 10 56]) (.seq (.reg [zk 11 0]) (.seq (.seq (.reg [zf 57 1 4,zl 58 1 57,zm 59 9,zi 60 2 58 59,zf 61 0 60,zl 62 1 61,zn 63 62,zk 64 0]) (.blk 4 (NW))) (.seq (.reg [zq 72 (.bsl 11 1 1 [(.c (.int .i64 (-1)))]),zf 73 0 1,zl 74 1 73,zn 75 74,zq 76 (.call Aw [.t 72,.t 75] [12]),zq 14 (.alc 13 1 .nils),zs 1 14 76]) (.seq (.seq (.reg [zm 77 11,zq 78 (.call FP [.t 77] [])]) (.blk 6 (.rngf (.t 78) [79] (rest 104 [1,2,3,4,5,6,9,10,14,50,51,52]) [] JV J5))) (.reg [zf 95 1 4,zl 96 1 95,zm 97 9,zl 98 1 14,zi 99 2 96 97,zf 100 1 99,zs 1 100 98]))))))) (.reg [za 101 52 1,zm 52 101]))))
def H5:C:=.seq (.reg [zq 1 (.box 0 2 (.t 0)),zq 2 (.alc 1 2 (.agg [.nils,.nils])),zq 3 (.mov (.c .nils))]) (.seq (.reg [zf 16 0 1,zl 17 1 16,zq 18 (.call AC [.t 17] []),zq 19 (.bld [.nils,.nils] [(0,1,(.t 18))]),zq 4 (.alc 2 2 (.agg [.nils,.nils])),zs 2 4 19]) (.seq (.reg [zq 5 (.alc 3 1 .nils)]) (.seq (.reg [zf 20 1 1,zl 21 1 20,zn 22 21,zq 23 (.mks 4 1 8 (.int .i64 0) (.t 22) (.t 22)),zq 6 (.alc 5 1 .nils),zs 1 6 23]) (.seq (.seq (.reg [zL 24 2 1,zq 25 (.call D6 [.t 24] [])]) (.blk 0 (.rngf (.t 25) [26,27] (rest 104 [1,2,3,4,5,6]) [6,7,8,9] Cn B4))) (.seq (.seq (.reg [zl 44 1 5,zn 45 44,zq 46 (.bin .eql (.t 45) (.c (.int .i64 0)))]) (.cond (.t 46) (.seq (.reg [zf 47 0 1,zl 48 1 47,zq 49 (.call BE [.t 48] []),zs 2 2 49,zq 3 (.mov (.c .nils))]) (.ret)) (.skip))) (.seq (.seq (.reg [zl 50 1 5,zn 51 50,zk 52 0]) (.blk 2 (NS))) (.seq (.drw [zL 102 2 4,zl 103 1 5,zs 2 2 102,zm 3 103] [(1,2)]) (.ret))))))))
def QI:List Nat:=[1,2,4,5,23,6,35,36,41,42,10,72,76,14]
def Cd:IF:=⟨1,104,14,H5,[(2,some (true,2)),(3,none)],true,false,false⟩
def Ok:C:=.seq (.reg [zq 1 (.box 0 2 (.t 0)),zo 2 false]) (.seq (.reg [zL 6 2 1,zq 7 (.call C5 [.t 6] []),zm 5 7,zq 8 (.ext (.t 5) 0),zq 9 (.ext (.t 5) 1),zq 3 (.alc 1 2 (.agg [.nils,.nils])),zs 2 3 8,zm 4 9]) (.seq (.reg [zL 10 2 1,zL 11 2 3,zq 12 (.call Hu [.t 10,.t 11] []),zm 2 12]) (.ret)))
def VR:List Nat:=[1,3]
def Eh:IF:=⟨1,13,2,Ok,[(2,none)],true,false,false⟩
def QH:C:=.seq (.reg [zq 2 (.box 0 2 (.t 0)),zq 3 (.box 1 2 (.t 1)),zo 4 false]) (.seq (.reg [zL 5 2 2,zL 6 2 3,zq 7 (.call Cu [.t 5,.t 6] []),zm 8 7,zg 9 (.ld true 2 (.t 3)) 8 true,zg 10 (.ld true 2 (.t 2)) 8 true,zg 11 (.call Cu [.t 9,.t 10] []) 8 true,zu 12 8 11,zm 4 12]) (.ret))
def Wo:List Nat:=[2,3]
def Fi:IF:=⟨2,13,2,QH,[(4,none)],true,false,false⟩
def Ry:C:=.loop (rest 35 [1,3,4,13,14,15]) [2] (.seq (.reg [zb 16 .lss 15 14]) (.seq (.cond (.t 16) (.skip) (.exit 2)) (.seq (.blk 3 (.seq (.reg [zm 17 15,zi 18 2 13 15,zL 19 2 18,zq 6 (.alc 2 2 (.agg [.nils,.nils])),zm 5 17,zs 2 6 19]) (.seq (.reg [zm 20 3,zm 21 5,zi 22 1 20 21,zl 23 1 22,zq 24 (.un .not (.t 23)),zm 25 24,zg 26 (.ld true 2 (.t 6)) 25 true,zmg 27 3 25 true,zg 28 (.call C6 [.t 26,.t 27] []) 25 true,zu 29 25 28]) (.cond (.t 29) (.reg [zm 30 3,zm 31 5,zi 32 1 30 31,zr (.sto 1 (.t 32) (.c (.bool true))),zo 4 true]) (.skip))))) (.reg [za 33 15 1,zm 15 33]))))
def Rh:C:=.loop (rest 35 [1,3,4]) [2] (.seq (.seq (.reg [zm 11 4]) (.cond (.t 11) (.skip) (.exit 0))) (.blk 1 (.seq (.reg [zo 4 false]) (.seq (.reg [zf 12 1 1,zl 13 1 12,zn 14 13,zk 15 0]) (.blk 2 (Ry))))))
def N9:C:=.seq (.reg [zq 1 (.box 0 2 (.t 0)),zq 2 (.mov (.c .nils))]) (.seq (.reg [zf 7 1 1,zl 8 1 7,zn 9 8,zq 10 (.mks 1 1 1 (.bool false) (.t 9) (.t 9)),zm 3 10]) (.seq (.seq (.reg [zo 4 true]) (.blk 0 (Rh))) (.seq (.reg [zm 34 3,zm 2 34]) (.ret))))
def VW:List Nat:=[1,10,6]
def Ea:IF:=⟨1,35,3,N9,[(2,none)],true,false,false⟩
def TP:C:=.loop (rest 84 [2,3,4,5,6,7,8,20,21,22,29,30,31]) [6,7] (.seq (.reg [zb 32 .lss 31 30]) (.seq (.cond (.t 32) (.skip) (.exit 2)) (.seq (.blk 3 (.seq (.reg [zi 33 1 29 31,zl 34 1 33,zm 10 34]) (.seq (.reg [zm 35 3,zm 36 5,zi 37 1 35 36,zl 38 1 37,zq 39 (.un .not (.t 38)),zm 40 39,zg 41 (.ld true 2 (.t 6)) 40 true,zmg 42 10 40 true,zmg 43 3 40 true,zg 44 (.call DM [.t 41,.t 42,.t 43] []) 40 true,zg 45 (.un .not (.t 44)) 40 true,zu 46 40 45]) (.cond (.t 46) (.seq (.reg [zf 47 0 7,zl 48 1 47,zm 49 10,zq 50 (.bsl 6 1 1 [.t 49]),zq 51 (.app 7 1 8 (.t 48) (.t 50)),zf 52 0 7,zs 1 52 51]) (.reg [zm 53 8,zm 54 10,zb 55 .or 53 54,zm 8 55])) (.skip))))) (.reg [za 56 31 1,zm 31 56]))))
def SN:C:=.loop (rest 84 [2,3,4,7,8,20,21,22,58,59,60]) [8,9] (.seq (.reg [zb 61 .lss 60 59]) (.seq (.cond (.t 61) (.skip) (.exit 4)) (.seq (.blk 5 (.seq (.reg [zm 62 60,zi 63 1 58 60,zl 64 1 63,zm 11 62,zm 12 64]) (.seq (.seq (.reg [zm 65 8,zm 66 11,zq 67 (.call FS [.t 65,.t 66] []),zq 68 (.un .not (.t 67))]) (.cond (.t 68) (.reg [zk 12 (-1)]) (.skip))) (.reg [zf 69 1 7,zl 70 1 69,zm 71 12,zq 72 (.bsl 8 1 1 [.t 71]),zq 73 (.app 9 1 8 (.t 70) (.t 72)),zf 74 1 7,zs 1 74 73])))) (.reg [za 75 60 1,zm 60 75]))))
def Tv:C:=.loop (rest 84 [2,3,4,20,21,22]) [4,5,6,7,8,9,10,11] (.seq (.reg [zb 23 .lss 22 21]) (.seq (.cond (.t 23) (.skip) (.exit 0)) (.seq (.blk 1 (.seq (.reg [zm 24 22,zi 25 2 20 22,zL 26 2 25,zq 6 (.alc 4 2 (.agg [.nils,.nils])),zm 5 24,zs 2 6 26]) (.seq (.reg [zq 27 (.bld [.nils,.nils] []),zq 7 (.alc 5 2 (.agg [.nils,.nils])),zs 2 7 27,zk 8 0]) (.seq (.seq (.reg [zf 28 0 6,zl 29 1 28,zn 30 29,zk 31 0]) (.blk 2 (TP))) (.seq (.seq (.reg [zf 57 1 6,zl 58 1 57,zn 59 58,zk 60 0]) (.blk 4 (SN))) (.reg [zf 76 1 4,zl 77 1 76,zL 78 2 7,zq 79 (.bsl 10 2 1 [.t 78]),zq 80 (.app 11 2 48 (.t 77) (.t 79)),zf 81 1 4,zs 1 81 80])))))) (.reg [za 82 22 1,zm 22 82]))))
def PZ:C:=.seq (.reg [zq 1 (.box 0 2 (.t 0)),zq 2 (.alc 1 2 (.agg [.nils,.nils]))]) (.seq (.reg [zL 13 2 1,zq 14 (.call CR [.t 13] []),zm 3 14]) (.seq (.reg [zf 15 0 1,zl 16 1 15,zq 17 (.app 2 1 16 (.c .nils) (.t 16)),zq 18 (.bld [.nils,.nils] [(0,1,(.t 17))]),zq 4 (.alc 3 2 (.agg [.nils,.nils])),zs 2 4 18]) (.seq (.seq (.reg [zf 19 1 1,zl 20 1 19,zn 21 20,zk 22 0]) (.blk 0 (Tv))) (.seq (.reg [zL 83 2 4,zs 2 2 83]) (.ret)))))
def XU:List Nat:=[1,2,17,4,6,7,50,51,72,73,79,80]
def Fm:IF:=⟨1,84,12,PZ,[(2,some (true,2))],true,false,false⟩
def TE:C:=.loop (rest 53 [1,3,4,5,29,30,31]) [3] (.seq (.reg [zb 32 .lss 31 30]) (.seq (.cond (.t 32) (.skip) (.exit 2)) (.seq (.blk 3 (.seq (.reg [zi 33 1 29 31,zl 34 1 33,zm 7 34]) (.seq (.reg [zm 35 7,zq 36 (.bin .geq (.t 35) (.c (.int .i64 0))),zm 37 36,zmg 38 3 37 true,zmg 39 7 37 true,zg 40 (.iad 1 (.t 38) (.t 39)) 37 true,zlg 41 1 40 37 true,zg 42 (.un .not (.t 41)) 37 true,zu 43 37 42]) (.cond (.t 43) (.seq (.reg [zm 44 3,zm 45 7,zi 46 1 44 45,zr (.sto 1 (.t 46) (.c (.bool true)))]) (.reg [zm 47 4,zm 48 7,zq 49 (.bsl 3 1 1 [.t 48]),zq 50 (.app 4 1 8 (.t 47) (.t 49)),zm 4 50])) (.skip))))) (.reg [za 51 31 1,zm 31 51]))))
def Sp:C:=.loop (rest 53 [1,3,4,5]) [3] (.mvt 4 4 (.seq (.seq (.reg [zm 15 5,zm 16 4,zn 17 16,zb 18 .lss 15 17]) (.cond (.t 18) (.skip) (.exit 0))) (.seq (.blk 1 (.seq (.drw [zf 21 1 1,zl 22 1 21,zm 23 4,zm 24 5,zi 25 1 23 24,zl 26 1 25,zi 27 2 22 26,zf 28 1 27,zl 29 1 28,zn 30 29,zk 31 0] []) (.blk 2 (TE)))) (.reg [zm 19 5,za 20 19 1,zm 5 20]))))
def QD:C:=.seq (.reg [zq 1 (.box 0 2 (.t 0)),zq 2 (.mov (.c .nils))]) (.seq (.reg [zf 8 1 1,zl 9 1 8,zn 10 9,zq 11 (.mks 1 1 1 (.bool false) (.t 10) (.t 10)),zm 3 11]) (.seq (.reg [zm 12 3,zq 13 (.iad 1 (.t 12) (.c (.int .i64 0))),zr (.sto 1 (.t 13) (.c (.bool true)))]) (.seq (.reg [zq 14 (.bsl 2 1 1 [(.c (.int .i64 0))]),zm 4 14]) (.seq (.seq (.reg [zk 5 0]) (.blk 0 (Sp))) (.seq (.reg [zm 52 4,zm 2 52]) (.ret))))))
def WU:List Nat:=[1,11,14,49,50]
def Ff:IF:=⟨1,53,5,QD,[(2,none)],true,false,false⟩
def Ew:C:=.loop (rest 26 [0,1,12,13]) [] (.seq (.reg [zb 14 .lss 13 12]) (.seq (.cond (.t 14) (.skip) (.exit 0)) (.seq (.blk 1 (.seq (.reg [zm 15 13,zm 5 15]) (.seq (.drw [zm 16 0,zm 17 5,zi 18 1 16 17,zl 19 1 18,zm 20 1,zm 21 5,zi 22 1 20 21,zl 23 1 22,zb 24 .neq 19 23] []) (.cond (.t 24) (.seq (.reg [zo 4 false]) (.ret)) (.skip))))) (.reg [za 25 13 1,zm 13 25]))))
def Ml:C:=.seq (.reg [zo 4 false]) (.seq (.seq (.reg [zm 6 0,zn 7 6,zm 8 1,zn 9 8,zb 10 .neq 7 9]) (.cond (.t 10) (.seq (.reg [zo 4 false]) (.ret)) (.skip))) (.seq (.seq (.reg [zm 11 0,zn 12 11,zk 13 0]) (.blk 0 (Ew))) (.seq (.reg [zo 4 true]) (.ret))))
def Ma:List Nat:=[]
def Bl:IF:=⟨2,26,0,Ml,[(4,none)],true,false,false⟩
def VA:C:=.seq (.reg [zq 3 (.box 0 2 (.t 0)),zq 4 (.mov (.c .nils))]) (.seq (.drw [zf 5 1 1,zl 6 1 5,zq 7 (.iaa 2 1 (.t 3) (.c (.int .i64 0))),zl 8 1 7,zi 9 2 6 8,zf 10 0 9,zl 11 1 10,zf 12 1 2,zl 13 1 12,zq 14 (.iaa 2 1 (.t 3) (.c (.int .i64 1))),zl 15 1 14,zi 16 2 13 15,zf 17 0 16,zl 18 1 17,zq 19 (.call Ks [.t 11,.t 18] []),zm 4 19] []) (.ret))
def Vu:List Nat:=[3]
def En:IF:=⟨3,20,1,VA,[(4,none)],true,false,false⟩
def TL:C:=.loop (rest 29 [1,5,10,11,12]) [0] (.seq (.reg [zb 13 .lss 12 11]) (.seq (.cond (.t 13) (.skip) (.exit 0)) (.seq (.blk 1 (.seq (.reg [zi 14 1 10 12,zl 15 1 14,zm 7 15]) (.seq (.reg [zm 17 1,zm 18 7,zq 19 (.call Bk [.t 17,.t 18] []),zm 16 19,zq 20 (.ext (.t 16) 0),zq 21 (.ext (.t 16) 1),zm 8 20,zm 9 21]) (.seq (.reg [zm 22 9]) (.cond (.t 22) (.reg [zm 23 5,zm 24 7,zq 25 (.bsl 0 1 1 [.t 24]),zq 26 (.app 1 1 8 (.t 23) (.t 25)),zm 5 26]) (.skip)))))) (.reg [za 27 12 1,zm 12 27]))))
def Xv:C:=.seq (.reg [zq 4 (.mov (.c .nils))]) (.seq (.reg [zq 5 (.mov (.c .nils))]) (.seq (.seq (.reg [zm 10 0,zn 11 10,zk 12 0]) (.blk 0 (TL))) (.seq (.reg [zm 28 5,zm 4 28]) (.ret))))
def XI:List Nat:=[25,26]
def E3:IF:=⟨2,29,2,Xv,[(4,none)],true,false,false⟩
def UQ:C:=.seq (.reg [zq 4 (.box 0 2 (.t 0)),zq 6 (.alc 1 2 (.agg [(.int .i64 0),(.int .i64 0)]))]) (.seq (.drw [zf 7 1 2,zl 8 1 7,zq 9 (.iaa 2 1 (.t 4) (.c (.int .i64 0))),zl 10 1 9,zi 11 2 8 10,zf 12 1 11,zl 13 1 12,zm 14 1,zi 15 1 13 14,zl 16 1 15,zf 17 1 3,zl 18 1 17,zq 19 (.iaa 2 1 (.t 4) (.c (.int .i64 1))),zl 20 1 19,zi 21 2 18 20,zf 22 1 21,zl 23 1 22,zm 24 1,zi 25 1 23 24,zl 26 1 25,zq 27 (.bld [(.int .i64 0),(.int .i64 0)] [(0,1,(.t 16)),(1,1,(.t 26))]),zs 2 6 27] []) (.ret))
def UO:List Nat:=[4,6]
def D5:IF:=⟨4,28,2,UQ,[(6,some (true,2))],true,false,false⟩
def Qy:C:=.seq (.reg [zq 2 (.box 0 2 (.t 0)),zq 4 (.mov (.c .nils))]) (.seq (.seq (.reg [zm 5 1,zq 6 (.bin .lss (.t 5) (.c (.int .i64 0)))]) (.cond (.t 6) (.seq (.reg [zq 4 (.mov (.c .nils))]) (.ret)) (.skip))) (.seq (.reg [zf 7 1 2,zl 8 1 7,zm 9 1,zi 10 2 8 9,zf 11 0 10,zl 12 1 11,zm 4 12]) (.ret)))
def Qb:List Nat:=[2]
def B6:IF:=⟨2,13,1,Qy,[(4,none)],true,false,false⟩
def Ps:C:=.seq (.reg [zq 3 (.box 0 2 (.t 0)),zk 6 0]) (.seq (.seq (.reg [zm 7 1,zq 8 (.bin .lss (.t 7) (.c (.int .i64 0)))]) (.cond (.t 8) (.seq (.reg [zk 6 (-1)]) (.ret)) (.skip))) (.seq (.reg [zf 9 1 3,zl 10 1 9,zm 11 1,zi 12 2 10 11,zf 13 1 12,zl 14 1 13,zm 15 2,zi 16 1 14 15,zl 17 1 16,zm 6 17]) (.ret)))
def PM:List Nat:=[3]
def Ci:IF:=⟨3,18,1,Ps,[(6,none)],true,false,false⟩
def P7:C:=.seq (.reg [zq 4 (.box 0 2 (.t 0)),zq 5 (.mov (.c .nils))]) (.seq (.drw [zl 6 1 1,zL 7 2 2,zq 8 (.iaa 2 1 (.t 4) (.c (.int .i64 0))),zl 9 1 8,zq 10 (.calv (.t 6) [.t 7,.t 9] []),zl 11 1 1,zL 12 2 3,zq 13 (.iaa 2 1 (.t 4) (.c (.int .i64 1))),zl 14 1 13,zq 15 (.calv (.t 11) [.t 12,.t 14] []),zq 16 (.call Hd [.t 10,.t 15] []),zm 5 16] [(4,5),(4,6),(4,7),(4,8)]) (.ret))
def PL:List Nat:=[4]
def Ce:IF:=⟨4,17,1,P7,[(5,none)],true,false,false⟩
def TM:C:=.seq (.reg [zq 4 (.mov (.c .nils))]) (.seq (.reg [zm 6 0,zq 7 (.call AR [.t 6] [0]),zm 8 1,zq 9 (.app 1 1 8 (.t 7) (.t 8)),zm 5 9]) (.seq (.reg [zm 10 5,zq 11 (.call EI [.t 10] [])]) (.seq (.reg [zm 12 5,zq 13 (.call C2 [.t 12] []),zm 4 13]) (.ret))))
def Tn:List Nat:=[7,9]
def Do:IF:=⟨2,14,2,TM,[(4,none)],true,false,false⟩
def Qq:C:=.seq (.reg [zq 5 (.box 0 2 (.t 0)),zq 7 (.alc 1 2 (.agg [(.int .i64 0),(.int .i64 0)]))]) (.seq (.drw [zl 8 1 2,zL 9 2 3,zq 10 (.iaa 2 1 (.t 5) (.c (.int .i64 0))),zl 11 1 10,zm 12 1,zq 13 (.calv (.t 8) [.t 9,.t 11,.t 12] []),zl 14 1 2,zL 15 2 4,zq 16 (.iaa 2 1 (.t 5) (.c (.int .i64 1))),zl 17 1 16,zm 18 1,zq 19 (.calv (.t 14) [.t 15,.t 17,.t 18] []),zq 20 (.bld [(.int .i64 0),(.int .i64 0)] [(0,1,(.t 13)),(1,1,(.t 19))]),zs 2 7 20] [(5,6),(5,7),(5,8),(5,9)]) (.ret))
def PA:List Nat:=[5,7]
def B2:IF:=⟨5,21,2,Qq,[(7,some (true,2))],true,false,false⟩
def VO:C:=.loop (rest 47 [0,20,21]) [] (.seq (.reg [zb 22 .lss 21 20]) (.seq (.cond (.t 22) (.skip) (.exit 0)) (.seq (.blk 1 (.seq (.reg [zm 23 21,zm 3 23]) (.seq (.reg [zm 24 0,zm 25 3,zq 26 (.idx (.t 24) (.t 25)),zm 4 26]) (.seq (.reg [zm 27 4,zq 28 (.call CS [.t 27] []),zq 29 (.un .not (.t 28)),zm 30 29,zmg 31 4 30 true,zg 32 (.bin .lss (.t 31) (.c (.int .u8 48))) 30 true,zmg 33 32 30 true,zmg 34 4 33 false,zg 35 (.bin .gtr (.t 34) (.c (.int .u8 57))) 33 false,zg 36 (.pick (.t 33) (.c (.bool true)) (.t 35)) 30 true,zu 37 30 36,zm 38 37,zmg 39 4 38 true,zg 40 (.bin .neq (.t 39) (.c (.int .u8 45))) 38 true,zu 41 38 40,zm 42 41,zmg 43 4 42 true,zg 44 (.bin .neq (.t 43) (.c (.int .u8 95))) 42 true,zu 45 42 44]) (.cond (.t 45) (.seq (.reg [zo 2 false]) (.ret)) (.skip)))))) (.reg [za 46 21 1,zm 21 46]))))
def R8:C:=.seq (.reg [zo 2 false]) (.seq (.seq (.reg [zm 5 0,zq 6 (.lens (.t 5)),zq 7 (.bin .lss (.t 6) (.c (.int .i64 1))),zm 8 7,zmg 9 0 8 false,zg 10 (.lens (.t 9)) 8 false,zg 11 (.bin .gtr (.t 10) (.c (.int .i64 20))) 8 false,zy 12 8 11,zm 13 12,zmg 14 0 13 false,zg 15 (.idx (.t 14) (.c (.int .i64 0))) 13 false,zg 16 (.call CS [.t 15] []) 13 false,zg 17 (.un .not (.t 16)) 13 false,zy 18 13 17]) (.cond (.t 18) (.seq (.reg [zo 2 false]) (.ret)) (.skip))) (.seq (.seq (.reg [zm 19 0,zq 20 (.lens (.t 19)),zk 21 0]) (.blk 0 (VO))) (.seq (.reg [zo 2 true]) (.ret))))
def Aat:List Nat:=[]
def HJ:IF:=⟨1,47,0,R8,[(2,none)],true,false,false⟩
def T0:C:=.loop (rest 19 [1,7,8,9]) [] (.seq (.reg [zb 10 .lss 9 8]) (.seq (.cond (.t 10) (.skip) (.exit 0)) (.seq (.blk 1 (.seq (.reg [zm 11 9,zi 12 1 7 9,zl 13 1 12,zm 5 11,zm 6 13]) (.seq (.reg [zm 14 6,zm 15 1,zb 16 .eql 14 15]) (.cond (.t 16) (.seq (.reg [zm 17 5,zm 4 17]) (.ret)) (.skip))))) (.reg [za 18 9 1,zm 9 18]))))
def QM:C:=.seq (.reg [zk 4 0]) (.seq (.seq (.reg [zm 7 0,zn 8 7,zk 9 0]) (.blk 0 (T0))) (.seq (.reg [zk 4 (-1)]) (.ret)))
def Xe:List Nat:=[]
def FJ:IF:=⟨2,19,0,QM,[(4,none)],true,false,false⟩
def TN:C:=.loop (rest 26 [0,8,9,10]) [] (.seq (.reg [zb 11 .lss 10 9]) (.seq (.cond (.t 11) (.skip) (.exit 0)) (.seq (.blk 1 (.seq (.reg [zm 12 10,zi 13 1 8 10,zl 14 1 13,zm 3 12,zm 4 14]) (.seq (.reg [zm 15 4,zq 16 (.call HB [.t 15] []),zq 17 (.un .not (.t 16)),zm 18 17,zmg 19 0 18 false,zmg 20 3 18 false,zg 21 (.sli 1 (.t 19) none (some (.t 20)) none) 18 false,zmg 22 4 18 false,zg 23 (.call AY [.t 21,.t 22] []) 18 false,zy 24 18 23]) (.cond (.t 24) (.seq (.reg [zo 2 false]) (.ret)) (.skip))))) (.reg [za 25 10 1,zm 10 25]))))
def Qn:C:=.seq (.reg [zo 2 false]) (.seq (.seq (.reg [zm 5 0,zn 6 5,zq 7 (.bin .gtr (.t 6) (.c (.int .i64 8)))]) (.cond (.t 7) (.seq (.reg [zo 2 false]) (.ret)) (.skip))) (.seq (.seq (.reg [zm 8 0,zn 9 8,zk 10 0]) (.blk 0 (TN))) (.seq (.reg [zo 2 true]) (.ret))))
def XP:List Nat:=[]
def Fx:IF:=⟨1,26,0,Qn,[(2,none)],true,false,false⟩
def HP:C:=.seq (.reg [zq 2 (.mov (.c .nils))]) (.seq (.seq (.reg [zm 3 0,zq 4 (.nilc false (.t 3) (.c .nils))]) (.cond (.t 4) (.seq (.reg [zq 2 (.mov (.c .nils))]) (.ret)) (.skip))) (.seq (.reg [zq 5 (.bsl 0 1 0 []),zm 6 0,zq 7 (.app 1 1 16 (.t 5) (.t 6)),zm 2 7]) (.ret)))
def L9:List Nat:=[5,7]
def A7:IF:=⟨1,8,2,HP,[(2,none)],true,true,true⟩
def Hi:C:=.loop (rest 48 [7,8]) [] (.seq (.seq (.reg [zm 34 8,zm 35 7,zn 36 35,zb 37 .lss 34 36]) (.cond (.t 37) (.skip) (.exit 0))) (.blk 1 (.drw [zm 38 8,zm 39 7,zm 40 8,zq 41 (.sli 1 (.t 39) (some (.t 40)) none none),zm 42 7,zm 43 8,zq 44 (.sli 1 (.t 42) none (some (.t 43)) none),zq 45 (.cpy (.t 41) (.t 44)),zb 46 .add 38 45,zm 8 46] [])))
def LO:C:=.seq (.reg [zq 4 (.mov (.c .nils))]) (.seq (.seq (.reg [zm 9 1,zq 10 (.bin .lss (.t 9) (.c (.int .i64 0)))]) (.cond (.t 10) (.reg [zq 11 (.bad),zr (.bad)]) (.skip))) (.seq (.reg [zm 13 0,zn 14 13,zq 15 (.cvi .u64 (.t 14)),zm 16 1,zq 17 (.cvi .u64 (.t 16)),zq 18 (.call Ey [.t 15,.t 17] []),zm 12 18,zq 19 (.ext (.t 12) 0),zq 20 (.ext (.t 12) 1),zm 5 19,zm 6 20]) (.seq (.seq (.reg [zm 21 5,zq 22 (.bin .gtr (.t 21) (.c (.int .u64 0))),zm 23 22,zmg 24 6 23 false,zg 25 (.bin .gtr (.t 24) (.c (.int .u64 9223372036854775807))) 23 false,zy 26 23 25]) (.cond (.t 26) (.reg [zq 27 (.bad),zr (.bad)]) (.skip))) (.seq (.reg [zm 28 6,zq 29 (.cvi .i64 (.t 28)),zq 30 (.mks 0 1 8 (.int .i64 0) (.t 29) (.t 29)),zm 7 30]) (.seq (.reg [zm 31 7,zm 32 0,zq 33 (.cpy (.t 31) (.t 32)),zm 8 33]) (.seq (.blk 0 (Hi)) (.seq (.reg [zm 47 7,zm 4 47]) (.ret))))))))
def LE:List Nat:=[30]
def AK:IF:=⟨2,48,1,LO,[(4,none)],true,true,false⟩
def RJ:C:=.loop (rest 20 [0,3]) [] (.seq (.seq (.reg [zm 4 3,zm 5 0,zn 6 5,zb 7 .lss 4 6]) (.cond (.t 7) (.skip) (.exit 0))) (.seq (.blk 1 (.seq (.drw [zm 10 0,zm 11 3,zq 12 (.bin .sub (.t 11) (.c (.int .i64 1))),zi 13 1 10 12,zl 14 1 13,zm 15 0,zm 16 3,zi 17 1 15 16,zl 18 1 17,zb 19 .geq 14 18] []) (.cond (.t 19) (.seq (.reg [zo 2 false]) (.ret)) (.skip)))) (.reg [zm 8 3,za 9 8 1,zm 3 9])))
def Ol:C:=.seq (.reg [zo 2 false]) (.seq (.seq (.reg [zk 3 1]) (.blk 0 (RJ))) (.seq (.reg [zo 2 true]) (.ret)))
def Wb:List Nat:=[]
def Em:IF:=⟨1,20,0,Ol,[(2,none)],true,false,false⟩
def UF:C:=.seq (.reg [zo 4 false]) (.seq (.reg [zm 5 1,zq 6 (.bin .geq (.t 5) (.c (.int .i64 0))),zm 7 6,zmg 8 1 7 true,zmg 9 0 7 true,zg 10 (.bin .shl (.c (.int .i64 1)) (.t 9)) 7 true,zg 11 (.bin .lss (.t 8) (.t 10)) 7 true,zu 12 7 11,zm 4 12]) (.ret))
def Acu:List Nat:=[]
def JX:IF:=⟨2,13,0,UF,[(4,none)],true,false,false⟩
def VC:C:=.loop (rest 20 [1,5,7,8]) [0] (.seq (.reg [zb 9 .lss 8 7]) (.seq (.cond (.t 9) (.skip) (.exit 0)) (.seq (.blk 1 (.seq (.reg [zm 10 8,zm 6 10]) (.seq (.reg [zm 11 1,zm 12 6,zq 13 (.call FS [.t 11,.t 12] [])]) (.cond (.t 13) (.reg [zm 14 5,zm 15 6,zq 16 (.bsl 0 1 1 [.t 15]),zq 17 (.app 1 1 8 (.t 14) (.t 16)),zm 5 17]) (.skip))))) (.reg [za 18 8 1,zm 8 18]))))
def R4:C:=.seq (.reg [zq 4 (.mov (.c .nils))]) (.seq (.reg [zq 5 (.mov (.c .nils))]) (.seq (.seq (.reg [zm 7 0,zk 8 0]) (.blk 0 (VC))) (.seq (.reg [zm 19 5,zm 4 19]) (.ret))))
def Aa9:List Nat:=[16,17]
def Hw:IF:=⟨2,20,2,R4,[(4,none)],true,false,false⟩
def Re:C:=.loop (rest 40 [1,2,9,10,11]) [] (.seq (.reg [zb 12 .lss 11 10]) (.seq (.cond (.t 12) (.skip) (.exit 0)) (.seq (.blk 1 (.seq (.reg [zi 13 1 9 11,zl 14 1 13,zm 8 14]) (.seq (.reg [zm 15 8,zn 16 15,zm 17 1,zn 18 17,zb 19 .geq 16 18,zm 20 19,zmg 21 8 20 true,zmg 22 1 20 true,zg 23 (.lenl (.t 22)) 20 true,zg 24 (.sli 1 (.t 21) none (some (.t 23)) none) 20 true,zmg 25 1 20 true,zg 26 (.call A1 [.t 24,.t 25] []) 20 true,zu 27 20 26,zm 28 27,zmg 29 2 28 true,zg 30 (.un .not (.t 29)) 28 true,zmg 31 30 28 true,zmg 32 8 31 false,zg 33 (.lenl (.t 32)) 31 false,zmg 34 1 31 false,zg 35 (.lenl (.t 34)) 31 false,zg 36 (.bin .eql (.t 33) (.t 35)) 31 false,zg 37 (.pick (.t 31) (.c (.bool true)) (.t 36)) 28 true,zu 38 28 37]) (.cond (.t 38) (.seq (.reg [zo 6 true]) (.ret)) (.skip))))) (.reg [za 39 11 1,zm 11 39]))))
def Oq:C:=.seq (.reg [zo 6 false]) (.seq (.seq (.reg [zm 9 0,zn 10 9,zk 11 0]) (.blk 0 (Re))) (.seq (.reg [zo 6 false]) (.ret)))
def VD:List Nat:=[]
def D0:IF:=⟨3,40,0,Oq,[(6,none)],true,false,false⟩
def DU:C:=.loop (rest 19 [0,1,7,8]) [] (.seq (.reg [zb 9 .lss 8 7]) (.seq (.cond (.t 9) (.skip) (.exit 0)) (.seq (.blk 1 (.seq (.reg [zm 10 8,zm 5 10]) (.seq (.reg [zm 11 1,zm 12 0,zm 13 5,zi 14 1 12 13,zl 15 1 14,zq 16 (.calv (.t 11) [.t 15] [])]) (.cond (.t 16) (.seq (.reg [zm 17 5,zm 4 17]) (.ret)) (.skip))))) (.reg [za 18 8 1,zm 8 18]))))
def EO:C:=.seq (.reg [zk 4 0]) (.seq (.seq (.reg [zm 6 0,zn 7 6,zk 8 0]) (.blk 0 (DU))) (.seq (.reg [zk 4 (-1)]) (.ret)))
def Kp:List Nat:=[]
def AX:IF:=⟨2,19,0,EO,[(4,none)],true,false,false⟩
def CQ:C:=.seq (.reg [zo 4 false]) (.seq (.reg [zm 5 0,zm 6 1,zq 7 (.call Ah [.t 5,.t 6] []),zq 8 (.bin .geq (.t 7) (.c (.int .i64 0))),zm 4 8]) (.ret))
def Hc:List Nat:=[]
def Av:IF:=⟨2,9,0,CQ,[(4,none)],true,false,false⟩
def Ja:C:=.seq (.reg [zo 3 false]) (.seq (.reg [zm 4 0,zq 5 (.bin .lss (.t 4) (.c (.int .i64 0))),zm 6 5,zmg 7 0 6 false,zlg 8 1 1 6 false,zg 9 (.lenl (.t 8)) 6 false,zg 10 (.bin .geq (.t 7) (.t 9)) 6 false,zy 11 6 10,zm 3 11]) (.ret))
def PF:List Nat:=[]
def Cj:IF:=⟨2,12,0,Ja,[(3,none)],true,false,false⟩
def KD:C:=.seq (.reg [zq 1 (.mov (.c .nils))]) (.seq (.reg [zq 2 (.bsl 0 1 1 [(.c (.int .i64 (-1)))]),zl 3 1 0,zn 4 3,zq 5 (.call Aw [.t 2,.t 4] [1]),zm 1 5]) (.ret))
def ON:List Nat:=[2,5]
def BS:IF:=⟨1,6,2,KD,[(1,none)],true,true,false⟩
def E4:C:=.loop (rest 19 [0,1,7,8]) [] (.seq (.reg [zb 9 .lss 8 7]) (.seq (.cond (.t 9) (.skip) (.exit 0)) (.seq (.blk 1 (.seq (.reg [zm 10 8,zm 5 10]) (.seq (.reg [zm 11 1,zm 12 0,zm 13 5,zi 14 1 12 13,zl 15 1 14,zq 16 (.calv (.t 11) [.t 15] [])]) (.cond (.t 16) (.seq (.reg [zm 17 5,zm 4 17]) (.ret)) (.skip))))) (.reg [za 18 8 1,zm 8 18]))))
def Dy:C:=.seq (.reg [zk 4 0]) (.seq (.seq (.reg [zm 6 0,zn 7 6,zk 8 0]) (.blk 0 (E4))) (.seq (.reg [zk 4 (-1)]) (.ret)))
def JC:List Nat:=[]
def AG:IF:=⟨2,19,0,Dy,[(4,none)],true,false,false⟩
def UL:C:=.loop (rest 21 [0,1,3]) [] (.seq (.seq (.reg [zl 4 1 1,zm 5 3,zb 6 .shr 4 5,zq 7 (.bin .gtr (.t 6) (.c (.int .i64 0)))]) (.cond (.t 7) (.skip) (.exit 0))) (.seq (.blk 1 (.seq (.reg [zl 10 1 1,zm 11 3,zb 12 .shr 10 11,zq 13 (.bin .and (.t 12) (.c (.int .i64 1))),zq 14 (.bin .eql (.t 13) (.c (.int .i64 1))),zm 15 14,zmg 16 0 15 true,zmg 17 3 15 true,zg 18 (.calv (.t 16) [.t 17] []) 15 true,zg 19 (.un .not (.t 18)) 15 true,zu 20 15 19]) (.cond (.t 20) (.ret) (.skip)))) (.reg [zm 8 3,za 9 8 1,zm 3 9])))
def RV:C:=.seq (.reg [zk 3 0]) (.blk 0 (UL))
def AaD:List Nat:=[]
def J1:IF:=⟨2,21,0,RV,[],false,false,false⟩
def Om:C:=.seq (.reg [zq 1 (.box 0 2 (.t 0)),zq 2 (.mov (.c .nilf))]) (.seq (.reg [zq 3 (.mkf BD [.t 1]),zm 2 3]) (.ret))
def UR:List Nat:=[1]
def Ei:IF:=⟨1,4,1,Om,[(2,none)],true,false,false⟩
def M6:C:=.seq (.reg [zm 3 0,zn 4 3,zm 2 4]) (.reg [zm 5 0,zm 6 2,zm 7 2,zq 8 (.cvi .u64 (.t 7)),zq 9 (.call CY [.t 8] []),zq 10 (.call AN [.t 5,(.c (.int .i64 0)),.t 6,.t 9] [])])
def MK:List Nat:=[]
def BU:IF:=⟨1,11,0,M6,[],false,false,false⟩
def F1:C:=.loop (rest 61 [0,3,4,5]) [] (.seq (.seq (.reg [zm 29 5,zm 30 4,zn 31 30,zb 32 .lss 29 31]) (.cond (.t 32) (.skip) (.exit 2))) (.seq (.blk 3 (.seq (.drw [zm 35 4,zm 36 5,zi 37 1 35 36,zl 38 1 37,zm 39 4,zm 40 5,zq 41 (.bin .sub (.t 40) (.c (.int .i64 1))),zi 42 1 39 41,zl 43 1 42,zb 44 .neq 38 43] []) (.cond (.t 44) (.seq (.reg [zm 45 0,zm 46 3,zm 47 4,zm 48 5,zi 49 1 47 48,zl 50 1 49,zi 51 1 45 46,zs 1 51 50]) (.reg [zm 52 3,za 53 52 1,zm 3 53])) (.skip)))) (.reg [zm 33 5,za 34 33 1,zm 5 34])))
def F8:C:=.loop (rest 61 [0,3]) [] (.seq (.seq (.reg [zm 10 3,zm 11 0,zn 12 11,zb 13 .lss 10 12]) (.cond (.t 13) (.skip) (.exit 0))) (.seq (.blk 1 (.seq (.drw [zm 16 0,zm 17 3,zi 18 1 16 17,zl 19 1 18,zm 20 0,zm 21 3,zq 22 (.bin .sub (.t 21) (.c (.int .i64 1))),zi 23 1 20 22,zl 24 1 23,zb 25 .eql 19 24] []) (.cond (.t 25) (.seq (.reg [zm 26 0,zm 27 3,zq 28 (.sli 1 (.t 26) (some (.t 27)) none none),zm 4 28]) (.seq (.seq (.reg [zk 5 1]) (.blk 2 (F1))) (.seq (.reg [zm 54 0,zm 55 3,zq 56 (.sli 1 (.t 54) (some (.t 55)) none none),zr (.clr (.int .i64 0) (.t 56))]) (.seq (.reg [zm 57 0,zm 58 3,zq 59 (.sli 1 (.t 57) none (some (.t 58)) none),zm 2 59]) (.ret))))) (.skip)))) (.reg [zm 14 3,za 15 14 1,zm 3 15])))
def KZ:C:=.seq (.reg [zq 2 (.mov (.c .nils))]) (.seq (.seq (.reg [zm 6 0,zn 7 6,zq 8 (.bin .lss (.t 7) (.c (.int .i64 2)))]) (.cond (.t 8) (.seq (.reg [zm 9 0,zm 2 9]) (.ret)) (.skip))) (.seq (.seq (.reg [zk 3 1]) (.blk 0 (F8))) (.seq (.reg [zm 60 0,zm 2 60]) (.ret))))
def Lg:List Nat:=[]
def Bw:IF:=⟨1,61,0,KZ,[(2,none)],false,false,false⟩
def MY:C:=.seq (.reg [zq 2 (.box 0 2 (.t 0)),zq 3 (.box 1 2 (.t 1)),zo 4 false]) (.seq (.reg [zL 5 2 2,zL 6 2 3,zq 7 (.call DV [.t 5,.t 6] []),zq 8 (.bin .lss (.t 7) (.c (.int .i64 0))),zm 4 8]) (.ret))
def Sz:List Nat:=[2,3]
def Dp:IF:=⟨2,9,2,MY,[(4,none)],true,false,false⟩
def QE:C:=.loop (rest 20 [1,2,8,9,10]) [] (.seq (.reg [zb 11 .lss 10 9]) (.seq (.cond (.t 11) (.skip) (.exit 0)) (.seq (.blk 1 (.seq (.reg [zi 12 1 8 10,zl 13 1 12,zm 6 13]) (.seq (.reg [zL 14 2 2,zm 15 6,zm 16 1,zq 17 (.call DM [.t 14,.t 15,.t 16] []),zq 18 (.un .not (.t 17))]) (.cond (.t 18) (.seq (.reg [zo 4 false]) (.ret)) (.skip))))) (.reg [za 19 10 1,zm 10 19]))))
def MO:C:=.seq (.reg [zq 2 (.box 0 2 (.t 0)),zo 4 false]) (.seq (.seq (.reg [zf 7 0 2,zl 8 1 7,zn 9 8,zk 10 0]) (.blk 0 (QE))) (.seq (.reg [zo 4 true]) (.ret)))
def TT:List Nat:=[2]
def C8:IF:=⟨2,20,1,MO,[(4,none)],true,false,false⟩
def SX:C:=.loop (rest 31 [1,2,10,11,12]) [] (.seq (.reg [zb 13 .lss 12 11]) (.seq (.cond (.t 13) (.skip) (.exit 0)) (.seq (.blk 1 (.seq (.reg [zm 14 12,zi 15 1 10 12,zl 16 1 15,zm 7 14,zm 8 16]) (.seq (.reg [zm 17 8,zq 18 (.bin .geq (.t 17) (.c (.int .i64 0))),zm 19 18,zmg 20 1 19 true,zmg 21 7 19 true,zg 22 (.call FS [.t 20,.t 21] []) 19 true,zu 23 19 22,zm 24 23,zmg 25 2 24 true,zmg 26 8 24 true,zg 27 (.iad 1 (.t 25) (.t 26)) 24 true,zlg 28 1 27 24 true,zu 29 24 28]) (.cond (.t 29) (.seq (.reg [zo 6 true]) (.ret)) (.skip))))) (.reg [za 30 12 1,zm 12 30]))))
def P6:C:=.seq (.reg [zq 3 (.box 0 2 (.t 0)),zo 6 false]) (.seq (.seq (.reg [zf 9 1 3,zl 10 1 9,zn 11 10,zk 12 0]) (.blk 0 (SX))) (.seq (.reg [zo 6 false]) (.ret)))
def X1:List Nat:=[3]
def FE:IF:=⟨3,31,1,P6,[(6,none)],true,false,false⟩
def Vp:C:=.seq (.reg [zo 4 false]) (.seq (.reg [zm 5 0,zm 6 1,zb 7 .shr 5 6,zq 8 (.bin .and (.t 7) (.c (.int .i64 1))),zq 9 (.bin .eql (.t 8) (.c (.int .i64 1))),zm 4 9]) (.ret))
def Ack:List Nat:=[]
def J7:IF:=⟨2,10,0,Vp,[(4,none)],true,false,false⟩
def Ep:C:=.loop (rest 54 [0,1,6,7,8]) [] (.seq (.seq (.reg [zm 13 7,zm 14 8,zb 15 .lss 13 14]) (.cond (.t 15) (.skip) (.exit 0))) (.blk 1 (.seq (.reg [zm 16 7,zm 17 8,zb 18 .add 16 17,zq 19 (.cvi .u64 (.t 18)),zq 20 (.bin .shr (.t 19) (.c (.int .u64 1))),zq 21 (.cvi .i64 (.t 20)),zm 9 21]) (.seq (.reg [zm 22 0,zm 23 9,zi 24 1 22 23,zl 25 1 24,zm 26 1,zq 27 (.call Ai [.t 25,.t 26] [])]) (.cond (.t 27) (.reg [zm 28 9,za 29 28 1,zm 7 29]) (.reg [zm 30 9,zm 8 30]))))))
def Je:C:=.seq (.reg [zk 4 0,zo 5 false]) (.seq (.reg [zm 10 0,zn 11 10,zm 6 11]) (.seq (.reg [zm 12 6,zk 7 0,zm 8 12]) (.seq (.blk 0 (Ep)) (.seq (.reg [zm 31 7,zm 32 7,zm 33 6,zb 34 .lss 32 33,zm 35 34,zmg 36 0 35 true,zmg 37 7 35 true,zg 38 (.iad 1 (.t 36) (.t 37)) 35 true,zlg 39 1 38 35 true,zmg 40 1 35 true,zg 41 (.bin .eql (.t 39) (.t 40)) 35 true,zmg 42 41 35 true,zmg 43 0 42 false,zmg 44 7 42 false,zg 45 (.iad 1 (.t 43) (.t 44)) 42 false,zlg 46 1 45 42 false,zg 47 (.call BN [.t 46] []) 42 false,zmg 48 47 42 false,zmg 49 1 48 true,zg 50 (.call BN [.t 49] []) 48 true,zg 51 (.pick (.t 48) (.t 50) (.c (.bool false))) 42 false,zg 52 (.pick (.t 42) (.c (.bool true)) (.t 51)) 35 true,zu 53 35 52,zm 4 31,zm 5 53]) (.ret)))))
def Jd:List Nat:=[]
def Az:IF:=⟨2,54,0,Je,[(4,none),(5,none)],true,false,false⟩
def Ot:C:=.seq (.reg [zo 2 false]) (.seq (.reg [zm 3 0,zq 4 (.bin .geq (.t 3) (.c (.int .u8 97))),zm 5 4,zmg 6 0 5 true,zg 7 (.bin .leq (.t 6) (.c (.int .u8 122))) 5 true,zu 8 5 7,zm 9 8,zmg 10 0 9 false,zg 11 (.bin .geq (.t 10) (.c (.int .u8 65))) 9 false,zmg 12 11 9 false,zmg 13 0 12 true,zg 14 (.bin .leq (.t 13) (.c (.int .u8 90))) 12 true,zg 15 (.pick (.t 12) (.t 14) (.c (.bool false))) 9 false,zy 16 9 15,zm 2 16]) (.ret))
def s_r01_letter:List Nat:=[]
def Ek:IF:=⟨1,17,0,Ot,[(2,none)],true,false,false⟩
def Ve:C:=.loop (rest 46 [0,19,20]) [] (.seq (.reg [zb 21 .lss 20 19]) (.seq (.cond (.t 21) (.skip) (.exit 0)) (.seq (.blk 1 (.seq (.reg [zm 22 20,zm 3 22]) (.seq (.reg [zm 23 0,zm 24 3,zq 25 (.idx (.t 23) (.t 24)),zm 4 25]) (.seq (.reg [zm 26 4,zq 27 (.call CZ [.t 26] []),zq 28 (.un .not (.t 27)),zm 29 28,zmg 30 4 29 true,zg 31 (.bin .lss (.t 30) (.c (.int .u8 48))) 29 true,zmg 32 31 29 true,zmg 33 4 32 false,zg 34 (.bin .gtr (.t 33) (.c (.int .u8 57))) 32 false,zg 35 (.pick (.t 32) (.c (.bool true)) (.t 34)) 29 true,zu 36 29 35,zm 37 36,zmg 38 4 37 true,zg 39 (.bin .neq (.t 38) (.c (.int .u8 45))) 37 true,zu 40 37 39,zm 41 40,zmg 42 4 41 true,zg 43 (.bin .neq (.t 42) (.c (.int .u8 95))) 41 true,zu 44 41 43]) (.cond (.t 44) (.seq (.reg [zo 2 false]) (.ret)) (.skip)))))) (.reg [za 45 20 1,zm 20 45]))))
def Sn:C:=.seq (.reg [zo 2 false]) (.seq (.seq (.reg [zm 5 0,⟨some 6,.bin .eql (.t 5) (.c (.str ⟨#[]⟩)),none⟩,zm 7 6,zmg 8 0 7 false,zg 9 (.lens (.t 8)) 7 false,zg 10 (.bin .gtr (.t 9) (.c (.int .i64 20))) 7 false,zy 11 7 10,zm 12 11,zmg 13 0 12 false,zg 14 (.idx (.t 13) (.c (.int .i64 0))) 12 false,zg 15 (.call CZ [.t 14] []) 12 false,zg 16 (.un .not (.t 15)) 12 false,zy 17 12 16]) (.cond (.t 17) (.seq (.reg [zo 2 false]) (.ret)) (.skip))) (.seq (.seq (.reg [zm 18 0,zq 19 (.lens (.t 18)),zk 20 0]) (.blk 0 (Ve))) (.seq (.reg [zo 2 true]) (.ret))))
def ZS:List Nat:=[]
def HM:IF:=⟨1,46,0,Sn,[(2,none)],true,false,false⟩
def E0:C:=.seq (.reg [zo 4 false]) (.seq (.reg [zm 5 0,zm 6 1,zq 7 (.call Bs [.t 5,.t 6] []),zq 8 (.bin .geq (.t 7) (.c (.int .i64 0))),zm 4 8]) (.ret))
def KN:List Nat:=[]
def AZ:IF:=⟨2,9,0,E0,[(4,none)],true,false,false⟩
def QG:C:=.seq (.reg [zq 4 (.mov (.c (.int .u64 0))),zq 5 (.mov (.c (.int .u64 0)))]) (.seq (.cond (.c (.bool false)) (.seq (.reg [zm 11 0,zq 12 (.cvi .u32 (.t 11)),zm 13 1,zq 14 (.cvi .u32 (.t 13)),zq 15 (.call Db [.t 12,.t 14] []),zm 10 15,zq 16 (.ext (.t 10) 0),zq 17 (.ext (.t 10) 1),zm 6 16,zm 7 17]) (.seq (.reg [zm 18 6,zq 19 (.cvi .u64 (.t 18)),zm 20 7,zq 21 (.cvi .u64 (.t 20)),zm 4 19,zm 5 21]) (.ret))) (.skip)) (.seq (.reg [zm 23 0,zm 24 1,zq 25 (.call Dm [.t 23,.t 24] []),zm 22 25,zq 26 (.ext (.t 22) 0),zq 27 (.ext (.t 22) 1),zm 8 26,zm 9 27]) (.seq (.reg [zm 28 8,zm 29 9,zm 4 28,zm 5 29]) (.ret))))
def P4:List Nat:=[]
def B3:IF:=⟨2,30,0,QG,[(4,none),(5,none)],true,false,false⟩
def Kw:C:=.reg [zm 13 51]
def Kz:C:=.blk 5 (.drw [zl 52 1 12,zm 53 52,zlg 54 1 3 53 true,zfg 55 1 7 53 true,zlg 56 1 55 53 true,zmg 57 13 53 true,zg 58 (.iad 1 (.t 56) (.t 57)) 53 true,zlg 59 1 58 53 true,zg 60 (.iad 1 (.t 54) (.t 59)) 53 true,zlg 61 1 60 53 true,zg 62 (.un .not (.t 61)) 53 true,zu 63 53 62,zs 1 12 63] [])
def Pb:C:=.loop (rest 101 [0,1,3,4,5,6,7,8,9,43,44,45]) [6,7] (.seq (.reg [zb 46 .lss 45 44]) (.seq (.cond (.t 46) (.skip) (.exit 2)) (.seq (.blk 3 (.seq (.reg [zi 47 1 43 45,zl 48 1 47,zm 11 48]) (.seq (.reg [zq 12 (.alc 6 1 (.bool false)),zr (.sto 1 (.t 12) (.c (.bool true)))]) (.seq (.seq (.reg [zm 49 11,zq 50 (.call FP [.t 49] [])]) (.blk 4 (.rngf (.t 50) [51] (rest 101 [0,1,3,4,5,6,7,8,9,11,12,43,44,45]) [] Kw Kz))) (.seq (.reg [zl 64 1 12]) (.cond (.t 64) (.seq (.reg [zm 65 8,zm 66 11,zq 67 (.bsl 7 1 1 [.t 66]),zq 68 (.app 8 1 8 (.t 65) (.t 67)),zm 8 68]) (.reg [zm 69 9,zm 70 11,zb 71 .or 69 70,zm 9 71])) (.skip))))))) (.reg [za 72 45 1,zm 45 72]))))
def Ky:C:=.reg [zm 14 75]
def Kv:C:=.blk 7 (.seq (.reg [zf 76 1 7,zl 77 1 76,zm 78 14,zi 79 1 77 78,zl 80 1 79,zm 15 80]) (.seq (.reg [zl 81 1 4,zm 82 15,zi 83 1 81 82,zl 84 1 83,zq 85 (.un .not (.t 84))]) (.cond (.t 85) (.seq (.reg [zl 86 1 4,zm 87 15,zi 88 1 86 87,zr (.sto 1 (.t 88) (.c (.bool true)))]) (.reg [zl 89 1 5,zm 90 15,zq 91 (.bsl 9 1 1 [.t 90]),zq 92 (.app 10 1 8 (.t 89) (.t 91)),zs 1 5 92])) (.skip))))
def O8:C:=.loop (rest 101 [0,1,3,4,5,6]) [5,6,7,8,9,10] (.seq (.seq (.reg [zm 28 6,zl 29 1 5,zn 30 29,zb 31 .lss 28 30]) (.cond (.t 31) (.skip) (.exit 0))) (.seq (.blk 1 (.seq (.drw [zf 34 1 1,zl 35 1 34,zl 36 1 5,zm 37 6,zi 38 1 36 37,zl 39 1 38,zi 40 2 35 39,zL 41 2 40,zq 7 (.alc 5 2 (.agg [.nils,.nils])),zs 2 7 41] [(0,8),(1,8),(2,8),(4,8),(5,8),(6,8),(7,8)]) (.seq (.reg [zq 8 (.mov (.c .nils))]) (.seq (.reg [zk 9 0]) (.seq (.seq (.reg [zf 42 0 7,zl 43 1 42,zn 44 43,zk 45 0]) (.blk 2 (Pb))) (.seq (.seq (.reg [zm 73 9,zq 74 (.call FP [.t 73] [])]) (.blk 6 (.rngf (.t 74) [75] (rest 101 [0,1,3,4,5,6,7,8]) [9,10] Ky Kv))) (.seq (.reg [zm 93 0,zl 94 1 5,zm 95 6,zi 96 1 94 95,zl 97 1 96,zm 98 8,zq 99 (.calv (.t 93) [.t 97,.t 98] []),zq 100 (.un .not (.t 99))]) (.cond (.t 100) (.ret) (.skip))))))))) (.reg [zm 32 6,za 33 32 1,zm 6 33])))
def JB:C:=.seq (.reg [zL 16 2 1,zq 17 (.call Cf [.t 16] []),zq 3 (.alc 0 1 .nils),zs 1 3 17]) (.seq (.seq (.reg [zl 18 1 3,zq 19 (.iad 1 (.t 18) (.c (.int .i64 0))),zl 20 1 19]) (.cond (.t 20) (.ret) (.skip))) (.seq (.reg [zf 21 1 1,zl 22 1 21,zn 23 22,zq 24 (.mks 1 1 1 (.bool false) (.t 23) (.t 23)),zq 4 (.alc 2 1 .nils),zs 1 4 24]) (.seq (.reg [zl 25 1 4,zq 26 (.iad 1 (.t 25) (.c (.int .i64 0))),zr (.sto 1 (.t 26) (.c (.bool true)))]) (.seq (.reg [zq 27 (.bsl 3 1 1 [(.c (.int .i64 0))]),zq 5 (.alc 4 1 .nils),zs 1 5 27]) (.seq (.reg [zk 6 0]) (.blk 0 (O8)))))))
def RG:List Nat:=[3,24,4,27,5,7,12,67,68,91,92]
def DG:IF:=⟨2,101,11,JB,[],false,false,false⟩
def NT:C:=.loop (rest 22 [3,11,12,13]) [] (.seq (.reg [zb 14 .lss 13 12]) (.seq (.cond (.t 14) (.skip) (.exit 0)) (.seq (.blk 1 (.seq (.reg [zi 15 1 11 13,zl 16 1 15,zm 5 16]) (.reg [zm 17 3,zm 18 5,zi 19 1 17 18,zr (.sto 1 (.t 19) (.c (.bool true)))]))) (.reg [za 20 13 1,zm 13 20]))))
def La:C:=.seq (.reg [zq 1 (.box 0 2 (.t 0)),zq 2 (.mov (.c .nils))]) (.seq (.reg [zf 6 1 1,zl 7 1 6,zn 8 7,zq 9 (.mks 1 1 1 (.bool false) (.t 8) (.t 8)),zm 3 9]) (.seq (.seq (.reg [zL 10 2 1,zq 11 (.call Cv [.t 10] []),zn 12 11,zk 13 0]) (.blk 0 (NT))) (.seq (.reg [zm 21 3,zm 2 21]) (.ret))))
def Py:List Nat:=[1,9]
def Cm:IF:=⟨1,22,2,La,[(2,none)],true,false,false⟩
def PX:C:=.seq (.reg [zk 2 0]) (.seq (.cond (.c (.bool false)) (.seq (.reg [zm 3 0,zq 4 (.cvi .u32 (.t 3)),zq 5 (.call Dc [.t 4] []),zm 2 5]) (.ret)) (.skip)) (.seq (.reg [zm 6 0,zq 7 (.call Df [.t 6] []),zm 2 7]) (.ret)))
def Qx:List Nat:=[]
def Ck:IF:=⟨1,8,0,PX,[(2,none)],true,false,false⟩
def FU:C:=.loop (rest 134 [0,1,2,3,8,9]) [] (.blk 1 (.seq (.reg [zm 19 2,zm 20 1,zb 21 .sub 19 20,zm 10 21]) (.seq (.seq (.reg [zm 22 10,zq 23 (.bin .leq (.t 22) (.c (.int .i64 12)))]) (.cond (.t 23) (.seq (.reg [zm 24 0,zm 25 1,zm 26 2,zq 27 (.call Bc [.t 24,.t 25,.t 26] [])]) (.ret)) (.skip))) (.seq (.seq (.reg [zm 28 3,zq 29 (.bin .eql (.t 28) (.c (.int .i64 0)))]) (.cond (.t 29) (.seq (.reg [zm 30 0,zm 31 1,zm 32 2,zq 33 (.call By [.t 30,.t 31,.t 32] [])]) (.ret)) (.skip))) (.seq (.seq (.reg [zm 34 8,zq 35 (.un .not (.t 34))]) (.cond (.t 35) (.seq (.reg [zm 36 0,zm 37 1,zm 38 2,zq 39 (.call Bd [.t 36,.t 37,.t 38] [])]) (.reg [zm 40 3,zq 41 (.bin .sub (.t 40) (.c (.int .i64 1))),zm 3 41])) (.skip))) (.seq (.reg [zm 43 0,zm 44 1,zm 45 2,zq 46 (.call AP [.t 43,.t 44,.t 45] []),zm 42 46,zq 47 (.ext (.t 42) 0),zq 48 (.ext (.t 42) 1),zm 11 47,zm 12 48]) (.seq (.seq (.reg [zm 49 12,zq 50 (.bin .eql (.t 49) (.c (.int .i64 2)))]) (.cond (.t 50) (.seq (.reg [zm 51 0,zm 52 1,zm 53 2,zq 54 (.call Bg [.t 51,.t 52,.t 53] [])]) (.seq (.reg [zm 55 2,zq 56 (.bin .sub (.t 55) (.c (.int .i64 1))),zm 57 11,zm 58 1,zb 59 .sub 57 58,zb 60 .sub 56 59,zm 11 60]) (.reg [zk 12 1]))) (.skip))) (.seq (.seq (.reg [zm 61 8,zm 62 61,zmg 63 9 62 true,zu 64 62 63,zm 65 64,zmg 66 12 65 true,zg 67 (.bin .eql (.t 66) (.c (.int .i64 1))) 65 true,zu 68 65 67]) (.cond (.t 68) (.seq (.reg [zm 69 0,zm 70 1,zm 71 2,zq 72 (.call AL [.t 69,.t 70,.t 71] [])]) (.cond (.t 72) (.ret) (.skip))) (.skip))) (.seq (.seq (.drw [zm 73 1,zq 74 (.bin .gtr (.t 73) (.c (.int .i64 0))),zm 75 74,zmg 76 0 75 true,zmg 77 1 75 true,zg 78 (.bin .sub (.t 77) (.c (.int .i64 1))) 75 true,zg 79 (.iad 1 (.t 76) (.t 78)) 75 true,zlg 80 1 79 75 true,zmg 81 0 75 true,zmg 82 11 75 true,zg 83 (.iad 1 (.t 81) (.t 82)) 75 true,zlg 84 1 83 75 true,zg 85 (.call Ai [.t 80,.t 84] []) 75 true,zg 86 (.un .not (.t 85)) 75 true,zu 87 75 86] []) (.cond (.t 87) (.seq (.reg [zm 88 0,zm 89 1,zm 90 2,zm 91 11,zq 92 (.call A6 [.t 88,.t 89,.t 90,.t 91] []),zm 13 92]) (.seq (.reg [zm 93 13,zm 1 93]) (.exit 1))) (.skip))) (.seq (.reg [zm 95 0,zm 96 1,zm 97 2,zm 98 11,zq 99 (.call Bv [.t 95,.t 96,.t 97,.t 98] []),zm 94 99,zq 100 (.ext (.t 94) 0),zq 101 (.ext (.t 94) 1),zm 14 100,zm 15 101]) (.seq (.reg [zm 102 15,zm 9 102]) (.seq (.reg [zm 103 14,zm 104 1,zb 105 .sub 103 104,zm 106 2,zm 107 14,zb 108 .sub 106 107,zm 16 105,zm 17 108]) (.seq (.reg [zm 109 10,zq 110 (.bin .quo (.t 109) (.c (.int .i64 8))),zm 18 110]) (.seq (.reg [zm 111 16,zm 112 17,zb 113 .lss 111 112]) (.cond (.t 113) (.seq (.reg [zm 114 16,zm 115 18,zb 116 .geq 114 115,zm 8 116]) (.seq (.reg [zm 117 0,zm 118 1,zm 119 14,zm 120 3,zq 121 (.call AN [.t 117,.t 118,.t 119,.t 120] [])]) (.reg [zm 122 14,za 123 122 1,zm 1 123]))) (.seq (.reg [zm 124 17,zm 125 18,zb 126 .geq 124 125,zm 8 126]) (.seq (.reg [zm 127 0,zm 128 14,za 129 128 1,zm 130 2,zm 131 3,zq 132 (.call AN [.t 127,.t 129,.t 130,.t 131] [])]) (.reg [zm 133 14,zm 2 133]))))))))))))))))))
def Ho:C:=.seq (.reg [zo 8 true]) (.seq (.reg [zo 9 true]) (.blk 0 (FU)))
def Hf:List Nat:=[]
def AM:IF:=⟨4,134,0,Ho,[],false,false,false⟩
def SG:C:=.loop (rest 120 [2,3,5,25,26]) [3] (.seq (.reg [zb 27 .lss 26 25]) (.seq (.cond (.t 27) (.skip) (.exit 0)) (.seq (.blk 1 (.seq (.reg [zm 28 26,zm 6 28]) (.reg [zm 29 5,zm 30 6,zf 31 1 3,zl 32 1 31,zn 33 32,zq 34 (.mks 3 1 1 (.bool false) (.t 33) (.t 33)),zi 35 1 29 30,zs 1 35 34]))) (.reg [za 36 26 1,zm 26 36]))))
def Sx:C:=.loop (rest 120 [2,3,5,8,9,11,48,49,50,74,75,76]) [6,7] (.seq (.reg [zb 77 .lss 76 75]) (.seq (.cond (.t 77) (.skip) (.exit 6)) (.seq (.blk 7 (.seq (.reg [zm 78 76,zi 79 1 74 76,zl 80 1 79,zm 12 78,zm 13 80]) (.seq (.seq (.reg [zm 81 13,zq 82 (.bin .lss (.t 81) (.c (.int .i64 0)))]) (.cond (.t 82) (.exit 7) (.skip))) (.seq (.reg [zm 83 13,zf 84 1 3,zl 85 1 84,zq 86 (.iaa 2 1 (.t 11) (.c (.int .i64 1))),zl 87 1 86,zi 88 2 85 87,zf 89 1 88,zl 90 1 89,zm 91 12,zi 92 1 90 91,zl 93 1 92,zq 94 (.bld [(.int .i64 0),(.int .i64 0)] [(0,1,(.t 83)),(1,1,(.t 93))]),zq 14 (.alc 6 2 (.agg [(.int .i64 0),(.int .i64 0)])),zs 2 14 94]) (.seq (.drw [zm 95 5,zq 96 (.iaa 2 1 (.t 14) (.c (.int .i64 0))),zl 97 1 96,zi 98 1 95 97,zl 99 1 98,zq 100 (.iaa 2 1 (.t 14) (.c (.int .i64 1))),zl 101 1 100,zi 102 1 99 101,zl 103 1 102,zq 104 (.un .not (.t 103))] []) (.cond (.t 104) (.seq (.drw [zm 105 5,zq 106 (.iaa 2 1 (.t 14) (.c (.int .i64 0))),zl 107 1 106,zi 108 1 105 107,zl 109 1 108,zq 110 (.iaa 2 1 (.t 14) (.c (.int .i64 1))),zl 111 1 110,zi 112 1 109 111,zr (.sto 1 (.t 112) (.c (.bool true)))] []) (.reg [zm 113 9,zL 114 2 14,zq 115 (.bsl 7 2 1 [.t 114]),zq 116 (.app 8 2 16 (.t 113) (.t 115)),zm 9 116])) (.skip))))))) (.reg [za 117 76 1,zm 76 117]))))
def T4:C:=.loop (rest 120 [2,3,5,8,9,48,49,50]) [5,6,7] (.seq (.reg [zb 51 .lss 50 49]) (.seq (.cond (.t 51) (.skip) (.exit 4)) (.seq (.blk 5 (.seq (.reg [zi 52 2 48 50,zL 53 2 52,zq 11 (.alc 5 2 (.agg [(.int .i64 0),(.int .i64 0)])),zs 2 11 53]) (.seq (.seq (.drw [zf 54 1 2,zl 55 1 54,zq 56 (.iaa 2 1 (.t 11) (.c (.int .i64 0))),zl 57 1 56,zi 58 2 55 57,zL 59 2 58,zf 60 1 3,zl 61 1 60,zq 62 (.iaa 2 1 (.t 11) (.c (.int .i64 1))),zl 63 1 62,zi 64 2 61 63,zL 65 2 64,zq 66 (.call Fz [.t 59,.t 65] [])] []) (.cond (.t 66) (.seq (.reg [zm 67 8,zm 4 67]) (.ret)) (.skip))) (.seq (.reg [zf 68 1 2,zl 69 1 68,zq 70 (.iaa 2 1 (.t 11) (.c (.int .i64 0))),zl 71 1 70,zi 72 2 69 71,zf 73 1 72,zl 74 1 73,zn 75 74,zk 76 0]) (.blk 6 (Sx)))))) (.reg [za 118 50 1,zm 50 118]))))
def Tl:C:=.loop (rest 120 [2,3,5,7,8]) [5,6,7] (.frzt 7 (.seq (.seq (.reg [zm 43 7,zn 44 43,zq 45 (.bin .gtr (.t 44) (.c (.int .i64 0)))]) (.cond (.t 45) (.skip) (.exit 2))) (.seq (.blk 3 (.seq (.reg [zq 9 (.mov (.c .nils))]) (.seq (.seq (.reg [zm 48 7,zn 49 48,zk 50 0]) (.blk 4 (T4))) (.reg [zm 119 9,zm 7 119])))) (.reg [zm 46 8,za 47 46 1,zm 8 47]))))
def PK:C:=.seq (.reg [zq 2 (.box 0 2 (.t 0)),zq 3 (.box 1 2 (.t 1)),zk 4 0]) (.seq (.reg [zL 16 2 2,zq 17 (.call C5 [.t 16] []),zm 15 17,zq 18 (.ext (.t 15) 0),zq 19 (.ext (.t 15) 1),zs 2 2 18]) (.seq (.reg [zf 20 1 2,zl 21 1 20,zn 22 21,zq 23 (.mks 2 1 24 .nils (.t 22) (.t 22)),zm 5 23]) (.seq (.seq (.reg [zm 24 5,zn 25 24,zk 26 0]) (.blk 0 (SG))) (.seq (.reg [zm 37 5,zq 38 (.iad 1 (.t 37) (.c (.int .i64 0))),zl 39 1 38,zq 40 (.iad 1 (.t 39) (.c (.int .i64 0))),zr (.sto 1 (.t 40) (.c (.bool true)))]) (.seq (.reg [zq 41 (.bld [(.int .i64 0),(.int .i64 0)] [(0,1,(.c (.int .i64 0))),(1,1,(.c (.int .i64 0)))]),zq 42 (.bsl 4 2 1 [.t 41]),zm 7 42]) (.seq (.seq (.reg [zk 8 0]) (.blk 2 (Tl))) (.seq (.reg [zk 4 (-1)]) (.ret))))))))
def Xa:List Nat:=[2,3,23,34,42,11,14,115,116]
def Ft:IF:=⟨2,120,9,PK,[(4,none)],true,false,false⟩
def Pm:C:=.seq (.reg [zo 4 false]) (.seq (.reg [zm 5 0,zq 6 (.call CD [.t 5] []),zm 7 6,zmg 8 1 7 true,zg 9 (.call CD [.t 8] []) 7 true,zg 10 (.un .not (.t 9)) 7 true,zu 11 7 10,zm 12 11,zmg 13 0 12 false,zmg 14 1 12 false,zg 15 (.bin .lss (.t 13) (.t 14)) 12 false,zy 16 12 15,zm 4 16]) (.ret))
def P0:List Nat:=[]
def B9:IF:=⟨2,17,0,Pm,[(4,none)],true,false,false⟩
def Mb:C:=.seq (.reg [zo 2 false]) (.seq (.reg [zm 3 0,zm 4 0,zb 5 .neq 3 4,zm 2 5]) (.ret))
def Mm:List Nat:=[]
def Bp:IF:=⟨1,6,0,Mb,[(2,none)],true,false,false⟩
def Og:C:=.seq (.reg [zo 2 false]) (.seq (.reg [zm 3 0,zq 4 (.bin .geq (.t 3) (.c (.int .u8 97))),zm 5 4,zmg 6 0 5 true,zg 7 (.bin .leq (.t 6) (.c (.int .u8 122))) 5 true,zu 8 5 7,zm 9 8,zmg 10 0 9 false,zg 11 (.bin .geq (.t 10) (.c (.int .u8 65))) 9 false,zmg 12 11 9 false,zmg 13 0 12 true,zg 14 (.bin .leq (.t 13) (.c (.int .u8 90))) 12 true,zg 15 (.pick (.t 12) (.t 14) (.c (.bool false))) 9 false,zy 16 9 15,zm 2 16]) (.ret))
def s_act_letter:List Nat:=[]
def DZ:IF:=⟨1,17,0,Og,[(2,none)],true,false,false⟩
def EA:C:=.loop (rest 19 [0,1,7,8]) [] (.seq (.reg [zb 9 .lss 8 7]) (.seq (.cond (.t 9) (.skip) (.exit 0)) (.seq (.blk 1 (.seq (.reg [zm 10 8,zm 5 10]) (.seq (.reg [zm 11 1,zm 12 0,zm 13 5,zi 14 1 12 13,zl 15 1 14,zb 16 .eql 11 15]) (.cond (.t 16) (.seq (.reg [zm 17 5,zm 4 17]) (.ret)) (.skip))))) (.reg [za 18 8 1,zm 8 18]))))
def H1:C:=.seq (.reg [zk 4 0]) (.seq (.seq (.reg [zm 6 0,zn 7 6,zk 8 0]) (.blk 0 (EA))) (.seq (.reg [zk 4 (-1)]) (.ret)))
def Mf:List Nat:=[]
def Bn:IF:=⟨2,19,0,H1,[(4,none)],true,false,false⟩
def Np:C:=.seq (.reg [zq 4 (.mov (.c (.int .u32 0))),zq 5 (.mov (.c (.int .u32 0)))]) (.seq (.reg [zm 7 0,zq 8 (.cvi .u64 (.t 7)),zm 9 1,zq 10 (.cvi .u64 (.t 9)),zb 11 .mul 8 10,zm 6 11]) (.seq (.reg [zm 12 6,zq 13 (.bin .shr (.t 12) (.c (.int .u64 32))),zq 14 (.cvi .u32 (.t 13)),zm 15 6,zq 16 (.cvi .u32 (.t 15)),zm 4 14,zm 5 16]) (.ret)))
def NI:List Nat:=[]
def BH:IF:=⟨2,17,0,Np,[(4,none),(5,none)],true,false,false⟩
def NK:C:=.seq (.reg [zq 4 (.mov (.c (.int .u64 0))),zq 5 (.mov (.c (.int .u64 0)))]) (.seq (.reg [zm 14 0,zq 15 (.bin .and (.t 14) (.c (.int .u64 4294967295))),zm 6 15]) (.seq (.reg [zm 16 0,zq 17 (.bin .shr (.t 16) (.c (.int .u64 32))),zm 7 17]) (.seq (.reg [zm 18 1,zq 19 (.bin .and (.t 18) (.c (.int .u64 4294967295))),zm 8 19]) (.seq (.reg [zm 20 1,zq 21 (.bin .shr (.t 20) (.c (.int .u64 32))),zm 9 21]) (.seq (.reg [zm 22 6,zm 23 8,zb 24 .mul 22 23,zm 10 24]) (.seq (.reg [zm 25 7,zm 26 8,zb 27 .mul 25 26,zm 28 10,zq 29 (.bin .shr (.t 28) (.c (.int .u64 32))),zb 30 .add 27 29,zm 11 30]) (.seq (.reg [zm 31 11,zq 32 (.bin .and (.t 31) (.c (.int .u64 4294967295))),zm 12 32]) (.seq (.reg [zm 33 11,zq 34 (.bin .shr (.t 33) (.c (.int .u64 32))),zm 13 34]) (.seq (.reg [zm 35 12,zm 36 6,zm 37 9,zb 38 .mul 36 37,zb 39 .add 35 38,zm 12 39]) (.seq (.reg [zm 40 7,zm 41 9,zb 42 .mul 40 41,zm 43 13,zb 44 .add 42 43,zm 45 12,zq 46 (.bin .shr (.t 45) (.c (.int .u64 32))),zb 47 .add 44 46,zm 4 47]) (.seq (.reg [zm 48 0,zm 49 1,zb 50 .mul 48 49,zm 5 50]) (.ret))))))))))))
def NC:List Nat:=[]
def BF:IF:=⟨2,51,0,NK,[(4,none),(5,none)],true,false,false⟩
def P8:C:=.loop (rest 106 [1,4,5,6,7,8,26,27,28,56,57,58]) [11,12] (.seq (.reg [zb 59 .lss 58 57]) (.seq (.cond (.t 59) (.skip) (.exit 2)) (.seq (.blk 3 (.seq (.reg [zm 60 58,zi 61 1 56 58,zl 62 1 61,zm 10 60,zm 11 62]) (.seq (.reg [zm 63 11,zq 64 (.bin .geq (.t 63) (.c (.int .i64 0)))]) (.cond (.t 64) (.reg [zm 65 6,zm 66 11,zm 67 6,zm 68 11,zi 69 1 67 68,zl 70 1 69,zm 71 8,zm 72 10,zq 73 (.bld [(.int .i64 0),(.int .i64 0)] [(0,1,(.t 71)),(1,1,(.t 72))]),zq 74 (.bsl 11 2 1 [.t 73]),zq 75 (.app 12 2 16 (.t 70) (.t 74)),zi 76 1 65 66,zs 1 76 75]) (.skip))))) (.reg [za 77 58 1,zm 58 77]))))
def Qj:C:=.loop (rest 106 [1,4,5,6,7,26,27,28]) [7,8,9,10,11,12] (.seq (.reg [zb 29 .lss 28 27]) (.seq (.cond (.t 29) (.skip) (.exit 0)) (.seq (.blk 1 (.seq (.reg [zm 30 28,zi 31 2 26 28,zL 32 2 31,zq 9 (.alc 7 2 (.agg [.nils,.nils])),zm 8 30,zs 2 9 32]) (.seq (.drw [zl 33 1 4,zm 34 8,zl 35 1 5,zm 36 8,zf 37 0 9,zl 38 1 37,zn 39 38,zf 40 0 9,zl 41 1 40,zn 42 41,zq 43 (.mks 8 1 1 (.bool false) (.t 42) (.t 42)),zi 44 1 33 34,zs 1 44 39,zi 45 1 35 36,zs 1 45 43] [(0,10),(2,10),(4,10),(5,10),(6,10),(10,11),(2,12),(7,12),(8,12),(9,12),(10,12)]) (.seq (.seq (.reg [zl 46 1 4,zm 47 8,zi 48 1 46 47,zl 49 1 48,zq 50 (.bin .eql (.t 49) (.c (.int .i64 0)))]) (.cond (.t 50) (.reg [zl 51 1 7,zm 52 8,zq 53 (.bsl 9 1 1 [.t 52]),zq 54 (.app 10 1 8 (.t 51) (.t 53)),zs 1 7 54]) (.skip))) (.seq (.reg [zf 55 1 9,zl 56 1 55,zn 57 56,zk 58 0]) (.blk 2 (P8))))))) (.reg [za 78 28 1,zm 28 78]))))
def P9:C:=.loop (rest 106 [6,7,12,13,92,93,94]) [13] (.seq (.reg [zb 95 .lss 94 93]) (.seq (.cond (.t 95) (.skip) (.exit 6)) (.seq (.blk 7 (.seq (.reg [zi 96 2 92 94,zL 97 2 96,zq 15 (.alc 13 2 (.agg [(.int .i64 0),(.int .i64 0)])),zs 2 15 97]) (.reg [zm 98 12,zq 99 (.iaa 2 1 (.t 15) (.c (.int .i64 0))),zl 100 1 99,zq 101 (.iaa 2 1 (.t 15) (.c (.int .i64 1))),zl 102 1 101,zq 103 (.calv (.t 98) [.t 100,.t 102] [])]))) (.reg [za 104 94 1,zm 94 104]))))
def Px:C:=.loop (rest 106 [6,7,12,13]) [13] (.seq (.seq (.reg [zm 80 13,zl 81 1 7,zn 82 81,zb 83 .lss 80 82]) (.cond (.t 83) (.skip) (.exit 4))) (.seq (.blk 5 (.seq (.reg [zm 86 6,zl 87 1 7,zm 88 13,zi 89 1 87 88,zl 90 1 89,zi 91 1 86 90,zl 92 1 91,zn 93 92,zk 94 0]) (.blk 6 (P9)))) (.reg [zm 84 13,za 85 84 1,zm 13 85])))
def Mz:C:=.seq (.reg [zq 1 (.box 0 2 (.t 0)),zq 2 (.mov (.c .nils))]) (.seq (.reg [zf 16 1 1,zl 17 1 16,zn 18 17,zm 3 18]) (.seq (.reg [zm 19 3,zq 20 (.mks 1 1 8 (.int .i64 0) (.t 19) (.t 19)),zq 4 (.alc 2 1 .nils),zs 1 4 20]) (.seq (.reg [zm 21 3,zq 22 (.mks 3 1 24 .nils (.t 21) (.t 21)),zq 5 (.alc 4 1 .nils),zs 1 5 22]) (.seq (.reg [zm 23 3,zq 24 (.mks 5 1 24 .nils (.t 23) (.t 23)),zm 6 24]) (.seq (.reg [zq 7 (.alc 6 1 .nils)]) (.seq (.seq (.reg [zf 25 1 1,zl 26 1 25,zn 27 26,zk 28 0]) (.blk 0 (Qj))) (.seq (.reg [zq 79 (.mkf Ca [.t 1,.t 5,.t 4,.t 7]),zm 12 79]) (.seq (.seq (.reg [zk 13 0]) (.blk 4 (Px))) (.seq (.reg [zl 105 1 7,zm 2 105]) (.ret))))))))))
def TG:List Nat:=[1,20,4,22,5,24,7,9,43,53,54,74,75,15]
def Dg:IF:=⟨1,106,14,Mz,[(2,none)],true,true,false⟩
def Nr:C:=.seq (.reg [zk 2 0]) (.seq (.seq (.reg [zm 3 0,zq 4 (.bin .geq (.t 3) (.c (.int .u32 65536)))]) (.cond (.t 4) (.seq (.reg [zm 5 0,zq 6 (.bin .shr (.t 5) (.c (.int .u64 16))),zm 0 6]) (.reg [zk 2 16])) (.skip))) (.seq (.seq (.reg [zm 7 0,zq 8 (.bin .geq (.t 7) (.c (.int .u32 256)))]) (.cond (.t 8) (.seq (.reg [zm 9 0,zq 10 (.bin .shr (.t 9) (.c (.int .u64 8))),zm 0 10]) (.reg [zm 11 2,za 12 11 8,zm 2 12])) (.skip))) (.seq (.reg [zm 13 2,zm 14 0,zq 15 (.cvi .u8 (.t 14)),⟨some 16,.idx (.c (.str ⟨#[0,1,2,2,3,3,3,3,4,4,4,4,4,4,4,4,5,5,5,5,5,5,5,5,5,5,5,5,5,5,5,5,6,6,6,6,6,6,6,6,6,6,6,6,6,6,6,6,6,6,6,6,6,6,6,6,6,6,6,6,6,6,6,6,7,7,7,7,7,7,7,7,7,7,7,7,7,7,7,7,7,7,7,7,7,7,7,7,7,7,7,7,7,7,7,7,7,7,7,7,7,7,7,7,7,7,7,7,7,7,7,7,7,7,7,7,7,7,7,7,7,7,7,7,7,7,7,7,8,8,8,8,8,8,8,8,8,8,8,8,8,8,8,8,8,8,8,8,8,8,8,8,8,8,8,8,8,8,8,8,8,8,8,8,8,8,8,8,8,8,8,8,8,8,8,8,8,8,8,8,8,8,8,8,8,8,8,8,8,8,8,8,8,8,8,8,8,8,8,8,8,8,8,8,8,8,8,8,8,8,8,8,8,8,8,8,8,8,8,8,8,8,8,8,8,8,8,8,8,8,8,8,8,8,8,8,8,8,8,8,8,8,8,8,8,8,8,8,8,8,8,8,8,8,8,8]⟩)) (.t 15),none⟩,zq 17 (.cvi .i64 (.t 16)),zb 18 .add 13 17,zm 2 18]) (.ret))))
def NB:List Nat:=[]
def BJ:IF:=⟨1,19,0,Nr,[(2,none)],true,false,false⟩
def NN:C:=.seq (.reg [zk 2 0]) (.seq (.seq (.reg [zm 3 0,zq 4 (.bin .geq (.t 3) (.c (.int .u64 4294967296)))]) (.cond (.t 4) (.seq (.reg [zm 5 0,zq 6 (.bin .shr (.t 5) (.c (.int .u64 32))),zm 0 6]) (.reg [zk 2 32])) (.skip))) (.seq (.seq (.reg [zm 7 0,zq 8 (.bin .geq (.t 7) (.c (.int .u64 65536)))]) (.cond (.t 8) (.seq (.reg [zm 9 0,zq 10 (.bin .shr (.t 9) (.c (.int .u64 16))),zm 0 10]) (.reg [zm 11 2,za 12 11 16,zm 2 12])) (.skip))) (.seq (.seq (.reg [zm 13 0,zq 14 (.bin .geq (.t 13) (.c (.int .u64 256)))]) (.cond (.t 14) (.seq (.reg [zm 15 0,zq 16 (.bin .shr (.t 15) (.c (.int .u64 8))),zm 0 16]) (.reg [zm 17 2,za 18 17 8,zm 2 18])) (.skip))) (.seq (.reg [zm 19 2,zm 20 0,zq 21 (.cvi .u8 (.t 20)),⟨some 22,.idx (.c (.str ⟨#[0,1,2,2,3,3,3,3,4,4,4,4,4,4,4,4,5,5,5,5,5,5,5,5,5,5,5,5,5,5,5,5,6,6,6,6,6,6,6,6,6,6,6,6,6,6,6,6,6,6,6,6,6,6,6,6,6,6,6,6,6,6,6,6,7,7,7,7,7,7,7,7,7,7,7,7,7,7,7,7,7,7,7,7,7,7,7,7,7,7,7,7,7,7,7,7,7,7,7,7,7,7,7,7,7,7,7,7,7,7,7,7,7,7,7,7,7,7,7,7,7,7,7,7,7,7,7,7,8,8,8,8,8,8,8,8,8,8,8,8,8,8,8,8,8,8,8,8,8,8,8,8,8,8,8,8,8,8,8,8,8,8,8,8,8,8,8,8,8,8,8,8,8,8,8,8,8,8,8,8,8,8,8,8,8,8,8,8,8,8,8,8,8,8,8,8,8,8,8,8,8,8,8,8,8,8,8,8,8,8,8,8,8,8,8,8,8,8,8,8,8,8,8,8,8,8,8,8,8,8,8,8,8,8,8,8,8,8,8,8,8,8,8,8,8,8,8,8,8,8,8,8,8,8,8,8]⟩)) (.t 21),none⟩,zq 23 (.cvi .i64 (.t 22)),zb 24 .add 19 23,zm 2 24]) (.ret)))))
def N5:List Nat:=[]
def BG:IF:=⟨1,25,0,NN,[(2,none)],true,false,false⟩
def Oy:C:=.seq (.reg [zo 2 false]) (.seq (.reg [zm 3 0,zm 4 0,zb 5 .neq 3 4,zm 2 5]) (.ret))
def OK:List Nat:=[]
def BT:IF:=⟨1,6,0,Oy,[(2,none)],true,false,false⟩
def DH:C:=.loop (rest 49 [0,1,2,6,7]) [] (.seq (.seq (.drw [zm 16 7,zm 17 1,zb 18 .gtr 16 17,zm 19 18,zmg 20 0 19 true,zmg 21 7 19 true,zg 22 (.iad 1 (.t 20) (.t 21)) 19 true,zlg 23 1 22 19 true,zmg 24 0 19 true,zmg 25 7 19 true,zg 26 (.bin .sub (.t 25) (.c (.int .i64 1))) 19 true,zg 27 (.iad 1 (.t 24) (.t 26)) 19 true,zlg 28 1 27 19 true,zg 29 (.call Ai [.t 23,.t 28] []) 19 true,zu 30 19 29] []) (.cond (.t 30) (.skip) (.exit 2))) (.seq (.blk 3 (.drw [zm 33 0,zm 34 7,zm 35 0,zm 36 7,zq 37 (.bin .sub (.t 36) (.c (.int .i64 1))),zm 38 0,zm 39 7,zq 40 (.bin .sub (.t 39) (.c (.int .i64 1))),zi 41 1 38 40,zl 42 1 41,zm 43 0,zm 44 7,zi 45 1 43 44,zl 46 1 45,zi 47 1 33 34,zs 1 47 42,zi 48 1 35 37,zs 1 48 46] [])) (.reg [zm 31 7,zq 32 (.bin .sub (.t 31) (.c (.int .i64 1))),zm 7 32])))
def DF:C:=.loop (rest 49 [0,1,2,6]) [] (.seq (.seq (.reg [zm 10 6,zm 11 2,zb 12 .lss 10 11]) (.cond (.t 12) (.skip) (.exit 0))) (.seq (.blk 1 (.seq (.reg [zm 15 6,zm 7 15]) (.blk 2 (DH)))) (.reg [zm 13 6,za 14 13 1,zm 6 14])))
def Es:C:=.seq (.reg [zm 8 1,za 9 8 1,zm 6 9]) (.blk 0 (DF))
def Er:List Nat:=[]
def Aq:IF:=⟨3,49,0,Es,[],false,false,false⟩
def FM:C:=.loop (rest 56 [0,6,7,8,9]) [] (.seq (.seq (.reg [zm 18 9,zq 19 (.bin .geq (.t 18) (.c (.int .i64 0)))]) (.cond (.t 19) (.skip) (.exit 0))) (.seq (.blk 1 (.reg [zm 22 0,zm 23 9,zm 24 8,zm 25 6,zq 26 (.call A5 [.t 22,.t 23,.t 24,.t 25] [])])) (.reg [zm 20 9,zq 21 (.bin .sub (.t 20) (.c (.int .i64 1))),zm 9 21])))
def Fy:C:=.loop (rest 56 [0,6,7,10]) [] (.seq (.seq (.reg [zm 29 10,zq 30 (.bin .geq (.t 29) (.c (.int .i64 0)))]) (.cond (.t 30) (.skip) (.exit 2))) (.seq (.blk 3 (.seq (.drw [zm 33 0,zm 34 6,zm 35 0,zm 36 6,zm 37 10,zb 38 .add 36 37,zm 39 0,zm 40 6,zm 41 10,zb 42 .add 40 41,zi 43 1 39 42,zl 44 1 43,zm 45 0,zm 46 6,zi 47 1 45 46,zl 48 1 47,zi 49 1 33 34,zs 1 49 44,zi 50 1 35 38,zs 1 50 48] []) (.reg [zm 51 0,zm 52 7,zm 53 10,zm 54 6,zq 55 (.call A5 [.t 51,.t 52,.t 53,.t 54] [])]))) (.reg [zm 31 10,zq 32 (.bin .sub (.t 31) (.c (.int .i64 1))),zm 10 32])))
def F4:C:=.seq (.reg [zm 11 1,zm 6 11]) (.seq (.reg [zk 7 0]) (.seq (.reg [zm 12 2,zm 13 1,zb 14 .sub 12 13,zm 8 14]) (.seq (.seq (.reg [zm 15 8,zq 16 (.bin .sub (.t 15) (.c (.int .i64 1))),zq 17 (.bin .quo (.t 16) (.c (.int .i64 2))),zm 9 17]) (.blk 0 (FM))) (.seq (.reg [zm 27 8,zq 28 (.bin .sub (.t 27) (.c (.int .i64 1))),zm 10 28]) (.blk 2 (Fy))))))
def FZ:List Nat:=[]
def AD:IF:=⟨3,56,0,F4,[],false,false,false⟩
def DA:C:=.loop (rest 65 [0,1,6,7,8,9]) [] (.seq (.seq (.reg [zm 26 9,zm 27 1,zm 28 6,zq 29 (.bin .quo (.t 28) (.c (.int .i64 4))),zq 30 (.bin .mul (.t 29) (.c (.int .i64 2))),zb 31 .add 27 30,za 32 31 1,zb 33 .leq 26 32]) (.cond (.t 33) (.skip) (.exit 0))) (.seq (.blk 1 (.seq (.reg [zq 36 (.call B0 [.t 7] []),zm 37 8,zq 38 (.bin .sub (.t 37) (.c (.int .u64 1))),zb 39 .and 36 38,zq 40 (.cvi .i64 (.t 39)),zm 10 40]) (.seq (.seq (.reg [zm 41 10,zm 42 6,zb 43 .geq 41 42]) (.cond (.t 43) (.reg [zm 44 10,zm 45 6,zb 46 .sub 44 45,zm 10 46]) (.skip))) (.drw [zm 47 0,zm 48 9,zm 49 0,zm 50 1,zm 51 10,zb 52 .add 50 51,zm 53 0,zm 54 1,zm 55 10,zb 56 .add 54 55,zi 57 1 53 56,zl 58 1 57,zm 59 0,zm 60 9,zi 61 1 59 60,zl 62 1 61,zi 63 1 47 48,zs 1 63 58,zi 64 1 49 52,zs 1 64 62] [])))) (.reg [zm 34 9,za 35 34 1,zm 9 35])))
def Eq:C:=.seq (.reg [zm 11 2,zm 12 1,zb 13 .sub 11 12,zm 6 13]) (.seq (.reg [zm 14 6,zq 15 (.bin .geq (.t 14) (.c (.int .i64 8)))]) (.cond (.t 15) (.seq (.reg [zm 16 6,zq 17 (.cvi .u64 (.t 16)),zq 7 (.alc 0 1 (.int .u64 0)),zs 1 7 17]) (.seq (.reg [zm 18 6,zq 19 (.call Bz [.t 18] []),zm 8 19]) (.seq (.reg [zm 20 1,zm 21 6,zq 22 (.bin .quo (.t 21) (.c (.int .i64 4))),zq 23 (.bin .mul (.t 22) (.c (.int .i64 2))),zb 24 .add 20 23,zq 25 (.bin .sub (.t 24) (.c (.int .i64 1))),zm 9 25]) (.blk 0 (DA))))) (.skip)))
def Eo:List Nat:=[7]
def Ar:IF:=⟨3,65,1,Eq,[],false,false,false⟩
def EU:C:=.seq (.reg [zk 6 0,zk 7 0]) (.seq (.reg [zm 13 2,zm 14 1,zb 15 .sub 13 14,zm 8 15]) (.seq (.reg [zq 9 (.alc 0 1 (.int .i64 0))]) (.seq (.reg [zm 16 1,zm 17 8,zq 18 (.bin .quo (.t 17) (.c (.int .i64 4))),zq 19 (.bin .mul (.t 18) (.c (.int .i64 1))),zb 20 .add 16 19,zm 10 20]) (.seq (.reg [zm 21 1,zm 22 8,zq 23 (.bin .quo (.t 22) (.c (.int .i64 4))),zq 24 (.bin .mul (.t 23) (.c (.int .i64 2))),zb 25 .add 21 24,zm 11 25]) (.seq (.reg [zm 26 1,zm 27 8,zq 28 (.bin .quo (.t 27) (.c (.int .i64 4))),zq 29 (.bin .mul (.t 28) (.c (.int .i64 3))),zb 30 .add 26 29,zm 12 30]) (.seq (.seq (.reg [zm 31 8,zq 32 (.bin .geq (.t 31) (.c (.int .i64 8)))]) (.cond (.t 32) (.seq (.seq (.reg [zm 33 8,zq 34 (.bin .geq (.t 33) (.c (.int .i64 50)))]) (.cond (.t 34) (.seq (.reg [zm 35 0,zm 36 10,zq 37 (.call Ap [.t 35,.t 36,.t 9] []),zm 10 37]) (.seq (.reg [zm 38 0,zm 39 11,zq 40 (.call Ap [.t 38,.t 39,.t 9] []),zm 11 40]) (.reg [zm 41 0,zm 42 12,zq 43 (.call Ap [.t 41,.t 42,.t 9] []),zm 12 43]))) (.skip))) (.reg [zm 44 0,zm 45 10,zm 46 11,zm 47 12,zq 48 (.call Bh [.t 44,.t 45,.t 46,.t 47,.t 9] []),zm 11 48])) (.skip))) (.seq (.reg [zl 49 1 9]) (.blk 0 (.seq (.reg [zq 52 (.bin .eql (.t 49) (.c (.int .i64 0))),zm 51 52]) (.cond (.t 51) (.seq (.reg [zm 53 11,zm 6 53,zk 7 1]) (.ret)) (.seq (.reg [zq 55 (.bin .eql (.t 49) (.c (.int .i64 12))),zm 54 55]) (.cond (.t 54) (.seq (.reg [zm 56 11,zm 6 56,zk 7 2]) (.ret)) (.seq (.reg [zm 50 11,zm 6 50,zk 7 0]) (.ret))))))))))))))
def ET:List Nat:=[9]
def Al:IF:=⟨3,57,1,EU,[(6,none),(7,none)],true,false,false⟩
def DS:C:=.loop (rest 32 [0,6,7]) [] (.seq (.seq (.reg [zm 11 6,zm 12 7,zb 13 .lss 11 12]) (.cond (.t 13) (.skip) (.exit 0))) (.blk 1 (.seq (.drw [zm 14 0,zm 15 6,zm 16 0,zm 17 7,zm 18 0,zm 19 7,zi 20 1 18 19,zl 21 1 20,zm 22 0,zm 23 6,zi 24 1 22 23,zl 25 1 24,zi 26 1 14 15,zs 1 26 21,zi 27 1 16 17,zs 1 27 25] []) (.seq (.reg [zm 28 6,za 29 28 1,zm 6 29]) (.reg [zm 30 7,zq 31 (.bin .sub (.t 30) (.c (.int .i64 1))),zm 7 31])))))
def ER:C:=.seq (.reg [zm 8 1,zm 6 8]) (.seq (.reg [zm 9 2,zq 10 (.bin .sub (.t 9) (.c (.int .i64 1))),zm 7 10]) (.blk 0 (DS)))
def EG:List Nat:=[]
def As:IF:=⟨3,32,0,ER,[],false,false,false⟩
def Cw:C:=.loop (rest 133 [0,1,2,7,8]) [] (.seq (.seq (.drw [zm 17 7,zm 18 2,zb 19 .lss 17 18,zm 20 19,zmg 21 0 20 true,zmg 22 7 20 true,zg 23 (.iad 1 (.t 21) (.t 22)) 20 true,zlg 24 1 23 20 true,zmg 25 0 20 true,zmg 26 7 20 true,zg 27 (.bin .sub (.t 26) (.c (.int .i64 1))) 20 true,zg 28 (.iad 1 (.t 25) (.t 27)) 20 true,zlg 29 1 28 20 true,zg 30 (.call Ai [.t 24,.t 29] []) 20 true,zg 31 (.un .not (.t 30)) 20 true,zu 32 20 31] []) (.cond (.t 32) (.skip) (.exit 2))) (.blk 3 (.reg [zm 33 7,za 34 33 1,zm 7 34])))
def Cy:C:=.loop (rest 133 [0,1,2,7,8,9]) [] (.seq (.seq (.reg [zm 64 9,zq 65 (.bin .geq (.t 64) (.c (.int .i64 1)))]) (.cond (.t 65) (.skip) (.exit 4))) (.seq (.blk 5 (.seq (.seq (.drw [zm 68 0,zm 69 9,zi 70 1 68 69,zl 71 1 70,zm 72 0,zm 73 9,zq 74 (.bin .sub (.t 73) (.c (.int .i64 1))),zi 75 1 72 74,zl 76 1 75,zq 77 (.call Ai [.t 71,.t 76] []),zq 78 (.un .not (.t 77))] []) (.cond (.t 78) (.exit 4) (.skip))) (.drw [zm 79 0,zm 80 9,zm 81 0,zm 82 9,zq 83 (.bin .sub (.t 82) (.c (.int .i64 1))),zm 84 0,zm 85 9,zq 86 (.bin .sub (.t 85) (.c (.int .i64 1))),zi 87 1 84 86,zl 88 1 87,zm 89 0,zm 90 9,zi 91 1 89 90,zl 92 1 91,zi 93 1 79 80,zs 1 93 88,zi 94 1 81 83,zs 1 94 92] []))) (.reg [zm 66 9,zq 67 (.bin .sub (.t 66) (.c (.int .i64 1))),zm 9 67])))
def CA:C:=.loop (rest 133 [0,1,2,7,8,10]) [] (.seq (.seq (.reg [zm 101 10,zm 102 2,zb 103 .lss 101 102]) (.cond (.t 103) (.skip) (.exit 6))) (.seq (.blk 7 (.seq (.seq (.drw [zm 106 0,zm 107 10,zi 108 1 106 107,zl 109 1 108,zm 110 0,zm 111 10,zq 112 (.bin .sub (.t 111) (.c (.int .i64 1))),zi 113 1 110 112,zl 114 1 113,zq 115 (.call Ai [.t 109,.t 114] []),zq 116 (.un .not (.t 115))] []) (.cond (.t 116) (.exit 6) (.skip))) (.drw [zm 117 0,zm 118 10,zm 119 0,zm 120 10,zq 121 (.bin .sub (.t 120) (.c (.int .i64 1))),zm 122 0,zm 123 10,zq 124 (.bin .sub (.t 123) (.c (.int .i64 1))),zi 125 1 122 124,zl 126 1 125,zm 127 0,zm 128 10,zi 129 1 127 128,zl 130 1 129,zi 131 1 117 118,zs 1 131 126,zi 132 1 119 121,zs 1 132 130] []))) (.reg [zm 104 10,za 105 104 1,zm 10 105])))
def Cz:C:=.loop (rest 133 [0,1,2,7,8]) [] (.seq (.seq (.reg [zm 13 8,zq 14 (.bin .lss (.t 13) (.c (.int .i64 5)))]) (.cond (.t 14) (.skip) (.exit 0))) (.seq (.blk 1 (.seq (.blk 2 (Cw)) (.seq (.seq (.reg [zm 35 7,zm 36 2,zb 37 .eql 35 36]) (.cond (.t 37) (.seq (.reg [zo 6 true]) (.ret)) (.skip))) (.seq (.seq (.reg [zm 38 2,zm 39 1,zb 40 .sub 38 39,zq 41 (.bin .lss (.t 40) (.c (.int .i64 50)))]) (.cond (.t 41) (.seq (.reg [zo 6 false]) (.ret)) (.skip))) (.seq (.drw [zm 42 0,zm 43 7,zm 44 0,zm 45 7,zq 46 (.bin .sub (.t 45) (.c (.int .i64 1))),zm 47 0,zm 48 7,zq 49 (.bin .sub (.t 48) (.c (.int .i64 1))),zi 50 1 47 49,zl 51 1 50,zm 52 0,zm 53 7,zi 54 1 52 53,zl 55 1 54,zi 56 1 42 43,zs 1 56 51,zi 57 1 44 46,zs 1 57 55] []) (.seq (.seq (.reg [zm 58 7,zm 59 1,zb 60 .sub 58 59,zq 61 (.bin .geq (.t 60) (.c (.int .i64 2)))]) (.cond (.t 61) (.seq (.reg [zm 62 7,zq 63 (.bin .sub (.t 62) (.c (.int .i64 1))),zm 9 63]) (.blk 4 (Cy))) (.skip))) (.seq (.reg [zm 95 2,zm 96 7,zb 97 .sub 95 96,zq 98 (.bin .geq (.t 97) (.c (.int .i64 2)))]) (.cond (.t 98) (.seq (.reg [zm 99 7,za 100 99 1,zm 10 100]) (.blk 6 (CA))) (.skip))))))))) (.reg [zm 15 8,za 16 15 1,zm 8 16])))
def CM:C:=.seq (.reg [zo 6 false]) (.seq (.reg [zm 11 1,za 12 11 1,zm 7 12]) (.seq (.seq (.reg [zk 8 0]) (.blk 0 (Cz))) (.seq (.reg [zo 6 false]) (.ret))))
def CL:List Nat:=[]
def Aj:IF:=⟨3,133,0,CM,[(6,none)],false,false,false⟩
def Dx:C:=.loop (rest 84 [0,1,9,10]) [] (.seq (.seq (.drw [zm 29 9,zm 30 10,zb 31 .leq 29 30,zm 32 31,zmg 33 0 32 true,zmg 34 1 32 true,zg 35 (.iad 1 (.t 33) (.t 34)) 32 true,zlg 36 1 35 32 true,zmg 37 0 32 true,zmg 38 9 32 true,zg 39 (.iad 1 (.t 37) (.t 38)) 32 true,zlg 40 1 39 32 true,zg 41 (.call Ai [.t 36,.t 40] []) 32 true,zg 42 (.un .not (.t 41)) 32 true,zu 43 32 42] []) (.cond (.t 43) (.skip) (.exit 2))) (.blk 3 (.reg [zm 44 9,za 45 44 1,zm 9 45])))
def Dv:C:=.loop (rest 84 [0,1,9,10]) [] (.seq (.seq (.drw [zm 46 9,zm 47 10,zb 48 .leq 46 47,zm 49 48,zmg 50 0 49 true,zmg 51 1 49 true,zg 52 (.iad 1 (.t 50) (.t 51)) 49 true,zlg 53 1 52 49 true,zmg 54 0 49 true,zmg 55 10 49 true,zg 56 (.iad 1 (.t 54) (.t 55)) 49 true,zlg 57 1 56 49 true,zg 58 (.call Ai [.t 53,.t 57] []) 49 true,zu 59 49 58] []) (.cond (.t 59) (.skip) (.exit 4))) (.blk 5 (.reg [zm 60 10,zq 61 (.bin .sub (.t 60) (.c (.int .i64 1))),zm 10 61])))
def Dw:C:=.loop (rest 84 [0,1,9,10]) [] (.blk 1 (.seq (.blk 2 (Dx)) (.seq (.blk 4 (Dv)) (.seq (.seq (.reg [zm 62 9,zm 63 10,zb 64 .gtr 62 63]) (.cond (.t 64) (.exit 0) (.skip))) (.seq (.drw [zm 65 0,zm 66 9,zm 67 0,zm 68 10,zm 69 0,zm 70 10,zi 71 1 69 70,zl 72 1 71,zm 73 0,zm 74 9,zi 75 1 73 74,zl 76 1 75,zi 77 1 65 66,zs 1 77 72,zi 78 1 67 68,zs 1 78 76] []) (.seq (.reg [zm 79 9,za 80 79 1,zm 9 80]) (.reg [zm 81 10,zq 82 (.bin .sub (.t 81) (.c (.int .i64 1))),zm 10 82])))))))
def DQ:C:=.seq (.reg [zk 8 0]) (.seq (.drw [zm 11 0,zm 12 1,zm 13 0,zm 14 3,zm 15 0,zm 16 3,zi 17 1 15 16,zl 18 1 17,zm 19 0,zm 20 1,zi 21 1 19 20,zl 22 1 21,zi 23 1 11 12,zs 1 23 18,zi 24 1 13 14,zs 1 24 22] []) (.seq (.reg [zm 25 1,za 26 25 1,zm 27 2,zq 28 (.bin .sub (.t 27) (.c (.int .i64 1))),zm 9 26,zm 10 28]) (.seq (.blk 0 (Dw)) (.seq (.reg [zm 83 9,zm 8 83]) (.ret)))))
def DT:List Nat:=[]
def An:IF:=⟨4,84,0,DQ,[(8,none)],false,false,false⟩
def EZ:C:=.loop (rest 168 [0,1,10,11]) [] (.seq (.seq (.drw [zm 30 10,zm 31 11,zb 32 .leq 30 31,zm 33 32,zmg 34 0 33 true,zmg 35 10 33 true,zg 36 (.iad 1 (.t 34) (.t 35)) 33 true,zlg 37 1 36 33 true,zmg 38 0 33 true,zmg 39 1 33 true,zg 40 (.iad 1 (.t 38) (.t 39)) 33 true,zlg 41 1 40 33 true,zg 42 (.call Ai [.t 37,.t 41] []) 33 true,zu 43 33 42] []) (.cond (.t 43) (.skip) (.exit 0))) (.blk 1 (.reg [zm 44 10,za 45 44 1,zm 10 45])))
def EY:C:=.loop (rest 168 [0,1,10,11]) [] (.seq (.seq (.drw [zm 46 10,zm 47 11,zb 48 .leq 46 47,zm 49 48,zmg 50 0 49 true,zmg 51 11 49 true,zg 52 (.iad 1 (.t 50) (.t 51)) 49 true,zlg 53 1 52 49 true,zmg 54 0 49 true,zmg 55 1 49 true,zg 56 (.iad 1 (.t 54) (.t 55)) 49 true,zlg 57 1 56 49 true,zg 58 (.call Ai [.t 53,.t 57] []) 49 true,zg 59 (.un .not (.t 58)) 49 true,zu 60 49 59] []) (.cond (.t 60) (.skip) (.exit 2))) (.blk 3 (.reg [zm 61 11,zq 62 (.bin .sub (.t 61) (.c (.int .i64 1))),zm 11 62])))
def EV:C:=.loop (rest 168 [0,1,10,11]) [] (.seq (.seq (.drw [zm 99 10,zm 100 11,zb 101 .leq 99 100,zm 102 101,zmg 103 0 102 true,zmg 104 10 102 true,zg 105 (.iad 1 (.t 103) (.t 104)) 102 true,zlg 106 1 105 102 true,zmg 107 0 102 true,zmg 108 1 102 true,zg 109 (.iad 1 (.t 107) (.t 108)) 102 true,zlg 110 1 109 102 true,zg 111 (.call Ai [.t 106,.t 110] []) 102 true,zu 112 102 111] []) (.cond (.t 112) (.skip) (.exit 6))) (.blk 7 (.reg [zm 113 10,za 114 113 1,zm 10 114])))
def EX:C:=.loop (rest 168 [0,1,10,11]) [] (.seq (.seq (.drw [zm 115 10,zm 116 11,zb 117 .leq 115 116,zm 118 117,zmg 119 0 118 true,zmg 120 11 118 true,zg 121 (.iad 1 (.t 119) (.t 120)) 118 true,zlg 122 1 121 118 true,zmg 123 0 118 true,zmg 124 1 118 true,zg 125 (.iad 1 (.t 123) (.t 124)) 118 true,zlg 126 1 125 118 true,zg 127 (.call Ai [.t 122,.t 126] []) 118 true,zg 128 (.un .not (.t 127)) 118 true,zu 129 118 128] []) (.cond (.t 129) (.skip) (.exit 8))) (.blk 9 (.reg [zm 130 11,zq 131 (.bin .sub (.t 130) (.c (.int .i64 1))),zm 11 131])))
def EW:C:=.loop (rest 168 [0,1,10,11]) [] (.blk 5 (.seq (.blk 6 (EV)) (.seq (.blk 8 (EX)) (.seq (.seq (.reg [zm 132 10,zm 133 11,zb 134 .gtr 132 133]) (.cond (.t 134) (.exit 4) (.skip))) (.seq (.drw [zm 135 0,zm 136 10,zm 137 0,zm 138 11,zm 139 0,zm 140 11,zi 141 1 139 140,zl 142 1 141,zm 143 0,zm 144 10,zi 145 1 143 144,zl 146 1 145,zi 147 1 135 136,zs 1 147 142,zi 148 1 137 138,zs 1 148 146] []) (.seq (.reg [zm 149 10,za 150 149 1,zm 10 150]) (.reg [zm 151 11,zq 152 (.bin .sub (.t 151) (.c (.int .i64 1))),zm 11 152])))))))
def FT:C:=.seq (.reg [zk 8 0,zo 9 false]) (.seq (.drw [zm 12 0,zm 13 1,zm 14 0,zm 15 3,zm 16 0,zm 17 3,zi 18 1 16 17,zl 19 1 18,zm 20 0,zm 21 1,zi 22 1 20 21,zl 23 1 22,zi 24 1 12 13,zs 1 24 19,zi 25 1 14 15,zs 1 25 23] []) (.seq (.reg [zm 26 1,za 27 26 1,zm 28 2,zq 29 (.bin .sub (.t 28) (.c (.int .i64 1))),zm 10 27,zm 11 29]) (.seq (.blk 0 (EZ)) (.seq (.blk 2 (EY)) (.seq (.seq (.reg [zm 63 10,zm 64 11,zb 65 .gtr 63 64]) (.cond (.t 65) (.seq (.drw [zm 66 0,zm 67 11,zm 68 0,zm 69 1,zm 70 0,zm 71 1,zi 72 1 70 71,zl 73 1 72,zm 74 0,zm 75 11,zi 76 1 74 75,zl 77 1 76,zi 78 1 66 67,zs 1 78 73,zi 79 1 68 69,zs 1 79 77] []) (.seq (.reg [zm 80 11,zm 8 80,zo 9 true]) (.ret))) (.skip))) (.seq (.drw [zm 81 0,zm 82 10,zm 83 0,zm 84 11,zm 85 0,zm 86 11,zi 87 1 85 86,zl 88 1 87,zm 89 0,zm 90 10,zi 91 1 89 90,zl 92 1 91,zi 93 1 81 82,zs 1 93 88,zi 94 1 83 84,zs 1 94 92] []) (.seq (.reg [zm 95 10,za 96 95 1,zm 10 96]) (.seq (.reg [zm 97 11,zq 98 (.bin .sub (.t 97) (.c (.int .i64 1))),zm 11 98]) (.seq (.blk 4 (EW)) (.seq (.drw [zm 153 0,zm 154 11,zm 155 0,zm 156 1,zm 157 0,zm 158 1,zi 159 1 157 158,zl 160 1 159,zm 161 0,zm 162 11,zi 163 1 161 162,zl 164 1 163,zi 165 1 153 154,zs 1 165 160,zi 166 1 155 156,zs 1 166 164] []) (.seq (.reg [zm 167 11,zm 8 167,zo 9 false]) (.ret))))))))))))
def FV:List Nat:=[]
def Ay:IF:=⟨4,168,0,FT,[(8,none),(9,none)],false,false,false⟩
def Uf:C:=.loop (rest 20 [3,8,9,10]) [] (.seq (.reg [zb 11 .lss 10 9]) (.seq (.cond (.t 11) (.skip) (.exit 0)) (.seq (.blk 1 (.seq (.reg [zi 12 1 8 10,zl 13 1 12,zm 6 13]) (.seq (.reg [zf 14 0 3,zl 15 1 14,zm 16 6,zq 17 (.call Kj [.t 15,.t 16] []),zq 18 (.un .not (.t 17))]) (.cond (.t 18) (.seq (.reg [zo 4 true]) (.ret)) (.skip))))) (.reg [za 19 10 1,zm 10 19]))))
def QL:C:=.seq (.reg [zq 2 (.box 0 2 (.t 0)),zq 3 (.box 1 2 (.t 1)),zo 4 false]) (.seq (.seq (.reg [zf 7 0 2,zl 8 1 7,zn 9 8,zk 10 0]) (.blk 0 (Uf))) (.seq (.reg [zo 4 false]) (.ret)))
def XY:List Nat:=[2,3]
def FB:IF:=⟨2,20,2,QL,[(4,none)],true,false,false⟩
def NY:C:=.loop (rest 59 [0,1,3,4,5,15,16,17]) [0,1] (.seq (.reg [zb 18 .lss 17 16]) (.seq (.cond (.t 18) (.skip) (.exit 0)) (.seq (.blk 1 (.seq (.reg [zm 19 17,zi 20 1 15 17,zl 21 1 20,zm 8 19,zm 9 21]) (.seq (.reg [zm 22 9,zm 23 1,zb 24 .shr 22 23,zq 25 (.bin .and (.t 24) (.c (.int .i64 1))),zq 26 (.bin .eql (.t 25) (.c (.int .i64 1))),zm 27 26,zlg 28 1 3 27 true,zmg 29 0 27 true,zg 30 (.iad 1 (.t 28) (.t 29)) 27 true,zlg 31 1 30 27 true,zmg 32 8 27 true,zg 33 (.iad 1 (.t 31) (.t 32)) 27 true,zlg 34 1 33 27 true,zg 35 (.un .not (.t 34)) 27 true,zu 36 27 35]) (.cond (.t 36) (.seq (.reg [zl 37 1 3,zm 38 0,zi 39 1 37 38,zl 40 1 39,zm 41 8,zi 42 1 40 41,zr (.sto 1 (.t 42) (.c (.bool true)))]) (.seq (.reg [zl 43 1 4,zm 44 0,zi 45 1 43 44,zl 46 1 45,zq 47 (.bin .sub (.t 46) (.c (.int .i64 1))),zi 48 1 43 44,zs 1 48 47]) (.seq (.reg [zl 49 1 4,zm 50 0,zi 51 1 49 50,zl 52 1 51,zq 53 (.bin .eql (.t 52) (.c (.int .i64 0)))]) (.cond (.t 53) (.reg [zl 54 1 5,zm 55 0,zq 56 (.bsl 0 1 1 [.t 55]),zq 57 (.app 1 1 8 (.t 54) (.t 56)),zs 1 5 57]) (.skip))))) (.skip))))) (.reg [za 58 17 1,zm 17 58]))))
def K2:C:=.seq (.reg [zf 10 1 2,zl 11 1 10,zm 12 0,zi 13 2 11 12,zf 14 0 13,zl 15 1 14,zn 16 15,zk 17 0]) (.blk 0 (NY))
def Qh:List Nat:=[56,57]
def CU:IF:=⟨6,59,2,K2,[],false,false,false⟩
def Kt:C:=.seq (.reg [zq 2 (.mov (.c (.int .u64 0)))]) (.seq (.reg [zm 3 0,zq 4 (.cvi .u64 (.t 3)),zq 5 (.call CY [.t 4] []),zq 6 (.bin .shl (.c (.int .u64 1)) (.t 5)),zm 2 6]) (.ret))
def Ko:List Nat:=[]
def AW:IF:=⟨1,7,0,Kt,[(2,none)],true,false,false⟩
def JO:C:=.seq (.reg [zq 2 (.mov (.c (.int .u64 0)))]) (.seq (.drw [zm 3 0,zf 4 0 3,zl 5 1 4,zm 6 0,zf 7 0 6,zl 8 1 7,zq 9 (.bin .shl (.t 8) (.c (.int .u64 13))),zb 10 .xor 5 9,zf 11 0 3,zs 1 11 10] []) (.seq (.drw [zm 12 0,zf 13 0 12,zl 14 1 13,zm 15 0,zf 16 0 15,zl 17 1 16,zq 18 (.bin .shr (.t 17) (.c (.int .u64 7))),zb 19 .xor 14 18,zf 20 0 12,zs 1 20 19] []) (.seq (.drw [zm 21 0,zf 22 0 21,zl 23 1 22,zm 24 0,zf 25 0 24,zl 26 1 25,zq 27 (.bin .shl (.t 26) (.c (.int .u64 17))),zb 28 .xor 23 27,zf 29 0 21,zs 1 29 28] []) (.seq (.reg [zm 30 0,zf 31 0 30,zl 32 1 31,zm 2 32]) (.ret)))))
def JH:List Nat:=[]
def A0:IF:=⟨1,33,0,JO,[(2,none)],false,false,false⟩
def Fv:C:=.loop (rest 76 [0,2,3,8]) [] (.blk 1 (.seq (.reg [zm 11 8,zq 12 (.bin .mul (.c (.int .i64 2)) (.t 11)),za 13 12 1,zm 9 13]) (.seq (.seq (.reg [zm 14 9,zm 15 2,zb 16 .geq 14 15]) (.cond (.t 16) (.exit 0) (.skip))) (.seq (.seq (.drw [zm 17 9,za 18 17 1,zm 19 2,zb 20 .lss 18 19,zm 21 20,zmg 22 0 21 true,zmg 23 3 21 true,zmg 24 9 21 true,zg 25 (.bin .add (.t 23) (.t 24)) 21 true,zg 26 (.iad 1 (.t 22) (.t 25)) 21 true,zlg 27 1 26 21 true,zmg 28 0 21 true,zmg 29 3 21 true,zmg 30 9 21 true,zg 31 (.bin .add (.t 29) (.t 30)) 21 true,zg 32 (.bin .add (.t 31) (.c (.int .i64 1))) 21 true,zg 33 (.iad 1 (.t 28) (.t 32)) 21 true,zlg 34 1 33 21 true,zg 35 (.call Ai [.t 27,.t 34] []) 21 true,zu 36 21 35] []) (.cond (.t 36) (.reg [zm 37 9,za 38 37 1,zm 9 38]) (.skip))) (.seq (.seq (.drw [zm 39 0,zm 40 3,zm 41 8,zb 42 .add 40 41,zi 43 1 39 42,zl 44 1 43,zm 45 0,zm 46 3,zm 47 9,zb 48 .add 46 47,zi 49 1 45 48,zl 50 1 49,zq 51 (.call Ai [.t 44,.t 50] []),zq 52 (.un .not (.t 51))] []) (.cond (.t 52) (.ret) (.skip))) (.seq (.drw [zm 53 0,zm 54 3,zm 55 8,zb 56 .add 54 55,zm 57 0,zm 58 3,zm 59 9,zb 60 .add 58 59,zm 61 0,zm 62 3,zm 63 9,zb 64 .add 62 63,zi 65 1 61 64,zl 66 1 65,zm 67 0,zm 68 3,zm 69 8,zb 70 .add 68 69,zi 71 1 67 70,zl 72 1 71,zi 73 1 53 56,zs 1 73 66,zi 74 1 57 60,zs 1 74 72] []) (.reg [zm 75 9,zm 8 75])))))))
def Ha:C:=.seq (.reg [zm 10 1,zm 8 10]) (.blk 0 (Fv))
def F9:List Nat:=[]
def AE:IF:=⟨4,76,0,Ha,[],false,false,false⟩
def DN:C:=.seq (.reg [zk 6 0]) (.seq (.reg [zm 7 0,zm 8 1,zq 9 (.bin .sub (.t 8) (.c (.int .i64 1))),zm 10 1,zm 11 1,za 12 11 1,zm 13 2,zq 14 (.call Bh [.t 7,.t 9,.t 10,.t 12,.t 13] []),zm 6 14]) (.ret))
def DX:List Nat:=[]
def Ao:IF:=⟨3,15,0,DN,[(6,none)],false,false,false⟩
def H8:C:=.seq (.reg [zk 10 0]) (.seq (.reg [zm 12 0,zm 13 1,zm 14 2,zm 15 4,zq 16 (.call AS [.t 12,.t 13,.t 14,.t 15] []),zm 11 16,zq 17 (.ext (.t 11) 0),zq 18 (.ext (.t 11) 1),zm 1 17,zm 2 18]) (.seq (.reg [zm 20 0,zm 21 2,zm 22 3,zm 23 4,zq 24 (.call AS [.t 20,.t 21,.t 22,.t 23] []),zm 19 24,zq 25 (.ext (.t 19) 0),zq 26 (.ext (.t 19) 1),zm 2 25,zm 3 26]) (.seq (.reg [zm 28 0,zm 29 1,zm 30 2,zm 31 4,zq 32 (.call AS [.t 28,.t 29,.t 30,.t 31] []),zm 27 32,zq 33 (.ext (.t 27) 0),zq 34 (.ext (.t 27) 1),zm 1 33,zm 2 34]) (.seq (.reg [zm 35 2,zm 10 35]) (.ret)))))
def H4:List Nat:=[]
def AQ:IF:=⟨5,36,0,H8,[(10,none)],false,false,false⟩
def H3:C:=.seq (.reg [zk 8 0,zk 9 0]) (.seq (.seq (.drw [zm 10 0,zm 11 2,zi 12 1 10 11,zl 13 1 12,zm 14 0,zm 15 1,zi 16 1 14 15,zl 17 1 16,zq 18 (.call Ai [.t 13,.t 17] [])] []) (.cond (.t 18) (.seq (.reg [zm 19 3,zf 20 0 19,zl 21 1 20,za 22 21 1,zf 23 0 19,zs 1 23 22]) (.seq (.reg [zm 24 2,zm 25 1,zm 8 24,zm 9 25]) (.ret))) (.skip))) (.seq (.reg [zm 26 1,zm 27 2,zm 8 26,zm 9 27]) (.ret)))
def HO:List Nat:=[]
def AU:IF:=⟨4,28,0,H3,[(8,none),(9,none)],false,false,false⟩
def G:Prg:=fun f=>match f with|5=>some CH|9=>some Fo|10=>some FA|12=>some Hy|14=>some E5|15=>some HA|16=>some Fc|17=>some HD|24=>some HF|25=>some Li|26=>some Hx|27=>some Fb|28=>some FK|29=>some J2|30=>some HL|32=>some CF|37=>some BI|41=>some FL|42=>some D8|43=>some HK|44=>some D3|45=>some Lh|46=>some HI|47=>some HW|48=>some Hz|50=>some Dj|51=>some E6|52=>some HH|53=>some Da|54=>some Hs|55=>some Lj|56=>some JU|57=>some Dt|60=>some CG|61=>some Dh|62=>some FI|63=>some FH|64=>some Ef|65=>some AA|66=>some Dq|67=>some Dd|68=>some Dn|69=>some CJ|70=>some C9|71=>some Dk|72=>some A8|73=>some Bq|74=>some Cl|75=>some Lr|76=>some Di|77=>some AH|78=>some Cd|86=>some Eh|87=>some Fi|88=>some Ea|89=>some Fm|90=>some Ff|91=>some Bl|92=>some En|93=>some E3|94=>some D5|95=>some B6|96=>some Ci|97=>some Ce|98=>some Do|99=>some B2|100=>some HJ|101=>some FJ|104=>some Fx|106=>some A7|107=>some AK|108=>some Em|109=>some JX|110=>some Hw|111=>some D0|112=>some AX|113=>some Av|114=>some Cj|115=>some BS|116=>some AG|117=>some J1|118=>some Ei|127=>some BU|128=>some Bw|129=>some Dp|130=>some C8|131=>some FE|132=>some J7|133=>some Az|134=>some Ek|136=>some HM|137=>some AZ|138=>some B3|139=>some DG|140=>some Cm|148=>some Ck|150=>some AM|151=>some Ft|152=>some B9|153=>some Bp|154=>some DZ|155=>some Bn|156=>some BH|157=>some BF|158=>some Dg|171=>some BJ|172=>some BG|173=>some BT|174=>some Aq|175=>some AD|176=>some Ar|177=>some Al|178=>some As|179=>some Aj|180=>some An|181=>some Ay|182=>some FB|183=>some CU|188=>some AW|189=>some A0|192=>some AE|193=>some Ao|194=>some AQ|204=>some AU|_=>none
theorem QV:G f_w07_MeetOnly=some CH:=rfl
theorem NM:PureF G f_w07_MeetOnly:=⟨CH,rfl,rfl⟩
theorem Xc:G Fa=some Fo:=rfl
theorem Q0:PureF G Fa:=⟨Fo,rfl,rfl⟩
theorem WK:G CV=some FA:=rfl
theorem Rm:PureF G CV:=⟨FA,rfl,rfl⟩
theorem Abq:G f_r07_Meet=some Hy:=rfl
theorem SH:PureF G f_r07_Meet:=⟨Hy,rfl,rfl⟩
theorem Wq:G Fk=some E5:=rfl
theorem Rl:PureF G Fk:=⟨E5,rfl,rfl⟩
theorem Abb:G HE=some HA:=rfl
theorem EJ:PureF G HE:=⟨HA,rfl,rfl⟩
theorem WR:G Fd=some Fc:=rfl
theorem Rs:PureF G Fd:=⟨Fc,rfl,rfl⟩
theorem Nx:G Cg=some HD:=rfl
theorem SC:PureF G Cg:=⟨HD,rfl,rfl⟩
theorem Aa8:G Ht=some HF:=rfl
theorem Uh:PureF G Ht:=⟨HF,rfl,rfl⟩
theorem Afm:G Jw=some Li:=rfl
theorem XD:PureF G Jw:=⟨Li,rfl,rfl⟩
theorem Sc:G Ec=some Hx:=rfl
theorem S4:PureF G Ec:=⟨Hx,rfl,rfl⟩
theorem HV:G f_meet_Only=some Fb:=rfl
theorem DD:PureF G f_meet_Only:=⟨Fb,rfl,rfl⟩
theorem Xx:G Fu=some FK:=rfl
theorem DC:PureF G Fu:=⟨FK,rfl,rfl⟩
theorem AbZ:G JS=some J2:=rfl
theorem UX:PureF G JS:=⟨J2,rfl,rfl⟩
theorem Zy:G Hu=some HL:=rfl
theorem Ue:PureF G Hu:=⟨HL,rfl,rfl⟩
theorem L2:G A1=some CF:=rfl
theorem Nv:PureF G A1:=⟨CF,rfl,rfl⟩
theorem J0:G AI=some BI:=rfl
theorem LI:PureF G AI:=⟨BI,rfl,rfl⟩
theorem WB:G C3=some FL:=rfl
theorem JN:PureF G C3:=⟨FL,rfl,rfl⟩
theorem Up:G Cq=some D8:=rfl
theorem H6:PureF G Cq:=⟨D8,rfl,rfl⟩
theorem NO:G Bx=some HK:=rfl
theorem Kc:PureF G Bx:=⟨HK,rfl,rfl⟩
theorem Vq:G Ct=some D3:=rfl
theorem PP:PureF G Ct:=⟨D3,rfl,rfl⟩
theorem Af2:G Kj=some Lh:=rfl
theorem XC:PureF G Kj:=⟨Lh,rfl,rfl⟩
theorem Z5:G Eg=some HI:=rfl
theorem He:PureF G Eg:=⟨HI,rfl,rfl⟩
theorem Yc:G Kg=some HW:=rfl
theorem Sk:G C5=some Hz:=rfl
theorem SO:PureF G C5:=⟨Hz,rfl,rfl⟩
theorem Agu:G ED=some Dj:=rfl
theorem O0:PureF G ED:=⟨Dj,rfl,rfl⟩
theorem Aiq:G H7=some E6:=rfl
theorem RC:PureF G H7:=⟨E6,rfl,rfl⟩
theorem AiQ:G LD=some HH:=rfl
theorem SM:PureF G LD:=⟨HH,rfl,rfl⟩
theorem AgK:G Hj=some Da:=rfl
theorem OI:PureF G Hj:=⟨Da,rfl,rfl⟩
theorem ZD:G Fs=some Hs:=rfl
theorem T1:PureF G Fs:=⟨Hs,rfl,rfl⟩
theorem AgA:G LC=some Lj:=rfl
theorem WH:PureF G LC:=⟨Lj,rfl,rfl⟩
theorem Ach:G J6=some JU:=rfl
theorem VY:PureF G J6:=⟨JU,rfl,rfl⟩
theorem TY:G BV=some Dt:=rfl
theorem OL:PureF G BV:=⟨Dt,rfl,rfl⟩
theorem Q1:G BE=some CG:=rfl
theorem NF:PureF G BE:=⟨CG,rfl,rfl⟩
theorem S2:G Dr=some Dh:=rfl
theorem O7:PureF G Dr:=⟨Dh,rfl,rfl⟩
theorem WJ:G E8=some FI:=rfl
theorem Rp:PureF G E8:=⟨FI,rfl,rfl⟩
theorem Yf:G DR=some FH:=rfl
theorem LW:PureF G DR:=⟨FH,rfl,rfl⟩
theorem V4:G Co=some Ef:=rfl
theorem QK:PureF G Co:=⟨Ef,rfl,rfl⟩
theorem Jg:G Ag=some AA:=rfl
theorem F3:PureF G Ag:=⟨AA,rfl,rfl⟩
theorem Ki:G BB=some Dq:=rfl
theorem O6:PureF G BB:=⟨Dq,rfl,rfl⟩
theorem T5:G Dl=some Dd:=rfl
theorem OP:PureF G Dl:=⟨Dd,rfl,rfl⟩
theorem Kr:G BC=some Dn:=rfl
theorem O4:PureF G BC:=⟨Dn,rfl,rfl⟩
theorem Q5:G BX=some CJ:=rfl
theorem ND:PureF G BX:=⟨CJ,rfl,rfl⟩
theorem Sq:G A4=some C9:=rfl
theorem O1:PureF G A4:=⟨C9,rfl,rfl⟩
theorem Nh:G f_meet_Only_4=some Dk:=rfl
theorem Kx:PureF G f_meet_Only_4:=⟨Dk,rfl,rfl⟩
theorem D4:G Bb=some A8:=rfl
theorem H9:G AR=some Bq:=rfl
theorem KG:PureF G AR:=⟨Bq,rfl,rfl⟩
theorem Jc:G B8=some Cl:=rfl
theorem My:PureF G B8:=⟨Cl,rfl,rfl⟩
theorem Agm:G FP=some Lr:=rfl
theorem XO:PureF G FP:=⟨Lr,rfl,rfl⟩
theorem TJ:G f_meet_Only_5=some Di:=rfl
theorem KB:PureF G f_meet_Only_5:=⟨Di,rfl,rfl⟩
theorem JL:G Ak=some AH:=rfl
theorem Hn:PureF G Ak:=⟨AH,rfl,rfl⟩
theorem KY:G A3=some Cd:=rfl
theorem MD:PureF G A3:=⟨Cd,rfl,rfl⟩
theorem VP:G D9=some Eh:=rfl
theorem QQ:PureF G D9:=⟨Eh,rfl,rfl⟩
theorem WV:G DW=some Fi:=rfl
theorem RF:PureF G DW:=⟨Fi,rfl,rfl⟩
theorem Ur:G CR=some Ea:=rfl
theorem Qo:PureF G CR:=⟨Ea,rfl,rfl⟩
theorem XN:G Fq=some Fm:=rfl
theorem Ra:PureF G Fq:=⟨Fm,rfl,rfl⟩
theorem WF:G DK=some Ff:=rfl
theorem Rf:PureF G DK:=⟨Ff,rfl,rfl⟩
theorem Wz:G Cx=some Bl:=rfl
theorem KO:PureF G Cx:=⟨Bl,rfl,rfl⟩
theorem Ag7:G Jy=some En:=rfl
theorem PJ:PureF G Jy:=⟨En,rfl,rfl⟩
theorem AiD:G Ks=some E3:=rfl
theorem RD:PureF G Ks:=⟨E3,rfl,rfl⟩
theorem AgU:G Ju=some D5:=rfl
theorem Qg:PureF G Ju:=⟨D5,rfl,rfl⟩
theorem Ac6:G EB=some B6:=rfl
theorem MM:PureF G EB:=⟨B6,rfl,rfl⟩
theorem Ads:G EF=some Ci:=rfl
theorem MZ:PureF G EF:=⟨Ci,rfl,rfl⟩
theorem AcB:G Eu=some Ce:=rfl
theorem MU:PureF G Eu:=⟨Ce,rfl,rfl⟩
theorem Af4:G Hd=some Do:=rfl
theorem O3:PureF G Hd:=⟨Do,rfl,rfl⟩
theorem AcV:G EL=some B2:=rfl
theorem Mr:PureF G EL:=⟨B2,rfl,rfl⟩
theorem Zg:G HC=some HJ:=rfl
theorem Ty:PureF G HC:=⟨HJ,rfl,rfl⟩
theorem XF:G Fh=some FJ:=rfl
theorem Rk:PureF G Fh:=⟨FJ,rfl,rfl⟩
theorem Xu:G Fe=some Fx:=rfl
theorem Ri:PureF G Fe:=⟨Fx,rfl,rfl⟩
theorem Jb:G AC=some A7:=rfl
theorem KM:PureF G AC:=⟨A7,rfl,rfl⟩
theorem LQ:G Aw=some AK:=rfl
theorem EM:PureF G Aw:=⟨AK,rfl,rfl⟩
theorem Vf:G Ej=some Em:=rfl
theorem P3:PureF G Ej:=⟨Em,rfl,rfl⟩
theorem AcU:G JY=some JX:=rfl
theorem Vj:PureF G JY:=⟨JX,rfl,rfl⟩
theorem Abi:G Hv=some Hw:=rfl
theorem Sw:PureF G Hv:=⟨Hw,rfl,rfl⟩
theorem UC:G Cr=some D0:=rfl
theorem QA:PureF G Cr:=⟨D0,rfl,rfl⟩
theorem Kn:G AB=some AX:=rfl
theorem Ji:PureF G AB:=⟨AX,rfl,rfl⟩
theorem Hk:G Au=some Av:=rfl
theorem Fw:PureF G Au:=⟨Av,rfl,rfl⟩
theorem KQ:G BO=some Cj:=rfl
theorem MN:PureF G BO:=⟨Cj,rfl,rfl⟩
theorem OE:G Bj=some BS:=rfl
theorem HT:PureF G Bj:=⟨BS,rfl,rfl⟩
theorem JJ:G Ah=some AG:=rfl
theorem Hq:PureF G Ah:=⟨AG,rfl,rfl⟩
theorem ZA:G FG=some J1:=rfl
theorem Vh:G D6=some Ei:=rfl
theorem QN:PureF G D6:=⟨Ei,rfl,rfl⟩
theorem YR:G EI=some BU:=rfl
theorem We:G C2=some Bw:=rfl
theorem Tu:G Cu=some Dp:=rfl
theorem O2:PureF G Cu:=⟨Dp,rfl,rfl⟩
theorem TQ:G C6=some C8:=rfl
theorem OT:PureF G C6:=⟨C8,rfl,rfl⟩
theorem XS:G DM=some FE:=rfl
theorem Rg:PureF G DM:=⟨FE,rfl,rfl⟩
theorem AcL:G FS=some J7:=rfl
theorem Uu:PureF G FS:=⟨J7,rfl,rfl⟩
theorem QT:G Bk=some Az:=rfl
theorem F6:PureF G Bk:=⟨Az,rfl,rfl⟩
theorem VU:G CS=some Ek:=rfl
theorem PT:PureF G CS:=⟨Ek,rfl,rfl⟩
theorem AaK:G HB=some HM:=rfl
theorem pure_act_Name:PureF G HB:=⟨HM,rfl,rfl⟩
theorem KH:G AY=some AZ:=rfl
theorem pure_slices_ContainsZsgsg:PureF G AY:=⟨AZ,rfl,rfl⟩
theorem AbR:G Ey=some B3:=rfl
theorem pure_math_bits_Mul:PureF G Ey:=⟨B3,rfl,rfl⟩
theorem LS:G BD=some DG:=rfl
theorem Pz:G Cf=some Cm:=rfl
theorem pure_prune_Hollows:PureF G Cf:=⟨Cm,rfl,rfl⟩
theorem AbO:G CY=some Ck:=rfl
theorem pure_math_bits_Len:PureF G CY:=⟨Ck,rfl,rfl⟩
theorem Pd:G AN=some AM:=rfl
theorem XK:G DV=some Ft:=rfl
theorem pure_r05_Depth:PureF G DV:=⟨Ft,rfl,rfl⟩
theorem Acd:G Ai=some B9:=rfl
theorem pure_cmp_Less_int_:PureF G Ai:=⟨B9,rfl,rfl⟩
theorem Yi:G BN=some Bp:=rfl
theorem pure_slices_isNaN_int_:PureF G BN:=⟨Bp,rfl,rfl⟩
theorem UM:G CZ=some DZ:=rfl
theorem pure_act_letter:PureF G CZ:=⟨DZ,rfl,rfl⟩
theorem Mk:G Bs=some Bn:=rfl
theorem pure_slices_IndexZsgsg:PureF G Bs:=⟨Bn,rfl,rfl⟩
theorem Zx:G Db=some BH:=rfl
theorem pure_math_bits_Mul32:PureF G Db:=⟨BH,rfl,rfl⟩
theorem Aa5:G Dm=some BF:=rfl
theorem pure_math_bits_Mul64:PureF G Dm:=⟨BF,rfl,rfl⟩
theorem Sr:G Cv=some Dg:=rfl
theorem pure_prune_rungs:PureF G Cv:=⟨Dg,rfl,rfl⟩
theorem ZN:G Dc=some BJ:=rfl
theorem pure_math_bits_Len32:PureF G Dc:=⟨BJ,rfl,rfl⟩
theorem Abf:G Df=some BG:=rfl
theorem pure_math_bits_Len64:PureF G Df:=⟨BG,rfl,rfl⟩
theorem Abt:G CD=some BT:=rfl
theorem pure_cmp_isNaN_int_:PureF G CD:=⟨BT,rfl,rfl⟩
theorem Mn:G Bc=some Aq:=rfl
theorem OZ:G By=some AD:=rfl
theorem Mp:G Bd=some Ar:=rfl
theorem Nn:G AP=some Al:=rfl
theorem pure_slices_choosePivotOrdered_int_:PureF G AP:=⟨Al,rfl,rfl⟩
theorem MJ:G Bg=some As:=rfl
theorem KI:G AL=some Aj:=rfl
theorem L3:G A6=some An:=rfl
theorem Od:G Bv=some Ay:=rfl
theorem XX:G Fz=some FB:=rfl
theorem pure_r05_parts:PureF G Fz:=⟨FB,rfl,rfl⟩
theorem PO:G Ca=some CU:=rfl
theorem TV:G Bz=some AW:=rfl
theorem pure_slices_nextPowerOfTwo:PureF G Bz:=⟨AW,rfl,rfl⟩
theorem Q8:G B0=some A0:=rfl
theorem Oz:G A5=some AE:=rfl
theorem Mh:G Ap=some Ao:=rfl
theorem Pl:G Bh=some AQ:=rfl
theorem PU:G AS=some AU:=rfl
attribute [go_sem] Nd NM Q0 Rm SH Rl EJ Rs SC Uh XD S4 DD DC UX Ue Nv LI JN H6 Kc PP XC He SO O0 RC SM OI T1 WH VY OL NF O7 Rp LW QK F3 O6 OP O4 ND O1 Kx KG My XO KB Hn MD QQ RF Qo Ra Rf KO PJ RD Qg MM MZ MU O3 Mr Ty Rk Ri KM EM P3 Vj Sw QA Ji Fw MN HT Hq QN O2 OT Rg Uu F6 PT pure_act_Name pure_slices_ContainsZsgsg pure_math_bits_Mul pure_prune_Hollows pure_math_bits_Len pure_r05_Depth pure_cmp_Less_int_ pure_slices_isNaN_int_ pure_act_letter pure_slices_IndexZsgsg pure_math_bits_Mul32 pure_math_bits_Mul64 pure_prune_rungs pure_math_bits_Len32 pure_math_bits_Len64 pure_cmp_isNaN_int_ pure_slices_choosePivotOrdered_int_ pure_r05_parts pure_slices_nextPowerOfTwo
end Go.Mw
