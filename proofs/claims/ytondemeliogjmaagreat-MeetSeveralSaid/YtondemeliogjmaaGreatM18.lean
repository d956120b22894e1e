/- The code, with hints. Printed by Gen. -/
import Derived.Test.YtondemeliogjmaaGreatM17
set_option linter.unusedVariables false
set_option linter.unusedSimpArgs false
namespace Go.Mw
set_option maxRecDepth 100000
abbrev f_w07_MeetSeveral:FuncId:=4
abbrev Fj:FuncId:=9
abbrev CW:FuncId:=10
abbrev f_r07_Meet:FuncId:=12
abbrev f_r07_Join:FuncId:=13
abbrev Fm:FuncId:=14
abbrev Hx:FuncId:=15
abbrev FK:FuncId:=16
abbrev BU:FuncId:=17
abbrev DO:FuncId:=18
abbrev FW:FuncId:=19
abbrev FS:FuncId:=20
abbrev EA:FuncId:=21
abbrev Du:FuncId:=22
abbrev Ei:FuncId:=23
abbrev Kf:FuncId:=25
abbrev JZ:FuncId:=29
abbrev Hw:FuncId:=30
abbrev Cp:FuncId:=32
abbrev AD:FuncId:=37
abbrev Dr:FuncId:=41
abbrev CU:FuncId:=42
abbrev BK:FuncId:=43
abbrev Bu:FuncId:=44
abbrev Kj:FuncId:=45
abbrev Ce:FuncId:=46
abbrev Jd:FuncId:=47
abbrev Bt:FuncId:=48
abbrev MP:FuncId:=49
abbrev EY:FuncId:=50
abbrev HY:FuncId:=51
abbrev f_meet_Met:FuncId:=52
abbrev f_meet_Joined:FuncId:=53
abbrev Fu:FuncId:=54
abbrev Hn:FuncId:=55
abbrev JP:FuncId:=56
abbrev Ci:FuncId:=57
abbrev BR:FuncId:=58
abbrev Er:FuncId:=59
abbrev BT:FuncId:=60
abbrev FD:FuncId:=62
abbrev CS:FuncId:=64
abbrev Bg:FuncId:=73
abbrev Ho:FuncId:=75
abbrev Ag:FuncId:=77
abbrev A0:FuncId:=78
abbrev Ez:FuncId:=86
abbrev D3:FuncId:=87
abbrev Dn:FuncId:=88
abbrev FE:FuncId:=89
abbrev Eb:FuncId:=90
abbrev Bf:FuncId:=91
abbrev f_meet_Met_1:FuncId:=92
abbrev Fp:FuncId:=93
abbrev f_meet_Met_2:FuncId:=94
abbrev f_meet_Joined_1:FuncId:=95
abbrev AY:FuncId:=96
abbrev f_meet_Joined_3:FuncId:=97
abbrev DA:FuncId:=98
abbrev f_meet_Joined_4:FuncId:=99
abbrev HP:FuncId:=100
abbrev E7:FuncId:=101
abbrev Aj:FuncId:=102
abbrev B5:FuncId:=103
abbrev C3:FuncId:=104
abbrev B3:FuncId:=105
abbrev AA:FuncId:=106
abbrev AR:FuncId:=107
abbrev Ef:FuncId:=108
abbrev JO:FuncId:=109
abbrev Hy:FuncId:=110
abbrev E5:FuncId:=117
abbrev EC:FuncId:=118
abbrev Cm:FuncId:=127
abbrev BF:FuncId:=128
abbrev C0:FuncId:=129
abbrev DI:FuncId:=130
abbrev Ea:FuncId:=131
abbrev FV:FuncId:=132
abbrev AF:FuncId:=133
abbrev Dq:FuncId:=134
abbrev Az:FuncId:=135
abbrev Hu:FuncId:=136
abbrev A8:FuncId:=137
abbrev EL:FuncId:=138
abbrev BS:FuncId:=139
abbrev CP:FuncId:=140
abbrev Bq:FuncId:=148
abbrev Ap:FuncId:=150
abbrev D1:FuncId:=151
abbrev Af:FuncId:=152
abbrev Bh:FuncId:=153
abbrev Di:FuncId:=154
abbrev BD:FuncId:=155
abbrev DD:FuncId:=156
abbrev DC:FuncId:=157
abbrev CY:FuncId:=158
abbrev DE:FuncId:=171
abbrev B1:FuncId:=172
abbrev BL:FuncId:=173
abbrev Aw:FuncId:=174
abbrev Bd:FuncId:=175
abbrev AN:FuncId:=176
abbrev An:FuncId:=177
abbrev AT:FuncId:=178
abbrev At:FuncId:=179
abbrev AH:FuncId:=180
abbrev A7:FuncId:=181
abbrev Fs:FuncId:=182
abbrev CH:FuncId:=183
abbrev A5:FuncId:=188
abbrev Ba:FuncId:=189
abbrev AK:FuncId:=192
abbrev Ak:FuncId:=193
abbrev AZ:FuncId:=194
abbrev AC:FuncId:=204
abbrev zq (d:Nat)(i:Ins):Rop:=⟨some d,i,none⟩
abbrev zr (i:Ins):Rop:=⟨none,i,none⟩
abbrev zg (d:Nat)(i:Ins)(t:Nat)(b:Bool):Rop:=⟨some d,i,some (t,b)⟩
abbrev zm (d x:Nat):Rop:=⟨some d,.mov (.t x),none⟩
abbrev zl (d n x:Nat):Rop:=⟨some d,.ld false n (.t x),none⟩
abbrev zL (d n x:Nat):Rop:=⟨some d,.ld true n (.t x),none⟩
abbrev zf (d k x:Nat):Rop:=⟨some d,.fad k (.t x),none⟩
abbrev zk (d:Nat)(n:Int):Rop:=⟨some d,.mov (.c (.int .i64 n)),none⟩
abbrev zo (d:Nat)(b:Bool):Rop:=⟨some d,.mov (.c (.bool b)),none⟩
abbrev zi (d e x y:Nat):Rop:=⟨some d,.iad e (.t x) (.t y),none⟩
abbrev zn (d x:Nat):Rop:=⟨some d,.lenl (.t x),none⟩
abbrev za (d x:Nat)(n:Int):Rop:=⟨some d,.bin .add (.t x) (.c (.int .i64 n)),none⟩
abbrev zb (d:Nat)(o:BinOp)(x y:Nat):Rop:=⟨some d,.bin o (.t x) (.t y),none⟩
abbrev zs (n x y:Nat):Rop:=⟨none,.sto n (.t x) (.t y),none⟩
abbrev zy (d x y:Nat):Rop:=⟨some d,.pick (.t x) (.c (.bool true)) (.t y),none⟩
abbrev zu (d x y:Nat):Rop:=⟨some d,.pick (.t x) (.t y) (.c (.bool false)),none⟩
abbrev zmg (d x t:Nat)(b:Bool):Rop:=⟨some d,.mov (.t x),some (t,b)⟩
abbrev zlg (d n x t:Nat)(b:Bool):Rop:=⟨some d,.ld false n (.t x),some (t,b)⟩
abbrev zfg (d k x t:Nat)(b:Bool):Rop:=⟨some d,.fad k (.t x),some (t,b)⟩
def L0:C:=.loop (rest 85 [0,1,5,19,20,21]) [0] (.seq (.reg [zb 22 .lss 21 20]) (.seq (.cond (.t 22) (.skip) (.exit 0)) (.seq (.blk 1 (.seq (.reg [zi 23 2 19 21,zL 24 2 23,zq 7 (.alc 0 2 (.agg [.nils,.nils])),zs 2 7 24]) (.seq (.seq (.reg [zL 25 2 7,zq 26 (.call Fj [.t 25] []),zq 27 (.un .not (.t 26))]) (.cond (.t 27) (.seq (.reg [zq 28 (.call CW [] []),zm 4 28]) (.ret)) (.skip))) (.seq (.reg [zm 29 5,zf 30 1 7,zl 31 1 30,zn 32 31,za 33 32 1,zb 34 .mul 29 33,zm 5 34]) (.seq (.reg [zm 35 5,zq 36 (.bin .gtr (.t 35) (.c (.int .i64 5000)))]) (.cond (.t 36) (.seq (.reg [zq 37 (.call CW [] []),zm 4 37]) (.ret)) (.skip))))))) (.reg [za 38 21 1,zm 21 38]))))
def Fr:C:=.seq (.reg [zo 4 false]) (.seq (.seq (.reg [zm 15 1,zn 16 15,zq 17 (.bin .gtr (.t 16) (.c (.int .i64 12)))]) (.cond (.t 17) (.seq (.reg [zq 18 (.call CW [] []),zm 4 18]) (.ret)) (.skip))) (.seq (.reg [zk 5 1]) (.seq (.seq (.reg [zm 19 1,zn 20 19,zk 21 0]) (.blk 0 (L0))) (.seq (.reg [zm 39 0,zm 40 1,zq 41 (.call DO [.t 39,.t 40] []),zm 8 41]) (.seq (.reg [zq 9 (.alc 1 2 (.agg [.nils,.nils])),zq 10 (.alc 2 2 (.agg [.nils,.nils]))]) (.seq (.seq (.reg [zm 42 8,zq 43 (.bin .eql (.t 42) (.c (.int .i64 0)))]) (.cond (.t 43) (.reg [zm 44 0,zm 45 1,zq 46 (.call FW [.t 44,.t 45] []),zm 47 0,zm 48 1,zq 49 (.call FS [.t 47,.t 48] []),zs 2 9 46,zs 2 10 49]) (.skip))) (.seq (.reg [zm 51 0,zq 52 (.app 3 1 16 (.c .nils) (.t 51)),zm 53 1,zq 54 (.call Du [.t 53] []),zq 55 (.call EA [.t 52,.t 54] []),zm 50 55,zq 56 (.ext (.t 50) 0),zq 57 (.ext (.t 50) 1),zq 11 (.alc 4 2 (.agg [.nils,.nils])),zs 2 11 56,zm 12 57]) (.seq (.reg [zm 59 0,zq 60 (.app 5 1 16 (.c .nils) (.t 59)),zm 61 1,zq 62 (.call Du [.t 61] []),zq 63 (.call Ei [.t 60,.t 62] []),zm 58 63,zq 64 (.ext (.t 58) 0),zq 65 (.ext (.t 58) 1),zq 13 (.alc 6 2 (.agg [.nils,.nils])),zs 2 13 64,zm 14 65]) (.seq (.reg [zL 66 2 11,zm 67 12,zm 68 8,zL 69 2 9,zm 70 5,zq 71 (.bin .gtr (.t 70) (.c (.int .i64 500))),zq 72 (.call BU [.t 66,.t 67,.t 68,.t 69,.t 71] []),zm 73 72,zg 74 (.ld true 2 (.t 13)) 73 true,zmg 75 14 73 true,zmg 76 8 73 true,zg 77 (.ld true 2 (.t 10)) 73 true,zmg 78 5 73 true,zg 79 (.bin .gtr (.t 78) (.c (.int .i64 500))) 73 true,zg 80 (.call BU [.t 74,.t 75,.t 76,.t 77,.t 79] []) 73 true,zu 81 73 80,zm 82 81,zg 83 (.call CW [] []) 82 true,zu 84 82 83,zm 4 84]) (.ret))))))))))
def Nz:List Nat:=[7,9,10,52,11,60,13]
def BY:IF:=⟨2,85,7,Fr,[(4,none)],true,false,false⟩
def Qf:C:=.seq (.reg [zq 1 (.box 0 2 (.t 0)),zo 2 false]) (.seq (.reg [zf 3 1 1,zl 4 1 3,zn 5 4,zq 6 (.bin .leq (.t 5) (.c (.int .i64 30))),zm 7 6,zg 8 (.ld true 2 (.t 1)) 7 true,zg 9 (.call JZ [.t 8,(.c (.int .i64 600))] []) 7 true,zu 10 7 9,zm 2 10]) (.ret))
def VV:List Nat:=[1]
def Fd:IF:=⟨1,11,1,Qf,[(2,none)],true,false,false⟩
def Qa:C:=.seq (.reg [zo 0 false]) (.seq (.reg [zq 6 (.call Dr [] []),zq 7 (.call CU [] []),zq 8 (.call Fm [.t 6,.t 7] []),zm 5 8,zq 9 (.ext (.t 5) 0),zq 10 (.ext (.t 5) 1),zq 1 (.alc 0 2 (.agg [.nils,.nils])),zs 2 1 9,zm 2 10]) (.seq (.reg [zq 12 (.call Dr [] []),zq 13 (.call CU [] []),zq 14 (.call FK [.t 12,.t 13] []),zm 11 14,zq 15 (.ext (.t 11) 0),zq 16 (.ext (.t 11) 1),zq 3 (.alc 1 2 (.agg [.nils,.nils])),zs 2 3 15,zm 4 16]) (.seq (.drw [zm 17 2,zq 18 (.bin .eql (.t 17) (.c (.int .i64 0))),zm 19 18,zg 20 (.ld true 2 (.t 1)) 19 true,zg 21 (.call CU [] []) 19 true,zg 22 (.call BK [.t 20,.t 21] []) 19 true,zu 23 19 22,zm 24 23,zmg 25 4 24 true,zg 26 (.bin .eql (.t 25) (.c (.int .i64 0))) 24 true,zu 27 24 26,zm 28 27,zg 29 (.ld true 2 (.t 3)) 28 true,zg 30 (.call Dr [] []) 28 true,zg 31 (.call BK [.t 29,.t 30] []) 28 true,zu 32 28 31,zm 0 32] [(3,4),(12,13)]) (.ret))))
def WT:List Nat:=[1,3]
def Fo:IF:=⟨0,33,2,Qa,[(0,none)],true,false,false⟩
def U2:C:=.loop (rest 98 [2,3,4,5,6,7,8,9,34,35,36]) [8,9] (.seq (.reg [zb 37 .lss 36 35]) (.seq (.cond (.t 37) (.skip) (.exit 2)) (.seq (.blk 3 (.seq (.reg [zi 38 1 34 36,zl 39 1 38,zm 11 39]) (.seq (.reg [zL 40 2 3,zq 41 (.iaa 2 1 (.t 8) (.c (.int .i64 1))),zl 42 1 41,zq 43 (.call Bu [.t 40,.t 42] []),zm 44 11,zq 45 (.call Kj [.t 43,.t 44] [])]) (.cond (.t 45) (.reg [zf 46 0 9,zl 47 1 46,zm 48 11,zq 49 (.bsl 8 1 1 [.t 48]),zq 50 (.app 9 1 8 (.t 47) (.t 49)),zf 51 0 9,zs 1 51 50]) (.skip))))) (.reg [za 52 36 1,zm 36 52]))))
def TH:C:=.loop (rest 98 [2,3,4,5,6,7,8,9,55,56]) [10,12,13] (.mvt 6 5 (.seq (.reg [zb 57 .lss 56 55]) (.seq (.cond (.t 57) (.skip) (.exit 4)) (.seq (.blk 5 (.seq (.reg [zm 58 56,zm 12 58]) (.seq (.drw [zL 59 2 2,zq 60 (.iaa 2 1 (.t 8) (.c (.int .i64 0))),zl 61 1 60,zm 62 12,zq 63 (.call Ce [.t 59,.t 61,.t 62] []),zL 64 2 3,zq 65 (.iaa 2 1 (.t 8) (.c (.int .i64 1))),zl 66 1 65,zm 67 12,zq 68 (.call Ce [.t 64,.t 66,.t 67] []),zq 69 (.bld [(.int .i64 0),(.int .i64 0)] [(0,1,(.t 63)),(1,1,(.t 68))]),zq 13 (.alc 10 2 (.agg [(.int .i64 0),(.int .i64 0)])),zs 2 13 69,zk 14 (-1)] [(4,5),(4,6),(4,7),(0,11),(1,11),(2,11),(4,11),(5,11),(6,11),(7,11),(9,11),(10,11)]) (.seq (.seq (.reg [zq 70 (.iaa 2 1 (.t 13) (.c (.int .i64 0))),zl 71 1 70,zq 72 (.bin .geq (.t 71) (.c (.int .i64 0))),zm 73 72,zg 74 (.iaa 2 1 (.t 13) (.c (.int .i64 1))) 73 true,zlg 75 1 74 73 true,zg 76 (.bin .geq (.t 75) (.c (.int .i64 0))) 73 true,zu 77 73 76]) (.cond (.t 77) (.reg [zm 79 6,zL 80 2 13,zq 81 (.call Jd [.t 79,.t 80] [11]),zm 78 81,zq 82 (.ext (.t 78) 0),zq 83 (.ext (.t 78) 1),zm 14 82,zm 6 83]) (.skip))) (.reg [zf 84 1 9,zl 85 1 84,zm 86 14,zq 87 (.bsl 12 1 1 [.t 86]),zq 88 (.app 13 1 8 (.t 85) (.t 87)),zf 89 1 9,zs 1 89 88]))))) (.reg [za 90 56 1,zm 56 90])))))
def TJ:C:=.loop (rest 98 [2,3,4,5,6,7]) [6,7,8,9,10,12,13,14,15] (.mvt 6 5 (.seq (.seq (.reg [zm 21 7,zm 22 6,zn 23 22,zb 24 .lss 21 23]) (.cond (.t 24) (.skip) (.exit 0))) (.seq (.blk 1 (.seq (.reg [zm 27 6,zm 28 7,zi 29 2 27 28,zL 30 2 29,zq 8 (.alc 6 2 (.agg [(.int .i64 0),(.int .i64 0)])),zs 2 8 30]) (.seq (.reg [zq 9 (.alc 7 2 (.agg [.nils,.nils]))]) (.seq (.seq (.reg [zL 31 2 2,zq 32 (.iaa 2 1 (.t 8) (.c (.int .i64 0))),zl 33 1 32,zq 34 (.call Bu [.t 31,.t 33] []),zn 35 34,zk 36 0]) (.blk 2 (U2))) (.seq (.seq (.reg [zf 53 0 2,zl 54 1 53,zn 55 54,zk 56 0]) (.blk 4 (TH))) (.reg [zf 91 1 5,zl 92 1 91,zL 93 2 9,zq 94 (.bsl 14 2 1 [.t 93]),zq 95 (.app 15 2 48 (.t 92) (.t 94)),zf 96 1 5,zs 1 96 95])))))) (.reg [zm 25 7,za 26 25 1,zm 7 26]))))
def Rv:C:=.seq (.reg [zq 2 (.box 0 2 (.t 0)),zq 3 (.box 1 2 (.t 1)),zq 4 (.alc 2 2 (.agg [.nils,.nils]))]) (.seq (.reg [zf 15 0 2,zl 16 1 15,zq 17 (.app 3 1 16 (.c .nils) (.t 16)),zq 18 (.bld [.nils,.nils] [(0,1,(.t 17))]),zq 5 (.alc 4 2 (.agg [.nils,.nils])),zs 2 5 18]) (.seq (.reg [zq 19 (.bld [(.int .i64 0),(.int .i64 0)] [(0,1,(.c (.int .i64 0))),(1,1,(.c (.int .i64 0)))]),zq 20 (.bsl 5 2 1 [.t 19]),zm 6 20]) (.seq (.seq (.reg [zk 7 0]) (.blk 0 (TJ))) (.seq (.reg [zL 97 2 5,zs 2 4 97]) (.ret)))))
def Yv:List Nat:=[2,3,4,17,5,20,8,9,49,50,13,81,87,88,94,95]
def HI:IF:=⟨2,98,16,Rv,[(4,some (true,2))],true,false,false⟩
def TS:C:=.loop (rest 107 [2,3,4,5,6,7,8,9,50,51,52]) [9] (.seq (.reg [zb 53 .lss 52 51]) (.seq (.cond (.t 53) (.skip) (.exit 2)) (.seq (.blk 3 (.seq (.reg [zi 54 1 50 52,zl 55 1 54,zm 11 55]) (.reg [zf 56 0 9,zl 57 1 56,zm 58 11,zq 59 (.call MP [.t 57,.t 58] [9]),zf 60 0 9,zs 1 60 59]))) (.reg [za 61 52 1,zm 52 61]))))
def T3:C:=.loop (rest 107 [2,3,4,5,6,7,8,9,64,65]) [10,12,13] (.mvt 6 5 (.seq (.reg [zb 66 .lss 65 64]) (.seq (.cond (.t 66) (.skip) (.exit 4)) (.seq (.blk 5 (.seq (.reg [zm 67 65,zm 12 67]) (.seq (.drw [zL 68 2 2,zq 69 (.iaa 2 1 (.t 8) (.c (.int .i64 0))),zl 70 1 69,zm 71 12,zq 72 (.call Ce [.t 68,.t 70,.t 71] []),zL 73 2 3,zq 74 (.iaa 2 1 (.t 8) (.c (.int .i64 1))),zl 75 1 74,zm 76 12,zq 77 (.call Ce [.t 73,.t 75,.t 76] []),zq 78 (.bld [(.int .i64 0),(.int .i64 0)] [(0,1,(.t 72)),(1,1,(.t 77))]),zq 13 (.alc 10 2 (.agg [(.int .i64 0),(.int .i64 0)])),zs 2 13 78,zk 14 (-1)] [(4,5),(4,6),(4,7),(0,11),(1,11),(2,11),(4,11),(5,11),(6,11),(7,11),(9,11),(10,11)]) (.seq (.seq (.reg [zq 79 (.iaa 2 1 (.t 13) (.c (.int .i64 0))),zl 80 1 79,zq 81 (.bin .geq (.t 80) (.c (.int .i64 0))),zm 82 81,zg 83 (.iaa 2 1 (.t 13) (.c (.int .i64 1))) 82 false,zlg 84 1 83 82 false,zg 85 (.bin .geq (.t 84) (.c (.int .i64 0))) 82 false,zy 86 82 85]) (.cond (.t 86) (.reg [zm 88 6,zL 89 2 13,zq 90 (.call Jd [.t 88,.t 89] [11]),zm 87 90,zq 91 (.ext (.t 87) 0),zq 92 (.ext (.t 87) 1),zm 14 91,zm 6 92]) (.skip))) (.reg [zf 93 1 9,zl 94 1 93,zm 95 14,zq 96 (.bsl 12 1 1 [.t 95]),zq 97 (.app 13 1 8 (.t 94) (.t 96)),zf 98 1 9,zs 1 98 97]))))) (.reg [za 99 65 1,zm 65 99])))))
def Uf:C:=.loop (rest 107 [2,3,4,5,6,7]) [6,7,8,9,10,12,13,14,15] (.mvt 6 5 (.seq (.seq (.reg [zm 31 7,zm 32 6,zn 33 32,zb 34 .lss 31 33]) (.cond (.t 34) (.skip) (.exit 0))) (.seq (.blk 1 (.seq (.reg [zm 37 6,zm 38 7,zi 39 2 37 38,zL 40 2 39,zq 8 (.alc 6 2 (.agg [(.int .i64 0),(.int .i64 0)])),zs 2 8 40]) (.seq (.reg [zL 41 2 2,zq 42 (.iaa 2 1 (.t 8) (.c (.int .i64 0))),zl 43 1 42,zq 44 (.call Bu [.t 41,.t 43] []),zq 45 (.app 7 1 8 (.c .nils) (.t 44)),zq 46 (.bld [.nils,.nils] [(0,1,(.t 45))]),zq 9 (.alc 8 2 (.agg [.nils,.nils])),zs 2 9 46]) (.seq (.seq (.reg [zL 47 2 3,zq 48 (.iaa 2 1 (.t 8) (.c (.int .i64 1))),zl 49 1 48,zq 50 (.call Bu [.t 47,.t 49] []),zn 51 50,zk 52 0]) (.blk 2 (TS))) (.seq (.seq (.reg [zf 62 0 2,zl 63 1 62,zn 64 63,zk 65 0]) (.blk 4 (T3))) (.reg [zf 100 1 5,zl 101 1 100,zL 102 2 9,zq 103 (.bsl 14 2 1 [.t 102]),zq 104 (.app 15 2 48 (.t 101) (.t 103)),zf 105 1 5,zs 1 105 104])))))) (.reg [zm 35 7,za 36 35 1,zm 7 36]))))
def Rn:C:=.seq (.reg [zq 2 (.box 0 2 (.t 0)),zq 3 (.box 1 2 (.t 1)),zq 4 (.alc 2 2 (.agg [.nils,.nils]))]) (.seq (.reg [zL 16 2 2,zq 17 (.call Bt [.t 16] []),zm 15 17,zq 18 (.ext (.t 15) 0),zq 19 (.ext (.t 15) 1),zs 2 2 18]) (.seq (.reg [zL 21 2 3,zq 22 (.call Bt [.t 21] []),zm 20 22,zq 23 (.ext (.t 20) 0),zq 24 (.ext (.t 20) 1),zs 2 3 23]) (.seq (.reg [zf 25 0 2,zl 26 1 25,zq 27 (.app 3 1 16 (.c .nils) (.t 26)),zq 28 (.bld [.nils,.nils] [(0,1,(.t 27))]),zq 5 (.alc 4 2 (.agg [.nils,.nils])),zs 2 5 28]) (.seq (.reg [zq 29 (.bld [(.int .i64 0),(.int .i64 0)] [(0,1,(.c (.int .i64 0))),(1,1,(.c (.int .i64 0)))]),zq 30 (.bsl 5 2 1 [.t 29]),zm 6 30]) (.seq (.seq (.reg [zk 7 0]) (.blk 0 (Uf))) (.seq (.reg [zL 106 2 5,zs 2 4 106]) (.ret)))))))
def ZB:List Nat:=[2,3,4,27,5,30,8,45,9,59,13,90,96,97,103,104]
def HM:IF:=⟨2,107,16,Rn,[(4,some (true,2))],true,false,false⟩
def W1:C:=.seq (.reg [zq 2 (.box 0 2 (.t 0)),zq 3 (.box 1 2 (.t 1)),zq 4 (.alc 2 2 (.agg [.nils,.nils])),zk 5 0]) (.seq (.seq (.reg [zL 7 2 2,zL 8 2 3,zq 9 (.call EY [.t 7,.t 8] []),zm 6 9]) (.seq (.reg [zm 10 6,zq 11 (.bin .neq (.t 10) (.c (.int .i64 0)))]) (.cond (.t 11) (.seq (.reg [zq 12 (.bld [.nils,.nils] []),zm 13 6,zs 2 4 12,zm 5 13]) (.ret)) (.skip)))) (.seq (.reg [zL 14 2 2,zL 15 2 3,zq 16 (.call f_meet_Met [.t 14,.t 15] []),zq 17 (.ext (.t 16) 0),zq 18 (.ext (.t 16) 1),zq 19 (.call HY [.t 17,.t 18] []),zq 20 (.ext (.t 19) 0),zq 21 (.ext (.t 19) 1),zs 2 4 20,zm 5 21]) (.ret)))
def Xn:List Nat:=[2,3,4]
def FH:IF:=⟨2,22,3,W1,[(4,some (true,2)),(5,none)],true,false,false⟩
def UL:C:=.loop (rest 31 [2,3,11,12,13]) [4,5,6,7,8] (.seq (.reg [zb 14 .lss 13 12]) (.seq (.cond (.t 14) (.skip) (.exit 0)) (.seq (.blk 1 (.seq (.reg [zi 15 2 11 13,zL 16 2 15,zq 5 (.alc 4 2 (.agg [.nils,.nils])),zs 2 5 16]) (.drw [zf 17 1 3,zl 18 1 17,zf 19 0 5,zl 20 1 19,zq 21 (.app 5 1 8 (.c .nils) (.t 20)),zf 22 1 5,zl 23 1 22,zq 24 (.app 6 1 8 (.c .nils) (.t 23)),zq 25 (.bld [.nils,.nils] [(0,1,(.t 21)),(1,1,(.t 24))]),zq 26 (.bsl 7 2 1 [.t 25]),zq 27 (.app 8 2 48 (.t 18) (.t 26)),zf 28 1 3,zs 1 28 27] [(0,4),(1,4),(4,5),(4,6),(0,7),(1,7),(0,9),(1,9)]))) (.reg [za 29 13 1,zm 13 29]))))
def RH:C:=.seq (.reg [zq 1 (.box 0 2 (.t 0)),zq 2 (.alc 1 2 (.agg [.nils,.nils]))]) (.seq (.reg [zf 6 0 1,zl 7 1 6,zq 8 (.app 2 1 16 (.c .nils) (.t 7)),zq 9 (.bld [.nils,.nils] [(0,1,(.t 8))]),zq 3 (.alc 3 2 (.agg [.nils,.nils])),zs 2 3 9]) (.seq (.seq (.reg [zf 10 1 1,zl 11 1 10,zn 12 11,zk 13 0]) (.blk 0 (UL))) (.seq (.reg [zL 30 2 3,zs 2 2 30]) (.ret))))
def ZI:List Nat:=[1,2,8,3,5,21,24,26,27]
def Hv:IF:=⟨1,31,9,RH,[(2,some (true,2))],true,false,false⟩
def WI:C:=.seq (.reg [zq 2 (.box 0 2 (.t 0)),zq 3 (.box 1 2 (.t 1)),zq 4 (.alc 2 2 (.agg [.nils,.nils])),zk 5 0]) (.seq (.seq (.reg [zL 7 2 2,zL 8 2 3,zq 9 (.call EY [.t 7,.t 8] []),zm 6 9]) (.seq (.reg [zm 10 6,zq 11 (.bin .neq (.t 10) (.c (.int .i64 0)))]) (.cond (.t 11) (.seq (.reg [zq 12 (.bld [.nils,.nils] []),zm 13 6,zs 2 4 12,zm 5 13]) (.ret)) (.skip)))) (.seq (.reg [zL 14 2 2,zL 15 2 3,zq 16 (.call f_meet_Joined [.t 14,.t 15] []),zq 17 (.ext (.t 16) 0),zq 18 (.ext (.t 16) 1),zq 19 (.call HY [.t 17,.t 18] []),zq 20 (.ext (.t 19) 0),zq 21 (.ext (.t 19) 1),zs 2 4 20,zm 5 21]) (.ret)))
def Wm:List Nat:=[2,3,4]
def Fb:IF:=⟨2,22,3,WI,[(4,some (true,2)),(5,none)],true,false,false⟩
def Lg:C:=.seq (.reg [zq 5 (.box 0 2 (.t 0)),zq 8 (.box 1 2 (.t 3)),zo 10 false]) (.seq (.seq (.reg [zm 11 2,zq 12 (.bin .neq (.t 11) (.c (.int .i64 0)))]) (.cond (.t 12) (.seq (.reg [zm 13 1,zm 14 2,zb 15 .eql 13 14,zm 16 15,zg 17 (.ld true 2 (.t 5)) 16 true,zg 18 (.call Fu [.t 17] []) 16 true,zu 19 16 18,zm 10 19]) (.ret)) (.skip))) (.seq (.reg [zm 20 1,zq 21 (.bin .eql (.t 20) (.c (.int .i64 2))),zm 22 21,zmg 23 4 22 true,zu 24 22 23,zm 25 24,zg 26 (.ld true 2 (.t 5)) 25 true,zg 27 (.call Fu [.t 26] []) 25 true,zu 28 25 27,zm 29 28,zmg 30 1 29 false,zg 31 (.bin .eql (.t 30) (.c (.int .i64 0))) 29 false,zmg 32 31 29 false,zg 33 (.ld true 2 (.t 5)) 32 true,zg 34 (.ld true 2 (.t 8)) 32 true,zg 35 (.call BK [.t 33,.t 34] []) 32 true,zg 36 (.pick (.t 32) (.t 35) (.c (.bool false))) 29 false,zy 37 29 36,zm 10 37]) (.ret)))
def Aai:List Nat:=[5,8]
def HH:IF:=⟨5,38,2,Lg,[(10,none)],true,false,false⟩
def P6:C:=.loop (rest 34 [0,1,9,10,11]) [0] (.seq (.reg [zb 12 .lss 11 10]) (.seq (.cond (.t 12) (.skip) (.exit 0)) (.seq (.blk 1 (.seq (.reg [zi 13 2 9 11,zL 14 2 13,zq 6 (.alc 0 2 (.agg [.nils,.nils])),zs 2 6 14]) (.seq (.reg [zL 15 2 6,zq 16 (.call Kf [.t 15] []),zq 17 (.un .not (.t 16))]) (.cond (.t 17) (.seq (.reg [zk 4 30]) (.ret)) (.skip))))) (.reg [za 18 11 1,zm 11 18]))))
def OQ:C:=.loop (rest 34 [0,22,23,24]) [1] (.seq (.reg [zb 25 .lss 24 23]) (.seq (.cond (.t 25) (.skip) (.exit 2)) (.seq (.blk 3 (.seq (.reg [zi 26 2 22 24,zL 27 2 26,zq 8 (.alc 1 2 (.agg [.nils,.nils])),zs 2 8 27]) (.seq (.reg [zf 28 0 8,zl 29 1 28,zm 30 0,zq 31 (.call AD [.t 29,.t 30] []),zq 32 (.un .not (.t 31))]) (.cond (.t 32) (.seq (.reg [zk 4 10]) (.ret)) (.skip))))) (.reg [za 33 24 1,zm 24 33]))))
def MM:C:=.seq (.reg [zk 4 0]) (.seq (.seq (.reg [zm 9 1,zn 10 9,zk 11 0]) (.blk 0 (P6))) (.seq (.seq (.reg [zm 19 0,zq 20 (.call Hn [.t 19] []),zq 21 (.un .not (.t 20))]) (.cond (.t 21) (.seq (.reg [zk 4 10]) (.ret)) (.skip))) (.seq (.seq (.reg [zm 22 1,zn 23 22,zk 24 0]) (.blk 2 (OQ))) (.seq (.reg [zk 4 0]) (.ret)))))
def S1:List Nat:=[6,8]
def DM:IF:=⟨2,34,2,MM,[(4,none)],true,false,false⟩
def Xv:C:=.loop (rest 25 [4,5,10,11,12]) [2] (.seq (.reg [zb 13 .lss 12 11]) (.seq (.cond (.t 13) (.skip) (.exit 0)) (.seq (.blk 1 (.seq (.reg [zi 14 2 10 12,zL 15 2 14,zq 7 (.alc 2 2 (.agg [.nils,.nils])),zs 2 7 15]) (.reg [zL 17 2 5,zL 18 2 7,zq 19 (.call f_r07_Meet [.t 17,.t 18] []),zq 20 (.call Bt [.t 19] []),zm 16 20,zq 21 (.ext (.t 16) 0),zq 22 (.ext (.t 16) 1),zs 2 5 21]))) (.reg [za 23 12 1,zm 12 23]))))
def Vx:C:=.seq (.reg [zq 4 (.alc 0 2 (.agg [.nils,.nils]))]) (.seq (.reg [zm 8 0,zq 9 (.call JP [.t 8] []),zq 5 (.alc 1 2 (.agg [.nils,.nils])),zs 2 5 9]) (.seq (.seq (.reg [zm 10 1,zn 11 10,zk 12 0]) (.blk 0 (Xv))) (.seq (.reg [zL 24 2 5,zs 2 4 24]) (.ret))))
def Aby:List Nat:=[4,5,7]
def JX:IF:=⟨2,25,3,Vx,[(4,some (true,2))],true,false,false⟩
def Xe:C:=.loop (rest 21 [4,5,10,11,12]) [2] (.seq (.reg [zb 13 .lss 12 11]) (.seq (.cond (.t 13) (.skip) (.exit 0)) (.seq (.blk 1 (.seq (.reg [zi 14 2 10 12,zL 15 2 14,zq 7 (.alc 2 2 (.agg [.nils,.nils])),zs 2 7 15]) (.reg [zL 16 2 5,zL 17 2 7,zq 18 (.call f_r07_Join [.t 16,.t 17] []),zs 2 5 18]))) (.reg [za 19 12 1,zm 12 19]))))
def U4:C:=.seq (.reg [zq 4 (.alc 0 2 (.agg [.nils,.nils]))]) (.seq (.reg [zm 8 0,zq 9 (.call Ci [.t 8] []),zq 5 (.alc 1 2 (.agg [.nils,.nils])),zs 2 5 9]) (.seq (.seq (.reg [zm 10 1,zn 11 10,zk 12 0]) (.blk 0 (Xe))) (.seq (.reg [zL 20 2 5,zs 2 4 20]) (.ret))))
def Abt:List Nat:=[4,5,7]
def JY:IF:=⟨2,21,3,U4,[(4,some (true,2))],true,false,false⟩
def UX:C:=.loop (rest 37 [4,7,20,21,22]) [2] (.seq (.reg [zb 23 .lss 22 21]) (.seq (.cond (.t 23) (.skip) (.exit 0)) (.seq (.blk 1 (.seq (.reg [zi 24 2 20 22,zL 25 2 24,zq 9 (.alc 2 2 (.agg [.nils,.nils])),zs 2 9 25]) (.seq (.reg [zo 10 false]) (.seq (.reg [zL 27 2 7,zL 28 2 9,zq 29 (.call f_meet_Met [.t 27,.t 28] []),zm 26 29,zq 30 (.ext (.t 26) 0),zq 31 (.ext (.t 26) 1),zs 2 7 30,zm 10 31]) (.seq (.reg [zm 32 10,zq 33 (.un .not (.t 32))]) (.cond (.t 33) (.seq (.reg [zq 34 (.bld [.nils,.nils] []),zs 2 4 34,zk 5 2]) (.ret)) (.skip))))))) (.reg [za 35 22 1,zm 22 35]))))
def Nf:C:=.seq (.reg [zq 4 (.alc 0 2 (.agg [.nils,.nils])),zk 5 0]) (.seq (.seq (.reg [zm 11 0,zm 12 1,zq 13 (.call BR [.t 11,.t 12] []),zm 6 13]) (.seq (.reg [zm 14 6,zq 15 (.bin .neq (.t 14) (.c (.int .i64 0)))]) (.cond (.t 15) (.seq (.reg [zq 16 (.bld [.nils,.nils] []),zm 17 6,zs 2 4 16,zm 5 17]) (.ret)) (.skip)))) (.seq (.reg [zm 18 0,zq 19 (.call Er [.t 18] []),zq 7 (.alc 1 2 (.agg [.nils,.nils])),zs 2 7 19]) (.seq (.seq (.reg [zm 20 1,zn 21 20,zk 22 0]) (.blk 0 (UX))) (.seq (.reg [zL 36 2 7,zs 2 4 36,zk 5 0]) (.ret)))))
def ZT:List Nat:=[4,7,9]
def HD:IF:=⟨2,37,3,Nf,[(4,some (true,2)),(5,none)],true,false,false⟩
def QB:C:=.loop (rest 19 [3,6,7,8]) [0,1] (.seq (.reg [zb 9 .lss 8 7]) (.seq (.cond (.t 9) (.skip) (.exit 0)) (.seq (.blk 1 (.seq (.reg [zi 10 2 6 8,zL 11 2 10,zq 5 (.alc 0 2 (.agg [.nils,.nils])),zs 2 5 11]) (.reg [zm 12 3,zL 13 2 5,zq 14 (.call Hx [.t 13] []),zq 15 (.bsl 1 2 1 [.t 14]),zq 16 (.app 2 2 48 (.t 12) (.t 15)),zm 3 16]))) (.reg [za 17 8 1,zm 8 17]))))
def NU:C:=.seq (.reg [zq 2 (.mov (.c .nils))]) (.seq (.reg [zq 3 (.mov (.c .nils))]) (.seq (.seq (.reg [zm 6 0,zn 7 6,zk 8 0]) (.blk 0 (QB))) (.seq (.reg [zm 18 3,zm 2 18]) (.ret))))
def Vu:List Nat:=[5,15,16]
def El:IF:=⟨1,19,3,NU,[(2,none)],true,false,false⟩
def TL:C:=.loop (rest 37 [4,7,20,21,22]) [2] (.seq (.reg [zb 23 .lss 22 21]) (.seq (.cond (.t 23) (.skip) (.exit 0)) (.seq (.blk 1 (.seq (.reg [zi 24 2 20 22,zL 25 2 24,zq 9 (.alc 2 2 (.agg [.nils,.nils])),zs 2 9 25]) (.seq (.reg [zo 10 false]) (.seq (.reg [zL 27 2 7,zL 28 2 9,zq 29 (.call f_meet_Joined [.t 27,.t 28] []),zm 26 29,zq 30 (.ext (.t 26) 0),zq 31 (.ext (.t 26) 1),zs 2 7 30,zm 10 31]) (.seq (.reg [zm 32 10,zq 33 (.un .not (.t 32))]) (.cond (.t 33) (.seq (.reg [zq 34 (.bld [.nils,.nils] []),zs 2 4 34,zk 5 2]) (.ret)) (.skip))))))) (.reg [za 35 22 1,zm 22 35]))))
def NC:C:=.seq (.reg [zq 4 (.alc 0 2 (.agg [.nils,.nils])),zk 5 0]) (.seq (.seq (.reg [zm 11 0,zm 12 1,zq 13 (.call BR [.t 11,.t 12] []),zm 6 13]) (.seq (.reg [zm 14 6,zq 15 (.bin .neq (.t 14) (.c (.int .i64 0)))]) (.cond (.t 15) (.seq (.reg [zq 16 (.bld [.nils,.nils] []),zm 17 6,zs 2 4 16,zm 5 17]) (.ret)) (.skip)))) (.seq (.reg [zm 18 0,zq 19 (.call BT [.t 18] []),zq 7 (.alc 1 2 (.agg [.nils,.nils])),zs 2 7 19]) (.seq (.seq (.reg [zm 20 1,zn 21 20,zk 22 0]) (.blk 0 (TL))) (.seq (.reg [zL 36 2 7,zs 2 4 36,zk 5 0]) (.ret)))))
def Zu:List Nat:=[4,7,9]
def HG:IF:=⟨2,37,3,NC,[(4,some (true,2)),(5,none)],true,false,false⟩
def ZJ:C:=.loop (rest 38 [1,22,23,24]) [1] (.seq (.reg [zb 25 .lss 24 23]) (.seq (.cond (.t 25) (.skip) (.exit 0)) (.seq (.blk 1 (.seq (.reg [zi 26 2 22 24,zL 27 2 26,zq 4 (.alc 1 2 (.agg [.nils,.nils])),zs 2 4 27]) (.seq (.reg [zL 28 2 4,zf 29 1 1,zl 30 1 29,zn 31 30,zf 32 0 1,zl 33 1 32,zn 34 33,zq 35 (.call FD [.t 28,.t 31,.t 34] []),zq 36 (.un .not (.t 35))]) (.cond (.t 36) (.seq (.reg [zo 2 false]) (.ret)) (.skip))))) (.reg [za 37 24 1,zm 24 37]))))
def XS:C:=.seq (.reg [zq 1 (.box 0 2 (.t 0)),zo 2 false]) (.seq (.seq (.reg [zf 5 0 1,zl 6 1 5,zq 7 (.call Hn [.t 6] []),zq 8 (.un .not (.t 7)),zm 9 8,zfg 10 1 1 9 false,zlg 11 1 10 9 false,zg 12 (.lenl (.t 11)) 9 false,zg 13 (.bin .lss (.t 12) (.c (.int .i64 1))) 9 false,zy 14 9 13,zm 15 14,zfg 16 1 1 15 false,zlg 17 1 16 15 false,zg 18 (.lenl (.t 17)) 15 false,zg 19 (.bin .gtr (.t 18) (.c (.int .i64 500))) 15 false,zy 20 15 19]) (.cond (.t 20) (.seq (.reg [zo 2 false]) (.ret)) (.skip))) (.seq (.seq (.reg [zf 21 1 1,zl 22 1 21,zn 23 22,zk 24 0]) (.blk 0 (ZJ))) (.seq (.reg [zo 2 true]) (.ret))))
def Aec:List Nat:=[1,4]
def Lm:IF:=⟨1,38,2,XS,[(2,none)],true,false,false⟩
def Wv:C:=.loop (rest 46 [1,2,5,6]) [] (.seq (.seq (.reg [zm 14 6,zf 15 1 2,zl 16 1 15,zn 17 16,zb 18 .lss 14 17,zm 19 18,zmg 20 5 19 true,zmg 21 1 19 true,zg 22 (.bin .leq (.t 20) (.t 21)) 19 true,zu 23 19 22]) (.cond (.t 23) (.skip) (.exit 0))) (.seq (.blk 1 (.drw [zm 26 5,zf 27 1 2,zl 28 1 27,zm 29 6,zi 30 2 28 29,zf 31 0 30,zl 32 1 31,zn 33 32,zf 34 1 2,zl 35 1 34,zm 36 6,zi 37 2 35 36,zf 38 1 37,zl 39 1 38,zn 40 39,zb 41 .add 33 40,zb 42 .add 26 41,zm 5 42] [])) (.reg [zm 24 6,za 25 24 1,zm 6 25])))
def VB:C:=.seq (.reg [zq 2 (.box 0 2 (.t 0)),zo 4 false]) (.seq (.reg [zf 7 0 2,zl 8 1 7,zn 9 8,zf 10 1 2,zl 11 1 10,zn 12 11,zb 13 .add 9 12,zm 5 13]) (.seq (.seq (.reg [zk 6 0]) (.blk 0 (Wv))) (.seq (.reg [zm 43 5,zm 44 1,zb 45 .leq 43 44,zm 4 45]) (.ret))))
def AcL:List Nat:=[2]
def JU:IF:=⟨2,46,1,VB,[(4,none)],true,false,false⟩
def U1:C:=.loop (rest 53 [3,23,24,25]) [2] (.seq (.reg [zb 26 .lss 25 24]) (.seq (.cond (.t 26) (.skip) (.exit 0)) (.seq (.blk 1 (.seq (.reg [zm 27 25,zi 28 2 23 25,zL 29 2 28,zq 6 (.alc 2 2 (.agg [.nils,.nils])),zm 5 27,zs 2 6 29]) (.seq (.drw [zf 30 0 6,zl 31 1 30,zf 32 1 3,zl 33 1 32,zm 34 5,zi 35 2 33 34,zf 36 0 35,zl 37 1 36,zq 38 (.call Cp [.t 31,.t 37] []),zq 39 (.un .not (.t 38)),zm 40 39,zfg 41 1 6 40 false,zlg 42 1 41 40 false,zfg 43 1 3 40 false,zlg 44 1 43 40 false,zmg 45 5 40 false,zg 46 (.iad 2 (.t 44) (.t 45)) 40 false,zfg 47 1 46 40 false,zlg 48 1 47 40 false,zg 49 (.call Cp [.t 42,.t 48] []) 40 false,zg 50 (.un .not (.t 49)) 40 false,zy 51 40 50] []) (.cond (.t 51) (.seq (.reg [zo 4 false]) (.ret)) (.skip))))) (.reg [za 52 25 1,zm 25 52]))))
def Re:C:=.seq (.reg [zq 2 (.box 0 2 (.t 0)),zq 3 (.box 1 2 (.t 1)),zo 4 false]) (.seq (.seq (.reg [zf 7 0 2,zl 8 1 7,zf 9 0 3,zl 10 1 9,zq 11 (.call AD [.t 8,.t 10] []),zq 12 (.un .not (.t 11)),zm 13 12,zfg 14 1 2 13 false,zlg 15 1 14 13 false,zg 16 (.lenl (.t 15)) 13 false,zfg 17 1 3 13 false,zlg 18 1 17 13 false,zg 19 (.lenl (.t 18)) 13 false,zg 20 (.bin .neq (.t 16) (.t 19)) 13 false,zy 21 13 20]) (.cond (.t 21) (.seq (.reg [zo 4 false]) (.ret)) (.skip))) (.seq (.seq (.reg [zf 22 1 2,zl 23 1 22,zn 24 23,zk 25 0]) (.blk 0 (U1))) (.seq (.reg [zo 4 true]) (.ret))))
def Zq:List Nat:=[2,3,6]
def HN:IF:=⟨2,53,3,Re,[(4,none)],true,false,false⟩
def N9:C:=.loop (rest 26 [1,12,13,14]) [] (.seq (.reg [zb 15 .lss 14 13]) (.seq (.cond (.t 15) (.skip) (.exit 0)) (.seq (.blk 1 (.seq (.reg [zm 16 14,zi 17 1 12 14,zl 18 1 17,zm 5 16,zm 6 18]) (.seq (.reg [zm 19 6,zm 20 1,zm 21 5,zi 22 1 20 21,zl 23 1 22,zb 24 .neq 19 23]) (.cond (.t 24) (.seq (.reg [zo 4 false]) (.ret)) (.skip))))) (.reg [za 25 14 1,zm 14 25]))))
def LO:C:=.seq (.reg [zo 4 false]) (.seq (.seq (.reg [zm 7 0,zn 8 7,zm 9 1,zn 10 9,zb 11 .neq 8 10]) (.cond (.t 11) (.seq (.reg [zo 4 false]) (.ret)) (.skip))) (.seq (.seq (.reg [zm 12 0,zn 13 12,zk 14 0]) (.blk 0 (N9))) (.seq (.reg [zo 4 true]) (.ret))))
def Qp:List Nat:=[]
def C8:IF:=⟨2,26,0,LO,[(4,none)],true,false,false⟩
def Ma:C:=.loop (rest 26 [1,12,13,14]) [] (.seq (.reg [zb 15 .lss 14 13]) (.seq (.cond (.t 15) (.skip) (.exit 0)) (.seq (.blk 1 (.seq (.reg [zm 16 14,zi 17 1 12 14,zl 18 1 17,zm 5 16,zm 6 18]) (.seq (.reg [zm 19 6,zm 20 1,zm 21 5,zi 22 1 20 21,zl 23 1 22,zb 24 .neq 19 23]) (.cond (.t 24) (.seq (.reg [zo 4 false]) (.ret)) (.skip))))) (.reg [za 25 14 1,zm 14 25]))))
def Fk:C:=.seq (.reg [zo 4 false]) (.seq (.seq (.reg [zm 7 0,zn 8 7,zm 9 1,zn 10 9,zb 11 .neq 8 10]) (.cond (.t 11) (.seq (.reg [zo 4 false]) (.ret)) (.skip))) (.seq (.seq (.reg [zm 12 0,zn 13 12,zk 14 0]) (.blk 0 (Ma))) (.seq (.reg [zo 4 true]) (.ret))))
def Ny:List Nat:=[]
def BX:IF:=⟨2,26,0,Fk,[(4,none)],true,false,false⟩
def Pg:C:=.seq (.reg [zq 0 (.alc 0 2 (.agg [.nils,.nils]))]) (.seq (.reg [⟨some 1,.bsl 1 1 1 [(.c (.str ⟨#[97]⟩))],none⟩,zq 2 (.bsl 2 1 2 [(.c (.int .i64 0)),(.c (.int .i64 1))]),zq 3 (.bsl 3 1 1 [(.c (.int .i64 0))]),zq 4 (.bld [.nils,.nils] [(0,1,(.t 2)),(1,1,(.t 3))]),zq 5 (.bsl 4 2 1 [.t 4]),zq 6 (.bld [.nils,.nils] [(0,1,(.t 1)),(1,1,(.t 5))]),zs 2 0 6]) (.ret))
def WS:List Nat:=[0,1,2,3,5]
def Fg:IF:=⟨0,7,5,Pg,[(0,some (true,2))],true,false,false⟩
def NQ:C:=.seq (.reg [zq 0 (.alc 0 2 (.agg [.nils,.nils]))]) (.seq (.reg [⟨some 1,.bsl 1 1 1 [(.c (.str ⟨#[97]⟩))],none⟩,zq 2 (.bsl 2 1 1 [(.c (.int .i64 1))]),zq 3 (.bsl 3 1 1 [(.c (.int .i64 0))]),zq 4 (.bld [.nils,.nils] [(0,1,(.t 2)),(1,1,(.t 3))]),zq 5 (.bsl 4 2 1 [.t 4]),zq 6 (.bld [.nils,.nils] [(0,1,(.t 1)),(1,1,(.t 5))]),zs 2 0 6]) (.ret))
def Uy:List Nat:=[0,1,2,3,5]
def En:IF:=⟨0,7,5,NQ,[(0,some (true,2))],true,false,false⟩
def Q8:C:=.seq (.reg [zq 2 (.box 0 2 (.t 0)),zq 3 (.box 1 2 (.t 1)),zo 4 false]) (.seq (.reg [zL 5 2 2,zq 6 (.call Kf [.t 5] []),zm 7 6,zfg 8 0 2 7 true,zlg 9 1 8 7 true,zfg 10 0 3 7 true,zlg 11 1 10 7 true,zg 12 (.call AD [.t 9,.t 11] []) 7 true,zu 13 7 12,zm 14 13,zg 15 (.ld true 2 (.t 2)) 14 true,zg 16 (.call Ez [.t 15] []) 14 true,zu 17 14 16,zm 18 17,zg 19 (.ld true 2 (.t 2)) 18 true,zg 20 (.ld true 2 (.t 3)) 18 true,zg 21 (.call D3 [.t 19,.t 20] []) 18 true,zu 22 18 21,zm 4 22]) (.ret))
def Z1:List Nat:=[2,3]
def HJ:IF:=⟨2,23,2,Q8,[(4,none)],true,false,false⟩
def La:C:=.seq (.reg [zq 2 (.box 0 2 (.t 0)),zq 4 (.mov (.c .nils))]) (.seq (.seq (.reg [zm 5 1,zq 6 (.bin .lss (.t 5) (.c (.int .i64 0)))]) (.cond (.t 6) (.seq (.reg [zq 4 (.mov (.c .nils))]) (.ret)) (.skip))) (.seq (.reg [zf 7 1 2,zl 8 1 7,zm 9 1,zi 10 2 8 9,zf 11 0 10,zl 12 1 11,zm 4 12]) (.ret)))
def Ud:List Nat:=[2]
def Et:IF:=⟨2,13,1,La,[(4,none)],true,false,false⟩
def Zt:C:=.loop (rest 17 [1,7,8,9]) [] (.seq (.reg [zb 10 .lss 9 8]) (.seq (.cond (.t 10) (.skip) (.exit 0)) (.seq (.blk 1 (.seq (.reg [zi 11 1 7 9,zl 12 1 11,zm 6 12]) (.seq (.reg [zm 13 1,zm 14 6,zb 15 .eql 13 14]) (.cond (.t 15) (.seq (.reg [zo 4 true]) (.ret)) (.skip))))) (.reg [za 16 9 1,zm 9 16]))))
def Ya:C:=.seq (.reg [zo 4 false]) (.seq (.seq (.reg [zm 7 0,zn 8 7,zk 9 0]) (.blk 0 (Zt))) (.seq (.reg [zo 4 false]) (.ret)))
def AeU:List Nat:=[]
def Lk:IF:=⟨2,17,0,Ya,[(4,none)],true,false,false⟩
def Nx:C:=.seq (.reg [zq 3 (.box 0 2 (.t 0)),zk 6 0]) (.seq (.seq (.reg [zm 7 1,zq 8 (.bin .lss (.t 7) (.c (.int .i64 0)))]) (.cond (.t 8) (.seq (.reg [zk 6 (-1)]) (.ret)) (.skip))) (.seq (.reg [zf 9 1 3,zl 10 1 9,zm 11 1,zi 12 2 10 11,zf 13 1 12,zl 14 1 13,zm 15 2,zi 16 1 14 15,zl 17 1 16,zm 6 17]) (.ret)))
def Aau:List Nat:=[3]
def HA:IF:=⟨3,18,1,Nx,[(6,none)],true,false,false⟩
def TA:C:=.loop (rest 27 [0,3,8,9,10]) [1] (.seq (.reg [zb 11 .lss 10 9]) (.seq (.cond (.t 11) (.skip) (.exit 0)) (.seq (.blk 1 (.seq (.reg [zm 12 10,zi 13 2 8 10,zL 14 2 13,zq 7 (.alc 1 2 (.agg [(.int .i64 0),(.int .i64 0)])),zm 6 12,zs 2 7 14]) (.seq (.reg [zL 15 2 3,zL 16 2 7,zq 17 (.eqa false [1,1] (.t 15) (.t 16))]) (.cond (.t 17) (.seq (.reg [zm 18 6,zm 19 0,zm 4 18,zm 5 19]) (.ret)) (.skip))))) (.reg [za 20 10 1,zm 10 20]))))
def P5:C:=.seq (.reg [zq 3 (.box 0 2 (.t 1)),zk 4 0,zq 5 (.mov (.c .nils))]) (.seq (.seq (.reg [zm 8 0,zn 9 8,zk 10 0]) (.blk 0 (TA))) (.seq (.reg [zm 21 0,zn 22 21,zm 23 0,zL 24 2 3,zq 25 (.bsl 2 2 1 [.t 24]),zq 26 (.app 3 2 16 (.t 23) (.t 25)),zm 4 22,zm 5 26]) (.ret)))
def VX:List Nat:=[3,7,25,26]
def HW:IF:=⟨2,27,4,P5,[(4,none),(5,none)],false,true,false⟩
def Vv:C:=.loop (rest 92 [1,2,4,5,6,30,31,32]) [] (.seq (.reg [zb 33 .lss 32 31]) (.seq (.cond (.t 33) (.skip) (.exit 0)) (.seq (.blk 1 (.seq (.reg [zm 34 32,zi 35 1 30 32,zl 36 1 35,zm 7 34,zm 8 36]) (.reg [zm 37 6,zm 38 8,zm 39 7,zi 40 1 37 38,zs 1 40 39]))) (.reg [za 41 32 1,zm 32 41]))))
def T6:C:=.loop (rest 92 [2,4,5,6,9,12,46,47,48,64,65,66]) [7,8] (.seq (.reg [zb 67 .lss 66 65]) (.seq (.cond (.t 67) (.skip) (.exit 4)) (.seq (.blk 5 (.seq (.reg [zi 68 1 64 66,zl 69 1 68,zm 14 69]) (.seq (.seq (.reg [zm 70 14,zq 71 (.bin .geq (.t 70) (.c (.int .i64 0)))]) (.cond (.t 71) (.reg [zm 72 6,zm 73 14,zi 74 1 72 73,zl 75 1 74,zm 14 75]) (.skip))) (.reg [zf 76 1 12,zl 77 1 76,zm 78 14,zq 79 (.bsl 7 1 1 [.t 78]),zq 80 (.app 8 1 8 (.t 77) (.t 79)),zf 81 1 12,zs 1 81 80])))) (.reg [za 82 66 1,zm 66 82]))))
def UN:C:=.loop (rest 92 [2,4,5,6,9,46,47,48]) [6,7,8,9,10] (.seq (.reg [zb 49 .lss 48 47]) (.seq (.cond (.t 49) (.skip) (.exit 2)) (.seq (.blk 3 (.seq (.reg [zi 50 1 46 48,zl 51 1 50,zm 11 51]) (.seq (.reg [zf 52 1 4,zl 53 1 52,zm 54 11,zi 55 2 53 54,zf 56 0 55,zl 57 1 56,zq 58 (.bld [.nils,.nils] [(0,1,(.t 57))]),zq 12 (.alc 6 2 (.agg [.nils,.nils])),zs 2 12 58]) (.seq (.seq (.reg [zf 59 1 4,zl 60 1 59,zm 61 11,zi 62 2 60 61,zf 63 1 62,zl 64 1 63,zn 65 64,zk 66 0]) (.blk 4 (T6))) (.reg [zf 83 1 9,zl 84 1 83,zL 85 2 12,zq 86 (.bsl 9 2 1 [.t 85]),zq 87 (.app 10 2 48 (.t 84) (.t 86)),zf 88 1 9,zs 1 88 87]))))) (.reg [za 89 48 1,zm 48 89]))))
def M7:C:=.seq (.reg [zq 1 (.box 0 2 (.t 0)),zq 2 (.alc 1 2 (.agg [.nils,.nils])),zq 3 (.mov (.c .nils))]) (.seq (.seq (.reg [zL 15 2 1,zq 16 (.call Dn [.t 15] []),zq 17 (.iad 1 (.t 16) (.c (.int .i64 0))),zl 18 1 17]) (.cond (.t 18) (.seq (.reg [zf 19 0 1,zl 20 1 19,zq 21 (.call Ci [.t 20] []),zs 2 2 21,zq 3 (.mov (.c .nils))]) (.ret)) (.skip))) (.seq (.reg [zL 22 2 1,zq 23 (.call FE [.t 22] []),zq 4 (.alc 2 2 (.agg [.nils,.nils])),zs 2 4 23]) (.seq (.reg [zL 24 2 4,zq 25 (.call Eb [.t 24] []),zm 5 25]) (.seq (.reg [zf 26 1 1,zl 27 1 26,zn 28 27,zq 29 (.mks 3 1 8 (.int .i64 0) (.t 28) (.t 28)),zm 6 29]) (.seq (.seq (.reg [zm 30 5,zn 31 30,zk 32 0]) (.blk 0 (Vv))) (.seq (.reg [zf 42 0 1,zl 43 1 42,zq 44 (.app 4 1 16 (.c .nils) (.t 43)),zq 45 (.bld [.nils,.nils] [(0,1,(.t 44))]),zq 9 (.alc 5 2 (.agg [.nils,.nils])),zs 2 9 45]) (.seq (.seq (.reg [zm 46 5,zn 47 46,zk 48 0]) (.blk 2 (UN))) (.seq (.reg [zL 90 2 9,zm 91 5,zs 2 2 90,zm 3 91]) (.ret)))))))))
def ZK:List Nat:=[1,2,4,29,44,9,12,79,80,86,87]
def HE:IF:=⟨1,92,11,M7,[(2,some (true,2)),(3,none)],true,false,false⟩
def P2:C:=.loop (rest 44 [0,1,5]) [] (.seq (.seq (.reg [zm 6 5,zm 7 0,zn 8 7,zb 9 .lss 6 8,zm 10 9,zmg 11 0 10 true,zmg 12 5 10 true,zg 13 (.iad 1 (.t 11) (.t 12)) 10 true,zlg 14 1 13 10 true,zmg 15 1 10 true,zg 16 (.bin .lss (.t 14) (.t 15)) 10 true,zu 17 10 16]) (.cond (.t 17) (.skip) (.exit 0))) (.blk 1 (.reg [zm 18 5,za 19 18 1,zm 5 19])))
def T9:C:=.seq (.reg [zq 4 (.mov (.c .nils))]) (.seq (.reg [zk 5 0]) (.seq (.blk 0 (P2)) (.seq (.seq (.reg [zm 20 5,zm 21 0,zn 22 21,zb 23 .lss 20 22,zm 24 23,zmg 25 0 24 true,zmg 26 5 24 true,zg 27 (.iad 1 (.t 25) (.t 26)) 24 true,zlg 28 1 27 24 true,zmg 29 1 24 true,zg 30 (.bin .eql (.t 28) (.t 29)) 24 true,zu 31 24 30]) (.cond (.t 31) (.seq (.reg [zm 32 0,zm 4 32]) (.ret)) (.skip))) (.seq (.drs [zm 33 0,zm 34 5,zq 35 (.sli 1 (.t 33) none (some (.t 34)) none),zq 36 (.app 0 1 8 (.c .nils) (.t 35)),zm 37 1,zq 38 (.bsl 1 1 1 [.t 37]),zq 39 (.app 2 1 8 (.t 36) (.t 38)),zm 40 0,zm 41 5,zq 42 (.sli 1 (.t 40) (some (.t 41)) none none),zq 43 (.app 3 1 8 (.t 39) (.t 42)),zm 4 43] [(2,5),(3,5),(3,9),(5,9),(6,9)]) (.ret)))))
def AcC:List Nat:=[36,38,39,43]
def Lb:IF:=⟨2,44,4,T9,[(4,none)],false,true,false⟩
def SE:C:=.seq (.reg [zq 2 (.box 0 2 (.t 0)),zq 3 (.box 1 2 (.t 1)),zk 4 0]) (.seq (.blk 0 (.seq (.reg [zL 6 2 2,zq 7 (.call CS [.t 6] []),zq 8 (.un .not (.t 7)),zm 9 8,zg 10 (.ld true 2 (.t 3)) 9 false,zg 11 (.call CS [.t 10] []) 9 false,zg 12 (.un .not (.t 11)) 9 false,zy 13 9 12,zm 5 13]) (.cond (.t 5) (.seq (.reg [zk 4 30]) (.ret)) (.seq (.reg [zf 15 0 2,zl 16 1 15,zf 17 0 3,zl 18 1 17,zq 19 (.call Bf [.t 16,.t 18] []),zq 20 (.un .not (.t 19)),zm 14 20]) (.cond (.t 14) (.seq (.reg [zk 4 10]) (.ret)) (.skip)))))) (.seq (.reg [zk 4 0]) (.ret)))
def SD:List Nat:=[2,3]
def DJ:IF:=⟨2,21,2,SE,[(4,none)],true,false,false⟩
def Xu:C:=.seq (.reg [zq 2 (.box 0 2 (.t 0)),zq 4 (.alc 1 2 (.agg [.nils,.nils])),zk 5 0]) (.seq (.seq (.reg [zm 6 1,zq 7 (.un .not (.t 6))]) (.cond (.t 7) (.seq (.reg [zq 8 (.bld [.nils,.nils] []),zs 2 4 8,zk 5 2]) (.ret)) (.skip))) (.seq (.reg [zL 9 2 2,zs 2 4 9,zk 5 0]) (.ret)))
def Xj:List Nat:=[2,4]
def FL:IF:=⟨2,10,2,Xu,[(4,some (true,2)),(5,none)],true,false,false⟩
def Np:C:=.seq (.reg [zq 2 (.box 0 2 (.t 0)),zq 3 (.box 1 2 (.t 1)),zq 4 (.alc 2 2 (.agg [.nils,.nils])),zo 5 false]) (.seq (.frzt 2 (.frzt 3 (.reg [zq 9 (.mkf f_meet_Met_1 [.t 2,.t 3]),zq 10 (.mkf f_meet_Met_2 [.t 2,.t 3]),zq 11 (.bld [.nilf,.nilf] [(0,1,(.t 9)),(1,1,(.t 10))]),zq 6 (.alc 3 2 (.agg [.nilf,.nilf])),zs 2 6 11]))) (.seq (.reg [zL 13 2 6,zf 14 0 2,zl 15 1 14,zq 16 (.bld [(.int .i64 0),(.int .i64 0)] []),zq 17 (.call Ag [.t 13,.t 15,.t 16] []),zm 12 17,zq 18 (.ext (.t 12) 0),zq 19 (.ext (.t 12) 1),zq 7 (.alc 4 2 (.agg [.nils,.nils])),zs 2 7 18,zm 8 19]) (.seq (.seq (.reg [zm 20 8,zq 21 (.un .not (.t 20))]) (.cond (.t 21) (.seq (.reg [zq 22 (.bld [.nils,.nils] []),zs 2 4 22,zo 5 false]) (.ret)) (.skip))) (.seq (.reg [zL 24 2 7,zq 25 (.call A0 [.t 24] []),zm 23 25,zq 26 (.ext (.t 23) 0),zq 27 (.ext (.t 23) 1),zs 2 7 26]) (.seq (.reg [zL 28 2 7,zs 2 4 28,zo 5 true]) (.ret))))))
def ZD:List Nat:=[2,3,4,6,7]
def HC:IF:=⟨2,29,5,Np,[(4,some (true,2)),(5,none)],true,false,false⟩
def EK:C:=.seq (.reg [zq 2 (.box 0 2 (.t 0)),zq 3 (.box 1 2 (.t 1)),zq 4 (.alc 2 2 (.agg [.nils,.nils])),zo 5 false]) (.seq (.reg [zL 14 2 2,zq 15 (.call A0 [.t 14] []),zm 13 15,zq 16 (.ext (.t 13) 0),zq 17 (.ext (.t 13) 1),zs 2 2 16,zm 6 17]) (.seq (.reg [zL 19 2 3,zq 20 (.call A0 [.t 19] []),zm 18 20,zq 21 (.ext (.t 18) 0),zq 22 (.ext (.t 18) 1),zs 2 3 21,zm 7 22]) (.seq (.blk 0 (.seq (.reg [zm 24 6,zn 25 24,zq 26 (.bin .eql (.t 25) (.c (.int .i64 0))),zm 23 26]) (.cond (.t 23) (.seq (.reg [zL 27 2 3,zs 2 4 27,zo 5 true]) (.ret)) (.seq (.reg [zm 29 7,zn 30 29,zq 31 (.bin .eql (.t 30) (.c (.int .i64 0))),zm 28 31]) (.cond (.t 28) (.seq (.reg [zL 32 2 2,zs 2 4 32,zo 5 true]) (.ret)) (.skip)))))) (.seq (.reg [zq 8 (.alc 3 1 .nilf),zr (.sto 1 (.t 8) (.c (.fn f_meet_Joined_1 [])))]) (.seq (.reg [zq 9 (.alc 4 1 .nilf),zr (.sto 1 (.t 9) (.c (.fn AY [])))]) (.seq (.frzt 2 (.frzt 3 (.frzt 8 (.frzt 9 (.reg [zq 33 (.mkf f_meet_Joined_3 [.t 8,.t 2,.t 3]),zq 34 (.mkf f_meet_Joined_4 [.t 9,.t 2,.t 3]),zq 35 (.bld [.nilf,.nilf] [(0,1,(.t 33)),(1,1,(.t 34))]),zq 10 (.alc 5 2 (.agg [.nilf,.nilf])),zs 2 10 35]))))) (.seq (.reg [zL 37 2 10,zf 38 0 2,zl 39 1 38,zq 40 (.bld [(.int .i64 0),(.int .i64 0)] []),zq 41 (.call Ag [.t 37,.t 39,.t 40] []),zm 36 41,zq 42 (.ext (.t 36) 0),zq 43 (.ext (.t 36) 1),zq 11 (.alc 6 2 (.agg [.nils,.nils])),zs 2 11 42,zm 12 43]) (.seq (.seq (.reg [zm 44 12,zq 45 (.un .not (.t 44))]) (.cond (.t 45) (.seq (.reg [zq 46 (.bld [.nils,.nils] []),zs 2 4 46,zo 5 false]) (.ret)) (.skip))) (.seq (.reg [zL 48 2 11,zq 49 (.call A0 [.t 48] []),zm 47 49,zq 50 (.ext (.t 47) 0),zq 51 (.ext (.t 47) 1),zs 2 11 50]) (.seq (.reg [zL 52 2 11,zs 2 4 52,zo 5 true]) (.ret)))))))))))
def Sy:List Nat:=[2,3,4,8,9,10,11]
def DG:IF:=⟨2,53,7,EK,[(4,some (true,2)),(5,none)],true,false,false⟩
def Rc:C:=.seq (.reg [zq 1 (.box 0 2 (.t 0)),zo 2 false]) (.seq (.reg [zf 3 0 1,zl 4 1 3,zn 5 4,zq 6 (.bin .eql (.t 5) (.c (.int .i64 0))),zm 7 6,zfg 8 1 1 7 true,zlg 9 1 8 7 true,zg 10 (.lenl (.t 9)) 7 true,zg 11 (.bin .eql (.t 10) (.c (.int .i64 0))) 7 true,zu 12 7 11,zm 2 12]) (.ret))
def Yz:List Nat:=[1]
def HF:IF:=⟨1,13,1,Rc,[(2,none)],true,false,false⟩
def Aal:C:=.loop (rest 26 [0,8,9,10]) [] (.seq (.reg [zb 11 .lss 10 9]) (.seq (.cond (.t 11) (.skip) (.exit 0)) (.seq (.blk 1 (.seq (.reg [zm 12 10,zi 13 1 8 10,zl 14 1 13,zm 3 12,zm 4 14]) (.seq (.reg [zm 15 4,zq 16 (.call HP [.t 15] []),zq 17 (.un .not (.t 16)),zm 18 17,zmg 19 0 18 false,zmg 20 4 18 false,zg 21 (.call E7 [.t 19,.t 20] []) 18 false,zmg 22 3 18 false,zg 23 (.bin .neq (.t 21) (.t 22)) 18 false,zy 24 18 23]) (.cond (.t 24) (.seq (.reg [zo 2 false]) (.ret)) (.skip))))) (.reg [za 25 10 1,zm 10 25]))))
def SS:C:=.seq (.reg [zo 2 false]) (.seq (.seq (.reg [zm 5 0,zn 6 5,zq 7 (.bin .gtr (.t 6) (.c (.int .i64 8)))]) (.cond (.t 7) (.seq (.reg [zo 2 false]) (.ret)) (.skip))) (.seq (.seq (.reg [zm 8 0,zn 9 8,zk 10 0]) (.blk 0 (Aal))) (.seq (.reg [zo 2 true]) (.ret))))
def Aep:List Nat:=[]
def Ly:IF:=⟨1,26,0,SS,[(2,none)],true,false,false⟩
def V9:C:=.loop (rest 33 [0,2,3,7,8]) [2,3] (.seq (.reg [zb 9 .lss 8 7]) (.seq (.cond (.t 9) (.skip) (.exit 0)) (.seq (.blk 1 (.seq (.reg [zm 10 8,zm 4 10]) (.reg [zf 11 0 3,zl 12 1 11,zm 13 4,zq 14 (.bsl 2 1 1 [.t 13]),zq 15 (.app 3 1 8 (.t 12) (.t 14)),zf 16 0 3,zs 1 16 15]))) (.reg [za 17 8 1,zm 8 17]))))
def Ws:C:=.loop (rest 33 [0,2,3,19,20]) [4,5] (.seq (.reg [zb 21 .lss 20 19]) (.seq (.cond (.t 21) (.skip) (.exit 2)) (.seq (.blk 3 (.reg [zf 22 1 3,zl 23 1 22,zq 24 (.bsl 4 1 1 [(.c (.int .i64 0))]),zq 25 (.app 5 1 8 (.t 23) (.t 24)),zf 26 1 3,zs 1 26 25])) (.reg [za 27 20 1,zm 20 27]))))
def Uw:C:=.seq (.reg [zq 2 (.alc 0 2 (.agg [.nils,.nils]))]) (.seq (.reg [zq 3 (.alc 1 2 (.agg [.nils,.nils]))]) (.seq (.seq (.reg [zm 5 0,zn 6 5,zq 7 (.bin .shl (.c (.int .i64 1)) (.t 6)),zk 8 0]) (.blk 0 (V9))) (.seq (.seq (.reg [zm 18 0,zn 19 18,zk 20 0]) (.blk 2 (Ws))) (.seq (.drw [zm 28 0,zq 29 (.app 6 1 16 (.c .nils) (.t 28)),zL 30 2 3,zq 31 (.bsl 7 2 1 [.t 30]),zq 32 (.bld [.nils,.nils] [(0,1,(.t 29)),(1,1,(.t 31))]),zs 2 2 32] [(1,2),(1,3)]) (.ret)))))
def Acq:List Nat:=[2,3,14,15,24,25,29,31]
def JV:IF:=⟨1,33,8,Uw,[(2,some (true,2))],true,false,false⟩
def Po:C:=.loop (rest 19 [0,2,3,5,6]) [2,3] (.seq (.reg [zb 7 .lss 6 5]) (.seq (.cond (.t 7) (.skip) (.exit 0)) (.seq (.blk 1 (.reg [zf 8 1 3,zl 9 1 8,zq 10 (.bsl 2 1 1 [(.c (.int .i64 (-1)))]),zq 11 (.app 3 1 8 (.t 9) (.t 10)),zf 12 1 3,zs 1 12 11])) (.reg [za 13 6 1,zm 6 13]))))
def Mu:C:=.seq (.reg [zq 2 (.alc 0 2 (.agg [.nils,.nils]))]) (.seq (.reg [zq 3 (.alc 1 2 (.agg [.nils,.nils]))]) (.seq (.seq (.reg [zm 4 0,zn 5 4,zk 6 0]) (.blk 0 (Po))) (.seq (.drw [zm 14 0,zq 15 (.app 4 1 16 (.c .nils) (.t 14)),zL 16 2 3,zq 17 (.bsl 5 2 1 [.t 16]),zq 18 (.bld [.nils,.nils] [(0,1,(.t 15)),(1,1,(.t 17))]),zs 2 2 18] [(1,2),(1,3)]) (.ret))))
def Tc:List Nat:=[2,3,10,11,15,17]
def Dz:IF:=⟨1,19,6,Mu,[(2,some (true,2))],true,false,false⟩
def EJ:C:=.seq (.reg [zq 2 (.box 0 1 (.t 0)),zk 4 0]) (.seq (.seq (.reg [zm 5 1,zq 6 (.call Aj [.t 5,(.c (.fn B5 []))] [])]) (.cond (.t 6) (.seq (.reg [zk 4 30]) (.ret)) (.skip))) (.seq (.seq (.reg [zl 7 1 2,zq 8 (.call C3 [.t 7] []),zq 9 (.un .not (.t 8)),zm 10 9,zmg 11 1 10 false,zg 12 (.mkf B3 [.t 2]) 10 false,zg 13 (.call Aj [.t 11,.t 12] []) 10 false,zy 14 10 13]) (.cond (.t 14) (.seq (.reg [zk 4 10]) (.ret)) (.skip))) (.seq (.reg [zk 4 0]) (.ret))))
def S2:List Nat:=[2]
def DF:IF:=⟨2,15,1,EJ,[(4,none)],true,false,false⟩
def QX:C:=.loop (rest 27 [0,2,3,11,12]) [3,4] (.seq (.reg [zb 13 .lss 12 11]) (.seq (.cond (.t 13) (.skip) (.exit 0)) (.seq (.blk 1 (.seq (.reg [zm 14 12,zm 4 14]) (.reg [zf 15 0 3,zl 16 1 15,zm 17 4,zq 18 (.bsl 3 1 1 [.t 17]),zq 19 (.app 4 1 8 (.t 16) (.t 18)),zf 20 0 3,zs 1 20 19]))) (.reg [za 21 12 1,zm 12 21]))))
def NN:C:=.seq (.reg [zq 2 (.alc 0 2 (.agg [.nils,.nils]))]) (.seq (.reg [zm 5 0,zn 6 5,zq 7 (.mks 1 1 8 (.int .i64 0) (.t 6) (.t 6)),zq 8 (.bld [.nils,.nils] [(1,1,(.t 7))]),zq 3 (.alc 2 2 (.agg [.nils,.nils])),zs 2 3 8]) (.seq (.seq (.reg [zm 9 0,zn 10 9,zq 11 (.bin .shl (.c (.int .i64 1)) (.t 10)),zk 12 0]) (.blk 0 (QX))) (.seq (.drw [zm 22 0,zq 23 (.call AA [.t 22] []),zL 24 2 3,zq 25 (.bsl 5 2 1 [.t 24]),zq 26 (.bld [.nils,.nils] [(0,1,(.t 23)),(1,1,(.t 25))]),zs 2 2 26] [(1,2),(1,3)]) (.ret))))
def TP:List Nat:=[2,7,3,18,19,25]
def Eh:IF:=⟨1,27,6,NN,[(2,some (true,2))],true,false,false⟩
def LQ:C:=.seq (.reg [zq 2 (.alc 0 2 (.agg [.nils,.nils]))]) (.seq (.reg [zm 3 0,zq 4 (.call AA [.t 3] []),zq 5 (.bsl 1 1 1 [(.c (.int .i64 (-1)))]),zm 6 0,zn 7 6,zq 8 (.call AR [.t 5,.t 7] [2]),zq 9 (.bld [.nils,.nils] [(1,1,(.t 8))]),zq 10 (.bsl 3 2 1 [.t 9]),zq 11 (.bld [.nils,.nils] [(0,1,(.t 4)),(1,1,(.t 10))]),zs 2 2 11]) (.ret))
def QZ:List Nat:=[2,5,8,10]
def C7:IF:=⟨1,12,4,LQ,[(2,some (true,2))],true,false,false⟩
def Sc:C:=.loop (rest 66 [1,2,3,25,26,27]) [] (.seq (.reg [zb 28 .lss 27 26]) (.seq (.cond (.t 28) (.skip) (.exit 0)) (.seq (.blk 1 (.seq (.reg [zi 29 1 25 27,zl 30 1 29,zm 8 30]) (.seq (.reg [zm 31 8,zq 32 (.bin .lss (.t 31) (.c (.int .i64 (-1)))),zm 33 32,zmg 34 8 33 false,zmg 35 1 33 false,zg 36 (.bin .geq (.t 34) (.t 35)) 33 false,zy 37 33 36]) (.cond (.t 37) (.seq (.reg [zo 6 false]) (.ret)) (.skip))))) (.reg [za 38 27 1,zm 27 38]))))
def SQ:C:=.loop (rest 66 [2,3,40,41,42,52,53,54]) [] (.seq (.reg [zb 55 .lss 54 53]) (.seq (.cond (.t 55) (.skip) (.exit 4)) (.seq (.blk 5 (.seq (.reg [zi 56 1 52 54,zl 57 1 56,zm 12 57]) (.seq (.reg [zf 58 1 3,zl 59 1 58,zm 60 12,zi 61 1 59 60,zl 62 1 61,zq 63 (.bin .lss (.t 62) (.c (.int .i64 0)))]) (.cond (.t 63) (.seq (.reg [zo 6 false]) (.ret)) (.skip))))) (.reg [za 64 54 1,zm 54 64]))))
def Sz:C:=.loop (rest 66 [2,3,40,41,42]) [] (.seq (.reg [zb 43 .lss 42 41]) (.seq (.cond (.t 43) (.skip) (.exit 2)) (.seq (.blk 3 (.seq (.reg [zi 44 1 40 42,zl 45 1 44,zm 10 45]) (.seq (.seq (.reg [zm 46 2,zm 47 10,zq 48 (.call JO [.t 46,.t 47] []),zq 49 (.un .not (.t 48))]) (.cond (.t 49) (.seq (.reg [zo 6 false]) (.ret)) (.skip))) (.seq (.reg [zm 50 2,zm 51 10,zq 52 (.call Hy [.t 50,.t 51] []),zn 53 52,zk 54 0]) (.blk 4 (SQ)))))) (.reg [za 65 42 1,zm 42 65]))))
def PH:C:=.seq (.reg [zq 3 (.box 0 2 (.t 0)),zo 6 false]) (.seq (.seq (.reg [zf 13 1 3,zl 14 1 13,zn 15 14,zm 16 2,zb 17 .neq 15 16,zm 18 17,zfg 19 0 3 18 false,zlg 20 1 19 18 false,zg 21 (.call Ef [.t 20] []) 18 false,zg 22 (.un .not (.t 21)) 18 false,zy 23 18 22]) (.cond (.t 23) (.seq (.reg [zo 6 false]) (.ret)) (.skip))) (.seq (.seq (.reg [zf 24 1 3,zl 25 1 24,zn 26 25,zk 27 0]) (.blk 0 (Sc))) (.seq (.seq (.reg [zf 39 0 3,zl 40 1 39,zn 41 40,zk 42 0]) (.blk 2 (Sz))) (.seq (.reg [zo 6 true]) (.ret)))))
def V6:List Nat:=[3]
def FJ:IF:=⟨3,66,1,PH,[(6,none)],true,false,false⟩
def QM:C:=.loop (rest 94 [1,3,5,6,27,28,29,41,42,43]) [] (.seq (.reg [zb 44 .lss 43 42]) (.seq (.cond (.t 44) (.skip) (.exit 2)) (.seq (.blk 3 (.seq (.reg [zm 45 43,zi 46 1 41 43,zl 47 1 46,zm 7 45,zm 8 47]) (.seq (.seq (.reg [zm 48 8,zq 49 (.bin .lss (.t 48) (.c (.int .i64 (-1)))),zm 50 49,zmg 51 8 50 false,zmg 52 3 50 false,zg 53 (.bin .geq (.t 51) (.t 52)) 50 false,zy 54 50 53]) (.cond (.t 54) (.seq (.reg [zo 2 false]) (.ret)) (.skip))) (.seq (.reg [zm 55 8,zq 56 (.bin .geq (.t 55) (.c (.int .i64 0)))]) (.cond (.t 56) (.reg [zm 57 6,zm 58 7,zq 59 (.bin .shl (.c (.int .i64 1)) (.t 58)),zb 60 .or 57 59,zm 6 60]) (.skip)))))) (.reg [za 61 43 1,zm 43 61]))))
def Qq:C:=.loop (rest 94 [1,3,5,6,27,28,29,63,64,65]) [] (.seq (.reg [zb 66 .lss 65 64]) (.seq (.cond (.t 66) (.skip) (.exit 4)) (.seq (.blk 5 (.seq (.reg [zm 67 65,zi 68 1 63 65,zl 69 1 68,zm 9 67,zm 10 69]) (.seq (.reg [zm 70 10,zq 71 (.bin .lss (.t 70) (.c (.int .i64 0))),zm 72 71,zmg 73 10 72 false,zmg 74 6 72 false,zg 75 (.bin .andNot (.t 73) (.t 74)) 72 false,zg 76 (.bin .neq (.t 75) (.c (.int .i64 0))) 72 false,zy 77 72 76,zm 78 77,zmg 79 9 78 false,zg 80 (.bin .gtr (.t 79) (.c (.int .i64 0))) 78 false,zmg 81 80 78 false,zfg 82 0 5 81 true,zlg 83 1 82 81 true,zmg 84 9 81 true,zg 85 (.bin .sub (.t 84) (.c (.int .i64 1))) 81 true,zg 86 (.iad 1 (.t 83) (.t 85)) 81 true,zlg 87 1 86 81 true,zmg 88 10 81 true,zg 89 (.bin .geq (.t 87) (.t 88)) 81 true,zg 90 (.pick (.t 81) (.t 89) (.c (.bool false))) 78 false,zy 91 78 90]) (.cond (.t 91) (.seq (.reg [zo 2 false]) (.ret)) (.skip))))) (.reg [za 92 65 1,zm 65 92]))))
def Qv:C:=.loop (rest 94 [1,3,27,28,29]) [1] (.seq (.reg [zb 30 .lss 29 28]) (.seq (.cond (.t 30) (.skip) (.exit 0)) (.seq (.blk 1 (.seq (.reg [zi 31 2 27 29,zL 32 2 31,zq 5 (.alc 1 2 (.agg [.nils,.nils])),zs 2 5 32]) (.seq (.seq (.reg [zf 33 1 5,zl 34 1 33,zn 35 34,zf 36 0 1,zl 37 1 36,zn 38 37,zb 39 .neq 35 38]) (.cond (.t 39) (.seq (.reg [zo 2 false]) (.ret)) (.skip))) (.seq (.reg [zk 6 0]) (.seq (.seq (.reg [zf 40 1 5,zl 41 1 40,zn 42 41,zk 43 0]) (.blk 2 (QM))) (.seq (.reg [zf 62 0 5,zl 63 1 62,zn 64 63,zk 65 0]) (.blk 4 (Qq)))))))) (.reg [za 93 29 1,zm 29 93]))))
def ND:C:=.seq (.reg [zq 1 (.box 0 2 (.t 0)),zo 2 false]) (.seq (.reg [zf 11 1 1,zl 12 1 11,zn 13 12,zm 3 13]) (.seq (.seq (.reg [zf 14 0 1,zl 15 1 14,zq 16 (.call C3 [.t 15] []),zq 17 (.un .not (.t 16)),zm 18 17,zmg 19 3 18 false,zg 20 (.bin .lss (.t 19) (.c (.int .i64 1))) 18 false,zy 21 18 20,zm 22 21,zmg 23 3 22 false,zg 24 (.bin .gtr (.t 23) (.c (.int .i64 500))) 22 false,zy 25 22 24]) (.cond (.t 25) (.seq (.reg [zo 2 false]) (.ret)) (.skip))) (.seq (.seq (.reg [zf 26 1 1,zl 27 1 26,zn 28 27,zk 29 0]) (.blk 0 (Qv))) (.seq (.reg [zo 2 true]) (.ret)))))
def UE:List Nat:=[1,5]
def Ej:IF:=⟨1,94,2,ND,[(2,none)],true,false,false⟩
def H4:C:=.seq (.reg [zq 2 (.mov (.c .nils))]) (.seq (.seq (.reg [zm 3 0,zq 4 (.nilc false (.t 3) (.c .nils))]) (.cond (.t 4) (.seq (.reg [zq 2 (.mov (.c .nils))]) (.ret)) (.skip))) (.seq (.reg [zq 5 (.bsl 0 1 0 []),zm 6 0,zq 7 (.app 1 1 8 (.t 5) (.t 6)),zm 2 7]) (.ret)))
def Me:List Nat:=[5,7]
def BB:IF:=⟨1,8,2,H4,[(2,none)],true,true,true⟩
def XC:C:=.seq (.reg [zq 1 (.box 0 1 (.t 0)),zq 2 (.mov (.c .nilf))]) (.seq (.reg [zq 3 (.mkf E5 [.t 1]),zm 2 3]) (.ret))
def Aew:List Nat:=[1]
def Ll:IF:=⟨1,4,1,XC,[(2,none)],true,false,false⟩
def H9:C:=.loop (rest 102 [1,3,6,7,8,9,10,11,12,13,47,48,49]) [] (.seq (.reg [zb 50 .lss 49 48]) (.seq (.cond (.t 50) (.skip) (.exit 2)) (.seq (.blk 3 (.seq (.reg [zi 51 1 47 49,zl 52 1 51,zm 15 52]) (.reg [zm 53 13,zm 54 15,zb 55 .or 53 54,zm 13 55]))) (.reg [za 56 49 1,zm 49 56]))))
def B9:C:=.reg [zm 16 59]
def B8:C:=.blk 5 (.seq (.drw [zf 60 1 3,zl 61 1 60,zl 62 1 9,zl 63 1 11,zi 64 2 62 63,zL 65 2 64,zm 66 16,zq 67 (.calv (.t 61) [.t 65,.t 66] []),zq 17 (.alc 13 2 (.agg [(.int .i64 0),(.int .i64 0)])),zs 2 17 67] [(0,8),(1,8),(2,8),(3,8),(4,8),(5,8),(7,8)]) (.seq (.reg [zl 69 1 8,zL 70 2 17,zq 71 (.lok (true,[1,1]) (.int .i64 0) true (.t 69) (.t 70)),zm 68 71,zq 72 (.ext (.t 68) 0),zq 73 (.ext (.t 68) 1),zm 18 72,zm 19 73]) (.seq (.seq (.reg [zm 74 19,zq 75 (.un .not (.t 74))]) (.cond (.t 75) (.seq (.seq (.reg [zl 76 1 9,zn 77 76,zq 78 (.bin .eql (.t 77) (.c (.int .i64 500)))]) (.cond (.t 78) (.seq (.reg [zq 79 (.bld [.nils,.nils] []),zs 2 6 79,zr (.sto 1 (.t 7) (.c (.bool false)))]) (.ret)) (.skip))) (.seq (.reg [zl 80 1 9,zn 81 80,zm 18 81]) (.seq (.reg [zl 82 1 8,zL 83 2 17,zm 84 18,zr (.mup (true,[1,1]) (.t 82) (.t 83) (.t 84))]) (.reg [zl 85 1 9,zL 86 2 17,zq 87 (.bsl 14 2 1 [.t 86]),zq 88 (.app 15 2 16 (.t 85) (.t 87)),zs 1 9 88])))) (.skip))) (.reg [zf 89 1 12,zl 90 1 89,zm 91 16,zm 92 18,zi 93 1 90 91,zs 1 93 92]))))
def H5:C:=.loop (rest 102 [1,3,6,7,8,9,10,11]) [10,11,12,13,14,15,16,17] (.seq (.seq (.reg [zl 28 1 11,zl 29 1 9,zn 30 29,zb 31 .lss 28 30]) (.cond (.t 31) (.skip) (.exit 0))) (.seq (.blk 1 (.seq (.drw [zf 34 0 3,zl 35 1 34,zl 36 1 9,zl 37 1 11,zi 38 2 36 37,zL 39 2 38,zq 40 (.calv (.t 35) [.t 39] []),zq 41 (.bsl 10 1 1 [(.c (.int .i64 (-1)))]),zm 42 1,zn 43 42,zq 44 (.call AR [.t 41,.t 43] [11]),zq 45 (.bld [.nils,.nils] [(0,1,(.t 40)),(1,1,(.t 44))]),zq 12 (.alc 12 2 (.agg [.nils,.nils])),zs 2 12 45] [(0,7),(1,7),(2,7),(3,7),(4,7),(5,7),(6,7),(6,9),(7,9),(0,12),(1,12),(2,12),(3,12),(4,12),(5,12),(6,12),(7,12),(9,12),(10,12),(11,12)]) (.seq (.reg [zk 13 0]) (.seq (.seq (.reg [zf 46 0 12,zl 47 1 46,zn 48 47,zk 49 0]) (.blk 2 (H9))) (.seq (.seq (.reg [zm 57 13,zq 58 (.call Ho [.t 57] [])]) (.blk 4 (.rngf (.t 58) [59] (rest 102 [1,3,6,7,8,9,10,11,12]) [13,14,15] B9 B8))) (.reg [zf 94 1 10,zl 95 1 94,zL 96 2 12,zq 97 (.bsl 16 2 1 [.t 96]),zq 98 (.app 17 2 48 (.t 95) (.t 97)),zf 99 1 10,zs 1 99 98])))))) (.seq (.seq (.reg [zl 100 1 11]) (.frzt 11 (.reg [zq 11 (.alc 9 1 (.int .i64 0)),zs 1 11 100]))) (.reg [zl 32 1 11,za 33 32 1,zs 1 11 33]))))
def DU:C:=.seq (.reg [zq 3 (.box 0 2 (.t 0)),zq 5 (.box 1 2 (.t 2)),zq 6 (.alc 2 2 (.agg [.nils,.nils])),zq 7 (.alc 3 1 (.bool false))]) (.seq (.reg [zq 20 (.mkm 4),zL 21 2 5,zr (.mup (true,[1,1]) (.t 20) (.t 21) (.c (.int .i64 0))),zm 22 20,zq 8 (.alc 5 1 .nilm),zs 1 8 22]) (.seq (.reg [zL 23 2 5,zq 24 (.bsl 6 2 1 [.t 23]),zq 9 (.alc 7 1 .nils),zs 1 9 24]) (.seq (.reg [zm 25 1,zq 26 (.call AA [.t 25] []),zq 27 (.bld [.nils,.nils] [(0,1,(.t 26))]),zq 10 (.alc 8 2 (.agg [.nils,.nils])),zs 2 10 27]) (.seq (.seq (.reg [zq 11 (.alc 9 1 (.int .i64 0)),zr (.sto 1 (.t 11) (.c (.int .i64 0)))]) (.blk 0 (H5))) (.seq (.reg [zL 101 2 10,zs 2 6 101,zr (.sto 1 (.t 7) (.c (.bool true)))]) (.ret))))))
def JB:List Nat:=[3,5,6,7,20,8,24,9,10,11,41,44,12,17,87,88,97,98,11]
def AP:IF:=⟨3,102,19,DU,[(6,some (true,2)),(7,some (false,1))],true,false,false⟩
def Cy:C:=.seq (.reg [zm 7 26]) (.reg [zm 8 27])
def CD:C:=.blk 1 (.seq (.reg [zl 28 1 6,zm 29 7,zl 30 1 5,zn 31 30,zi 32 1 28 29,zs 1 32 31]) (.seq (.reg [zl 33 1 5,zm 34 7,zq 35 (.bsl 6 1 1 [.t 34]),zq 36 (.app 7 1 8 (.t 33) (.t 35)),zs 1 5 36]) (.reg [zf 37 1 4,zl 38 1 37,zm 39 8,zq 40 (.bld [.nils,.nils] [(0,1,(.t 39))]),zq 41 (.bsl 8 2 1 [.t 40]),zq 42 (.app 9 2 48 (.t 38) (.t 41)),zf 43 1 4,zs 1 43 42])))
def NA:C:=.loop (rest 104 [1,2,3,4,5,6,9,10,11,50,51,52,62,63,64]) [] (.seq (.reg [zb 65 .lss 64 63]) (.seq (.cond (.t 65) (.skip) (.exit 4)) (.seq (.blk 5 (.seq (.reg [zi 66 1 62 64,zl 67 1 66,zm 13 67]) (.reg [zm 68 11,zm 69 13,zb 70 .or 68 69,zm 11 70]))) (.reg [za 71 64 1,zm 64 71]))))
def J4:C:=.reg [zm 15 79]
def J2:C:=.blk 7 (.drw [zl 80 1 14,zm 81 15,zl 82 1 6,zf 83 1 1,zl 84 1 83,zl 85 1 10,zi 86 2 84 85,zf 87 1 86,zl 88 1 87,zm 89 15,zi 90 1 88 89,zl 91 1 90,zi 92 1 82 91,zl 93 1 92,zi 94 1 80 81,zs 1 94 93] [])
def Nw:C:=.loop (rest 104 [1,2,3,4,5,6,50,51,52]) [10,11,12,13] (.seq (.reg [zb 53 .lss 52 51]) (.seq (.cond (.t 53) (.skip) (.exit 2)) (.seq (.blk 3 (.seq (.reg [zm 54 52,zi 55 1 50 52,zl 56 1 55,zq 10 (.alc 10 1 (.int .i64 0)),zm 9 54,zs 1 10 56]) (.seq (.reg [zk 11 0]) (.seq (.seq (.reg [zf 57 1 4,zl 58 1 57,zm 59 9,zi 60 2 58 59,zf 61 0 60,zl 62 1 61,zn 63 62,zk 64 0]) (.blk 4 (NA))) (.seq (.reg [zq 72 (.bsl 11 1 1 [(.c (.int .i64 (-1)))]),zf 73 0 1,zl 74 1 73,zn 75 74,zq 76 (.call AR [.t 72,.t 75] [12]),zq 14 (.alc 13 1 .nils),zs 1 14 76]) (.seq (.seq (.reg [zm 77 11,zq 78 (.call Ho [.t 77] [])]) (.blk 6 (.rngf (.t 78) [79] (rest 104 [1,2,3,4,5,6,9,10,14,50,51,52]) [] J4 J2))) (.reg [zf 95 1 4,zl 96 1 95,zm 97 9,zl 98 1 14,zi 99 2 96 97,zf 100 1 99,zs 1 100 98]))))))) (.reg [za 101 52 1,zm 52 101]))))
def HR:C:=.seq (.reg [zq 1 (.box 0 2 (.t 0)),zq 2 (.alc 1 2 (.agg [.nils,.nils])),zq 3 (.mov (.c .nils))]) (.seq (.reg [zf 16 0 1,zl 17 1 16,zq 18 (.call AA [.t 17] []),zq 19 (.bld [.nils,.nils] [(0,1,(.t 18))]),zq 4 (.alc 2 2 (.agg [.nils,.nils])),zs 2 4 19]) (.seq (.reg [zq 5 (.alc 3 1 .nils)]) (.seq (.reg [zf 20 1 1,zl 21 1 20,zn 22 21,zq 23 (.mks 4 1 8 (.int .i64 0) (.t 22) (.t 22)),zq 6 (.alc 5 1 .nils),zs 1 6 23]) (.seq (.seq (.reg [zL 24 2 1,zq 25 (.call EC [.t 24] [])]) (.blk 0 (.rngf (.t 25) [26,27] (rest 104 [1,2,3,4,5,6]) [6,7,8,9] Cy CD))) (.seq (.seq (.reg [zl 44 1 5,zn 45 44,zq 46 (.bin .eql (.t 45) (.c (.int .i64 0)))]) (.cond (.t 46) (.seq (.reg [zf 47 0 1,zl 48 1 47,zq 49 (.call BT [.t 48] []),zs 2 2 49,zq 3 (.mov (.c .nils))]) (.ret)) (.skip))) (.seq (.seq (.reg [zl 50 1 5,zn 51 50,zk 52 0]) (.blk 2 (Nw))) (.seq (.drw [zL 102 2 4,zl 103 1 5,zs 2 2 102,zm 3 103] [(1,2)]) (.ret))))))))
def PD:List Nat:=[1,2,4,5,23,6,35,36,41,42,10,72,76,14]
def CJ:IF:=⟨1,104,14,HR,[(2,some (true,2)),(3,none)],true,false,false⟩
def NJ:C:=.seq (.reg [zq 1 (.box 0 2 (.t 0)),zo 2 false]) (.seq (.reg [zL 6 2 1,zq 7 (.call Bt [.t 6] []),zm 5 7,zq 8 (.ext (.t 5) 0),zq 9 (.ext (.t 5) 1),zq 3 (.alc 1 2 (.agg [.nils,.nils])),zs 2 3 8,zm 4 9]) (.seq (.reg [zL 10 2 1,zL 11 2 3,zq 12 (.call Hw [.t 10,.t 11] []),zm 2 12]) (.ret)))
def TU:List Nat:=[1,3]
def Ew:IF:=⟨1,13,2,NJ,[(2,none)],true,false,false⟩
def Qg:C:=.seq (.reg [zq 2 (.box 0 2 (.t 0)),zq 3 (.box 1 2 (.t 1)),zo 4 false]) (.seq (.reg [zL 5 2 2,zL 6 2 3,zq 7 (.call C0 [.t 5,.t 6] []),zm 8 7,zg 9 (.ld true 2 (.t 3)) 8 true,zg 10 (.ld true 2 (.t 2)) 8 true,zg 11 (.call C0 [.t 9,.t 10] []) 8 true,zu 12 8 11,zm 4 12]) (.ret))
def Xm:List Nat:=[2,3]
def E6:IF:=⟨2,13,2,Qg,[(4,none)],true,false,false⟩
def Q6:C:=.loop (rest 35 [1,3,4,13,14,15]) [2] (.seq (.reg [zb 16 .lss 15 14]) (.seq (.cond (.t 16) (.skip) (.exit 2)) (.seq (.blk 3 (.seq (.reg [zm 17 15,zi 18 2 13 15,zL 19 2 18,zq 6 (.alc 2 2 (.agg [.nils,.nils])),zm 5 17,zs 2 6 19]) (.seq (.reg [zm 20 3,zm 21 5,zi 22 1 20 21,zl 23 1 22,zq 24 (.un .not (.t 23)),zm 25 24,zg 26 (.ld true 2 (.t 6)) 25 true,zmg 27 3 25 true,zg 28 (.call DI [.t 26,.t 27] []) 25 true,zu 29 25 28]) (.cond (.t 29) (.reg [zm 30 3,zm 31 5,zi 32 1 30 31,zr (.sto 1 (.t 32) (.c (.bool true))),zo 4 true]) (.skip))))) (.reg [za 33 15 1,zm 15 33]))))
def QL:C:=.loop (rest 35 [1,3,4]) [2] (.seq (.seq (.reg [zm 11 4]) (.cond (.t 11) (.skip) (.exit 0))) (.blk 1 (.seq (.reg [zo 4 false]) (.seq (.reg [zf 12 1 1,zl 13 1 12,zn 14 13,zk 15 0]) (.blk 2 (Q6))))))
def NH:C:=.seq (.reg [zq 1 (.box 0 2 (.t 0)),zq 2 (.mov (.c .nils))]) (.seq (.reg [zf 7 1 1,zl 8 1 7,zn 9 8,zq 10 (.mks 1 1 1 (.bool false) (.t 9) (.t 9)),zm 3 10]) (.seq (.seq (.reg [zo 4 true]) (.blk 0 (QL))) (.seq (.reg [zm 34 3,zm 2 34]) (.ret))))
def Um:List Nat:=[1,10,6]
def Eu:IF:=⟨1,35,3,NH,[(2,none)],true,false,false⟩
def RX:C:=.loop (rest 84 [2,3,4,5,6,7,8,20,21,22,29,30,31]) [6,7] (.seq (.reg [zb 32 .lss 31 30]) (.seq (.cond (.t 32) (.skip) (.exit 2)) (.seq (.blk 3 (.seq (.reg [zi 33 1 29 31,zl 34 1 33,zm 10 34]) (.seq (.reg [zm 35 3,zm 36 5,zi 37 1 35 36,zl 38 1 37,zq 39 (.un .not (.t 38)),zm 40 39,zg 41 (.ld true 2 (.t 6)) 40 true,zmg 42 10 40 true,zmg 43 3 40 true,zg 44 (.call Ea [.t 41,.t 42,.t 43] []) 40 true,zg 45 (.un .not (.t 44)) 40 true,zu 46 40 45]) (.cond (.t 46) (.seq (.reg [zf 47 0 7,zl 48 1 47,zm 49 10,zq 50 (.bsl 6 1 1 [.t 49]),zq 51 (.app 7 1 8 (.t 48) (.t 50)),zf 52 0 7,zs 1 52 51]) (.reg [zm 53 8,zm 54 10,zb 55 .or 53 54,zm 8 55])) (.skip))))) (.reg [za 56 31 1,zm 31 56]))))
def Ts:C:=.loop (rest 84 [2,3,4,7,8,20,21,22,58,59,60]) [8,9] (.seq (.reg [zb 61 .lss 60 59]) (.seq (.cond (.t 61) (.skip) (.exit 4)) (.seq (.blk 5 (.seq (.reg [zm 62 60,zi 63 1 58 60,zl 64 1 63,zm 11 62,zm 12 64]) (.seq (.seq (.reg [zm 65 8,zm 66 11,zq 67 (.call FV [.t 65,.t 66] []),zq 68 (.un .not (.t 67))]) (.cond (.t 68) (.reg [zk 12 (-1)]) (.skip))) (.reg [zf 69 1 7,zl 70 1 69,zm 71 12,zq 72 (.bsl 8 1 1 [.t 71]),zq 73 (.app 9 1 8 (.t 70) (.t 72)),zf 74 1 7,zs 1 74 73])))) (.reg [za 75 60 1,zm 60 75]))))
def SK:C:=.loop (rest 84 [2,3,4,20,21,22]) [4,5,6,7,8,9,10,11] (.seq (.reg [zb 23 .lss 22 21]) (.seq (.cond (.t 23) (.skip) (.exit 0)) (.seq (.blk 1 (.seq (.reg [zm 24 22,zi 25 2 20 22,zL 26 2 25,zq 6 (.alc 4 2 (.agg [.nils,.nils])),zm 5 24,zs 2 6 26]) (.seq (.reg [zq 27 (.bld [.nils,.nils] []),zq 7 (.alc 5 2 (.agg [.nils,.nils])),zs 2 7 27,zk 8 0]) (.seq (.seq (.reg [zf 28 0 6,zl 29 1 28,zn 30 29,zk 31 0]) (.blk 2 (RX))) (.seq (.seq (.reg [zf 57 1 6,zl 58 1 57,zn 59 58,zk 60 0]) (.blk 4 (Ts))) (.reg [zf 76 1 4,zl 77 1 76,zL 78 2 7,zq 79 (.bsl 10 2 1 [.t 78]),zq 80 (.app 11 2 48 (.t 77) (.t 79)),zf 81 1 4,zs 1 81 80])))))) (.reg [za 82 22 1,zm 22 82]))))
def ON:C:=.seq (.reg [zq 1 (.box 0 2 (.t 0)),zq 2 (.alc 1 2 (.agg [.nils,.nils]))]) (.seq (.reg [zL 13 2 1,zq 14 (.call Dn [.t 13] []),zm 3 14]) (.seq (.reg [zf 15 0 1,zl 16 1 15,zq 17 (.app 2 1 16 (.c .nils) (.t 16)),zq 18 (.bld [.nils,.nils] [(0,1,(.t 17))]),zq 4 (.alc 3 2 (.agg [.nils,.nils])),zs 2 4 18]) (.seq (.seq (.reg [zf 19 1 1,zl 20 1 19,zn 21 20,zk 22 0]) (.blk 0 (SK))) (.seq (.reg [zL 83 2 4,zs 2 2 83]) (.ret)))))
def Xa:List Nat:=[1,2,17,4,6,7,50,51,72,73,79,80]
def Ff:IF:=⟨1,84,12,ON,[(2,some (true,2))],true,false,false⟩
def Sm:C:=.loop (rest 53 [1,3,4,5,29,30,31]) [3] (.seq (.reg [zb 32 .lss 31 30]) (.seq (.cond (.t 32) (.skip) (.exit 2)) (.seq (.blk 3 (.seq (.reg [zi 33 1 29 31,zl 34 1 33,zm 7 34]) (.seq (.reg [zm 35 7,zq 36 (.bin .geq (.t 35) (.c (.int .i64 0))),zm 37 36,zmg 38 3 37 true,zmg 39 7 37 true,zg 40 (.iad 1 (.t 38) (.t 39)) 37 true,zlg 41 1 40 37 true,zg 42 (.un .not (.t 41)) 37 true,zu 43 37 42]) (.cond (.t 43) (.seq (.reg [zm 44 3,zm 45 7,zi 46 1 44 45,zr (.sto 1 (.t 46) (.c (.bool true)))]) (.reg [zm 47 4,zm 48 7,zq 49 (.bsl 3 1 1 [.t 48]),zq 50 (.app 4 1 8 (.t 47) (.t 49)),zm 4 50])) (.skip))))) (.reg [za 51 31 1,zm 31 51]))))
def Sq:C:=.loop (rest 53 [1,3,4,5]) [3] (.mvt 4 4 (.seq (.seq (.reg [zm 15 5,zm 16 4,zn 17 16,zb 18 .lss 15 17]) (.cond (.t 18) (.skip) (.exit 0))) (.seq (.blk 1 (.seq (.drw [zf 21 1 1,zl 22 1 21,zm 23 4,zm 24 5,zi 25 1 23 24,zl 26 1 25,zi 27 2 22 26,zf 28 1 27,zl 29 1 28,zn 30 29,zk 31 0] []) (.blk 2 (Sm)))) (.reg [zm 19 5,za 20 19 1,zm 5 20]))))
def PC:C:=.seq (.reg [zq 1 (.box 0 2 (.t 0)),zq 2 (.mov (.c .nils))]) (.seq (.reg [zf 8 1 1,zl 9 1 8,zn 10 9,zq 11 (.mks 1 1 1 (.bool false) (.t 10) (.t 10)),zm 3 11]) (.seq (.reg [zm 12 3,zq 13 (.iad 1 (.t 12) (.c (.int .i64 0))),zr (.sto 1 (.t 13) (.c (.bool true)))]) (.seq (.reg [zq 14 (.bsl 2 1 1 [(.c (.int .i64 0))]),zm 4 14]) (.seq (.seq (.reg [zk 5 0]) (.blk 0 (Sq))) (.seq (.reg [zm 52 4,zm 2 52]) (.ret))))))
def Wd:List Nat:=[1,11,14,49,50]
def Fz:IF:=⟨1,53,5,PC,[(2,none)],true,false,false⟩
def ET:C:=.loop (rest 26 [0,1,12,13]) [] (.seq (.reg [zb 14 .lss 13 12]) (.seq (.cond (.t 14) (.skip) (.exit 0)) (.seq (.blk 1 (.seq (.reg [zm 15 13,zm 5 15]) (.seq (.drw [zm 16 0,zm 17 5,zi 18 1 16 17,zl 19 1 18,zm 20 1,zm 21 5,zi 22 1 20 21,zl 23 1 22,zb 24 .neq 19 23] []) (.cond (.t 24) (.seq (.reg [zo 4 false]) (.ret)) (.skip))))) (.reg [za 25 13 1,zm 13 25]))))
def H8:C:=.seq (.reg [zo 4 false]) (.seq (.seq (.reg [zm 6 0,zn 7 6,zm 8 1,zn 9 8,zb 10 .neq 7 9]) (.cond (.t 10) (.seq (.reg [zo 4 false]) (.ret)) (.skip))) (.seq (.seq (.reg [zm 11 0,zn 12 11,zk 13 0]) (.blk 0 (ET))) (.seq (.reg [zo 4 true]) (.ret))))
def L5:List Nat:=[]
def BE:IF:=⟨2,26,0,H8,[(4,none)],true,false,false⟩
def NF:C:=.seq (.reg [zq 3 (.box 0 2 (.t 0)),zq 4 (.mov (.c .nils))]) (.seq (.drw [zf 5 1 1,zl 6 1 5,zq 7 (.iaa 2 1 (.t 3) (.c (.int .i64 0))),zl 8 1 7,zi 9 2 6 8,zf 10 0 9,zl 11 1 10,zf 12 1 2,zl 13 1 12,zq 14 (.iaa 2 1 (.t 3) (.c (.int .i64 1))),zl 15 1 14,zi 16 2 13 15,zf 17 0 16,zl 18 1 17,zq 19 (.call Fp [.t 11,.t 18] []),zm 4 19] []) (.ret))
def Vn:List Nat:=[3]
def Es:IF:=⟨3,20,1,NF,[(4,none)],true,false,false⟩
def Te:C:=.loop (rest 29 [1,5,10,11,12]) [0] (.seq (.reg [zb 13 .lss 12 11]) (.seq (.cond (.t 13) (.skip) (.exit 0)) (.seq (.blk 1 (.seq (.reg [zi 14 1 10 12,zl 15 1 14,zm 7 15]) (.seq (.reg [zm 17 1,zm 18 7,zq 19 (.call AF [.t 17,.t 18] []),zm 16 19,zq 20 (.ext (.t 16) 0),zq 21 (.ext (.t 16) 1),zm 8 20,zm 9 21]) (.seq (.reg [zm 22 9]) (.cond (.t 22) (.reg [zm 23 5,zm 24 7,zq 25 (.bsl 0 1 1 [.t 24]),zq 26 (.app 1 1 8 (.t 23) (.t 25)),zm 5 26]) (.skip)))))) (.reg [za 27 12 1,zm 12 27]))))
def Pv:C:=.seq (.reg [zq 4 (.mov (.c .nils))]) (.seq (.reg [zq 5 (.mov (.c .nils))]) (.seq (.seq (.reg [zm 10 0,zn 11 10,zk 12 0]) (.blk 0 (Te))) (.seq (.reg [zm 28 5,zm 4 28]) (.ret))))
def Wy:List Nat:=[25,26]
def FI:IF:=⟨2,29,2,Pv,[(4,none)],true,false,false⟩
def NK:C:=.seq (.reg [zq 4 (.box 0 2 (.t 0)),zq 6 (.alc 1 2 (.agg [(.int .i64 0),(.int .i64 0)]))]) (.seq (.drw [zf 7 1 2,zl 8 1 7,zq 9 (.iaa 2 1 (.t 4) (.c (.int .i64 0))),zl 10 1 9,zi 11 2 8 10,zf 12 1 11,zl 13 1 12,zm 14 1,zi 15 1 13 14,zl 16 1 15,zf 17 1 3,zl 18 1 17,zq 19 (.iaa 2 1 (.t 4) (.c (.int .i64 1))),zl 20 1 19,zi 21 2 18 20,zf 22 1 21,zl 23 1 22,zm 24 1,zi 25 1 23 24,zl 26 1 25,zq 27 (.bld [(.int .i64 0),(.int .i64 0)] [(0,1,(.t 16)),(1,1,(.t 26))]),zs 2 6 27] []) (.ret))
def VC:List Nat:=[4,6]
def Eq:IF:=⟨4,28,2,NK,[(6,some (true,2))],true,false,false⟩
def Jb:C:=.seq (.reg [zq 2 (.box 0 2 (.t 0)),zq 4 (.mov (.c .nils))]) (.seq (.seq (.reg [zm 5 1,zq 6 (.bin .lss (.t 5) (.c (.int .i64 0)))]) (.cond (.t 6) (.seq (.reg [zq 4 (.mov (.c .nils))]) (.ret)) (.skip))) (.seq (.reg [zf 7 1 2,zl 8 1 7,zm 9 1,zi 10 2 8 9,zf 11 0 10,zl 12 1 11,zm 4 12]) (.ret)))
def P0:List Nat:=[2]
def CE:IF:=⟨2,13,1,Jb,[(4,none)],true,false,false⟩
def HT:C:=.seq (.reg [zq 3 (.box 0 2 (.t 0)),zk 6 0]) (.seq (.seq (.reg [zm 7 1,zq 8 (.bin .lss (.t 7) (.c (.int .i64 0)))]) (.cond (.t 8) (.seq (.reg [zk 6 (-1)]) (.ret)) (.skip))) (.seq (.reg [zf 9 1 3,zl 10 1 9,zm 11 1,zi 12 2 10 11,zf 13 1 12,zl 14 1 13,zm 15 2,zi 16 1 14 15,zl 17 1 16,zm 6 17]) (.ret)))
def Ql:List Nat:=[3]
def CL:IF:=⟨3,18,1,HT,[(6,none)],true,false,false⟩
def KW:C:=.seq (.reg [zq 4 (.box 0 2 (.t 0)),zq 5 (.mov (.c .nils))]) (.seq (.drw [zl 6 1 1,zL 7 2 2,zq 8 (.iaa 2 1 (.t 4) (.c (.int .i64 0))),zl 9 1 8,zq 10 (.calv (.t 6) [.t 7,.t 9] []),zl 11 1 1,zL 12 2 3,zq 13 (.iaa 2 1 (.t 4) (.c (.int .i64 1))),zl 14 1 13,zq 15 (.calv (.t 11) [.t 12,.t 14] []),zq 16 (.call DA [.t 10,.t 15] []),zm 5 16] [(4,5),(4,6),(4,7),(4,8)]) (.ret))
def O3:List Nat:=[4]
def Cz:IF:=⟨4,17,1,KW,[(5,none)],true,false,false⟩
def Ht:C:=.seq (.reg [zq 4 (.mov (.c .nils))]) (.seq (.reg [zm 6 0,zq 7 (.call Bg [.t 6] [0]),zm 8 1,zq 9 (.app 1 1 8 (.t 7) (.t 8)),zm 5 9]) (.seq (.reg [zm 10 5,zq 11 (.call Cm [.t 10] [])]) (.seq (.reg [zm 12 5,zq 13 (.call BF [.t 12] []),zm 4 13]) (.ret))))
def R8:List Nat:=[7,9]
def Dy:IF:=⟨2,14,2,Ht,[(4,none)],true,false,false⟩
def K3:C:=.seq (.reg [zq 5 (.box 0 2 (.t 0)),zq 7 (.alc 1 2 (.agg [(.int .i64 0),(.int .i64 0)]))]) (.seq (.drw [zl 8 1 2,zL 9 2 3,zq 10 (.iaa 2 1 (.t 5) (.c (.int .i64 0))),zl 11 1 10,zm 12 1,zq 13 (.calv (.t 8) [.t 9,.t 11,.t 12] []),zl 14 1 2,zL 15 2 4,zq 16 (.iaa 2 1 (.t 5) (.c (.int .i64 1))),zl 17 1 16,zm 18 1,zq 19 (.calv (.t 14) [.t 15,.t 17,.t 18] []),zq 20 (.bld [(.int .i64 0),(.int .i64 0)] [(0,1,(.t 13)),(1,1,(.t 19))]),zs 2 7 20] [(5,6),(5,7),(5,8),(5,9)]) (.ret))
def Qd:List Nat:=[5,7]
def CM:IF:=⟨5,21,2,K3,[(7,some (true,2))],true,false,false⟩
def Ub:C:=.loop (rest 47 [0,20,21]) [] (.seq (.reg [zb 22 .lss 21 20]) (.seq (.cond (.t 22) (.skip) (.exit 0)) (.seq (.blk 1 (.seq (.reg [zm 23 21,zm 3 23]) (.seq (.reg [zm 24 0,zm 25 3,zq 26 (.idx (.t 24) (.t 25)),zm 4 26]) (.seq (.reg [zm 27 4,zq 28 (.call Dq [.t 27] []),zq 29 (.un .not (.t 28)),zm 30 29,zmg 31 4 30 true,zg 32 (.bin .lss (.t 31) (.c (.int .u8 48))) 30 true,zmg 33 32 30 true,zmg 34 4 33 false,zg 35 (.bin .gtr (.t 34) (.c (.int .u8 57))) 33 false,zg 36 (.pick (.t 33) (.c (.bool true)) (.t 35)) 30 true,zu 37 30 36,zm 38 37,zmg 39 4 38 true,zg 40 (.bin .neq (.t 39) (.c (.int .u8 45))) 38 true,zu 41 38 40,zm 42 41,zmg 43 4 42 true,zg 44 (.bin .neq (.t 43) (.c (.int .u8 95))) 42 true,zu 45 42 44]) (.cond (.t 45) (.seq (.reg [zo 2 false]) (.ret)) (.skip)))))) (.reg [za 46 21 1,zm 21 46]))))
def RM:C:=.seq (.reg [zo 2 false]) (.seq (.seq (.reg [zm 5 0,zq 6 (.lens (.t 5)),zq 7 (.bin .lss (.t 6) (.c (.int .i64 1))),zm 8 7,zmg 9 0 8 false,zg 10 (.lens (.t 9)) 8 false,zg 11 (.bin .gtr (.t 10) (.c (.int .i64 20))) 8 false,zy 12 8 11,zm 13 12,zmg 14 0 13 false,zg 15 (.idx (.t 14) (.c (.int .i64 0))) 13 false,zg 16 (.call Dq [.t 15] []) 13 false,zg 17 (.un .not (.t 16)) 13 false,zy 18 13 17]) (.cond (.t 18) (.seq (.reg [zo 2 false]) (.ret)) (.skip))) (.seq (.seq (.reg [zm 19 0,zq 20 (.lens (.t 19)),zk 21 0]) (.blk 0 (Ub))) (.seq (.reg [zo 2 true]) (.ret))))
def Aax:List Nat:=[]
def HK:IF:=⟨1,47,0,RM,[(2,none)],true,false,false⟩
def RW:C:=.loop (rest 19 [1,7,8,9]) [] (.seq (.reg [zb 10 .lss 9 8]) (.seq (.cond (.t 10) (.skip) (.exit 0)) (.seq (.blk 1 (.seq (.reg [zm 11 9,zi 12 1 7 9,zl 13 1 12,zm 5 11,zm 6 13]) (.seq (.reg [zm 14 6,zm 15 1,zb 16 .eql 14 15]) (.cond (.t 16) (.seq (.reg [zm 17 5,zm 4 17]) (.ret)) (.skip))))) (.reg [za 18 9 1,zm 9 18]))))
def O9:C:=.seq (.reg [zk 4 0]) (.seq (.seq (.reg [zm 7 0,zn 8 7,zk 9 0]) (.blk 0 (RW))) (.seq (.reg [zk 4 (-1)]) (.ret)))
def We:List Nat:=[]
def E8:IF:=⟨2,19,0,O9,[(4,none)],true,false,false⟩
def Dc:C:=.seq (.reg [zo 4 false]) (.seq (.reg [zm 5 0,zm 6 1,zq 7 (.call Az [.t 5,.t 6] []),zq 8 (.bin .geq (.t 7) (.c (.int .i64 0))),zm 4 8]) (.ret))
def Hg:List Nat:=[]
def AB:IF:=⟨2,9,0,Dc,[(4,none)],true,false,false⟩
def KU:C:=.seq (.reg [zq 1 (.box 0 2 (.t 0)),zo 2 false]) (.seq (.reg [zL 3 2 1,zq 4 (.call CS [.t 3] []),zq 5 (.un .not (.t 4)),zm 2 5]) (.ret))
def Pb:List Nat:=[1]
def CQ:IF:=⟨1,6,1,KU,[(2,none)],true,false,false⟩
def Tp:C:=.loop (rest 26 [0,8,9,10]) [] (.seq (.reg [zb 11 .lss 10 9]) (.seq (.cond (.t 11) (.skip) (.exit 0)) (.seq (.blk 1 (.seq (.reg [zm 12 10,zi 13 1 8 10,zl 14 1 13,zm 3 12,zm 4 14]) (.seq (.reg [zm 15 4,zq 16 (.call Hu [.t 15] []),zq 17 (.un .not (.t 16)),zm 18 17,zmg 19 0 18 false,zmg 20 3 18 false,zg 21 (.sli 1 (.t 19) none (some (.t 20)) none) 18 false,zmg 22 4 18 false,zg 23 (.call A8 [.t 21,.t 22] []) 18 false,zy 24 18 23]) (.cond (.t 24) (.seq (.reg [zo 2 false]) (.ret)) (.skip))))) (.reg [za 25 10 1,zm 10 25]))))
def Md:C:=.seq (.reg [zo 2 false]) (.seq (.seq (.reg [zm 5 0,zn 6 5,zq 7 (.bin .gtr (.t 6) (.c (.int .i64 8)))]) (.cond (.t 7) (.seq (.reg [zo 2 false]) (.ret)) (.skip))) (.seq (.seq (.reg [zm 8 0,zn 9 8,zk 10 0]) (.blk 0 (Tp))) (.seq (.reg [zo 2 true]) (.ret))))
def VJ:List Nat:=[]
def Fl:IF:=⟨1,26,0,Md,[(2,none)],true,false,false⟩
def KY:C:=.seq (.reg [zq 2 (.box 0 2 (.t 0)),zo 3 false]) (.seq (.reg [zf 4 0 2,zl 5 1 4,zl 6 1 1,zq 7 (.call Bf [.t 5,.t 6] []),zq 8 (.un .not (.t 7)),zm 3 8]) (.ret))
def O6:List Nat:=[2]
def CF:IF:=⟨2,9,1,KY,[(3,none)],true,false,false⟩
def H6:C:=.seq (.reg [zq 2 (.mov (.c .nils))]) (.seq (.seq (.reg [zm 3 0,zq 4 (.nilc false (.t 3) (.c .nils))]) (.cond (.t 4) (.seq (.reg [zq 2 (.mov (.c .nils))]) (.ret)) (.skip))) (.seq (.reg [zq 5 (.bsl 0 1 0 []),zm 6 0,zq 7 (.app 1 1 16 (.t 5) (.t 6)),zm 2 7]) (.ret)))
def L7:List Nat:=[5,7]
def Be:IF:=⟨1,8,2,H6,[(2,none)],true,true,true⟩
def Hr:C:=.loop (rest 48 [7,8]) [] (.seq (.seq (.reg [zm 34 8,zm 35 7,zn 36 35,zb 37 .lss 34 36]) (.cond (.t 37) (.skip) (.exit 0))) (.blk 1 (.drw [zm 38 8,zm 39 7,zm 40 8,zq 41 (.sli 1 (.t 39) (some (.t 40)) none none),zm 42 7,zm 43 8,zq 44 (.sli 1 (.t 42) none (some (.t 43)) none),zq 45 (.cpy (.t 41) (.t 44)),zb 46 .add 38 45,zm 8 46] [])))
def LH:C:=.seq (.reg [zq 4 (.mov (.c .nils))]) (.seq (.seq (.reg [zm 9 1,zq 10 (.bin .lss (.t 9) (.c (.int .i64 0)))]) (.cond (.t 10) (.reg [zq 11 (.bad),zr (.bad)]) (.skip))) (.seq (.reg [zm 13 0,zn 14 13,zq 15 (.cvi .u64 (.t 14)),zm 16 1,zq 17 (.cvi .u64 (.t 16)),zq 18 (.call EL [.t 15,.t 17] []),zm 12 18,zq 19 (.ext (.t 12) 0),zq 20 (.ext (.t 12) 1),zm 5 19,zm 6 20]) (.seq (.seq (.reg [zm 21 5,zq 22 (.bin .gtr (.t 21) (.c (.int .u64 0))),zm 23 22,zmg 24 6 23 false,zg 25 (.bin .gtr (.t 24) (.c (.int .u64 9223372036854775807))) 23 false,zy 26 23 25]) (.cond (.t 26) (.reg [zq 27 (.bad),zr (.bad)]) (.skip))) (.seq (.reg [zm 28 6,zq 29 (.cvi .i64 (.t 28)),zq 30 (.mks 0 1 8 (.int .i64 0) (.t 29) (.t 29)),zm 7 30]) (.seq (.reg [zm 31 7,zm 32 0,zq 33 (.cpy (.t 31) (.t 32)),zm 8 33]) (.seq (.blk 0 (Hr)) (.seq (.reg [zm 47 7,zm 4 47]) (.ret))))))))
def LJ:List Nat:=[30]
def AS:IF:=⟨2,48,1,LH,[(4,none)],true,true,false⟩
def QU:C:=.loop (rest 20 [0,3]) [] (.seq (.seq (.reg [zm 4 3,zm 5 0,zn 6 5,zb 7 .lss 4 6]) (.cond (.t 7) (.skip) (.exit 0))) (.seq (.blk 1 (.seq (.drw [zm 10 0,zm 11 3,zq 12 (.bin .sub (.t 11) (.c (.int .i64 1))),zi 13 1 10 12,zl 14 1 13,zm 15 0,zm 16 3,zi 17 1 15 16,zl 18 1 17,zb 19 .geq 14 18] []) (.cond (.t 19) (.seq (.reg [zo 2 false]) (.ret)) (.skip)))) (.reg [zm 8 3,za 9 8 1,zm 3 9])))
def NW:C:=.seq (.reg [zo 2 false]) (.seq (.seq (.reg [zk 3 1]) (.blk 0 (QU))) (.seq (.reg [zo 2 true]) (.ret)))
def Va:List Nat:=[]
def Ek:IF:=⟨1,20,0,NW,[(2,none)],true,false,false⟩
def Vb:C:=.seq (.reg [zo 4 false]) (.seq (.reg [zm 5 1,zq 6 (.bin .geq (.t 5) (.c (.int .i64 0))),zm 7 6,zmg 8 1 7 true,zmg 9 0 7 true,zg 10 (.bin .shl (.c (.int .i64 1)) (.t 9)) 7 true,zg 11 (.bin .lss (.t 8) (.t 10)) 7 true,zu 12 7 11,zm 4 12]) (.ret))
def AcW:List Nat:=[]
def JW:IF:=⟨2,13,0,Vb,[(4,none)],true,false,false⟩
def UT:C:=.loop (rest 20 [1,5,7,8]) [0] (.seq (.reg [zb 9 .lss 8 7]) (.seq (.cond (.t 9) (.skip) (.exit 0)) (.seq (.blk 1 (.seq (.reg [zm 10 8,zm 6 10]) (.seq (.reg [zm 11 1,zm 12 6,zq 13 (.call FV [.t 11,.t 12] [])]) (.cond (.t 13) (.reg [zm 14 5,zm 15 6,zq 16 (.bsl 0 1 1 [.t 15]),zq 17 (.app 1 1 8 (.t 14) (.t 16)),zm 5 17]) (.skip))))) (.reg [za 18 8 1,zm 8 18]))))
def RN:C:=.seq (.reg [zq 4 (.mov (.c .nils))]) (.seq (.reg [zq 5 (.mov (.c .nils))]) (.seq (.seq (.reg [zm 7 0,zk 8 0]) (.blk 0 (UT))) (.seq (.reg [zm 19 5,zm 4 19]) (.ret))))
def ZF:List Nat:=[16,17]
def HL:IF:=⟨2,20,2,RN,[(4,none)],true,false,false⟩
def TE:C:=.loop (rest 21 [0,1,3]) [] (.seq (.seq (.reg [zl 4 1 1,zm 5 3,zb 6 .shr 4 5,zq 7 (.bin .gtr (.t 6) (.c (.int .i64 0)))]) (.cond (.t 7) (.skip) (.exit 0))) (.seq (.blk 1 (.seq (.reg [zl 10 1 1,zm 11 3,zb 12 .shr 10 11,zq 13 (.bin .and (.t 12) (.c (.int .i64 1))),zq 14 (.bin .eql (.t 13) (.c (.int .i64 1))),zm 15 14,zmg 16 0 15 true,zmg 17 3 15 true,zg 18 (.calv (.t 16) [.t 17] []) 15 true,zg 19 (.un .not (.t 18)) 15 true,zu 20 15 19]) (.cond (.t 20) (.ret) (.skip)))) (.reg [zm 8 3,za 9 8 1,zm 3 9])))
def Rl:C:=.seq (.reg [zk 3 0]) (.blk 0 (TE))
def Zy:List Nat:=[]
def JS:IF:=⟨2,21,0,Rl,[],false,false,false⟩
def NI:C:=.seq (.reg [zq 1 (.box 0 2 (.t 0)),zq 2 (.mov (.c .nilf))]) (.seq (.reg [zq 3 (.mkf BS [.t 1]),zm 2 3]) (.ret))
def UY:List Nat:=[1]
def Ep:IF:=⟨1,4,1,NI,[(2,none)],true,false,false⟩
def ER:C:=.seq (.reg [zm 3 0,zn 4 3,zm 2 4]) (.reg [zm 5 0,zm 6 2,zm 7 2,zq 8 (.cvi .u64 (.t 7)),zq 9 (.call Bq [.t 8] []),zq 10 (.call Ap [.t 5,(.c (.int .i64 0)),.t 6,.t 9] [])])
def My:List Nat:=[]
def Cj:IF:=⟨1,11,0,ER,[],false,false,false⟩
def F1:C:=.loop (rest 61 [0,3,4,5]) [] (.seq (.seq (.reg [zm 29 5,zm 30 4,zn 31 30,zb 32 .lss 29 31]) (.cond (.t 32) (.skip) (.exit 2))) (.seq (.blk 3 (.seq (.drw [zm 35 4,zm 36 5,zi 37 1 35 36,zl 38 1 37,zm 39 4,zm 40 5,zq 41 (.bin .sub (.t 40) (.c (.int .i64 1))),zi 42 1 39 41,zl 43 1 42,zb 44 .neq 38 43] []) (.cond (.t 44) (.seq (.reg [zm 45 0,zm 46 3,zm 47 4,zm 48 5,zi 49 1 47 48,zl 50 1 49,zi 51 1 45 46,zs 1 51 50]) (.reg [zm 52 3,za 53 52 1,zm 3 53])) (.skip)))) (.reg [zm 33 5,za 34 33 1,zm 5 34])))
def F7:C:=.loop (rest 61 [0,3]) [] (.seq (.seq (.reg [zm 10 3,zm 11 0,zn 12 11,zb 13 .lss 10 12]) (.cond (.t 13) (.skip) (.exit 0))) (.seq (.blk 1 (.seq (.drw [zm 16 0,zm 17 3,zi 18 1 16 17,zl 19 1 18,zm 20 0,zm 21 3,zq 22 (.bin .sub (.t 21) (.c (.int .i64 1))),zi 23 1 20 22,zl 24 1 23,zb 25 .eql 19 24] []) (.cond (.t 25) (.seq (.reg [zm 26 0,zm 27 3,zq 28 (.sli 1 (.t 26) (some (.t 27)) none none),zm 4 28]) (.seq (.seq (.reg [zk 5 1]) (.blk 2 (F1))) (.seq (.reg [zm 54 0,zm 55 3,zq 56 (.sli 1 (.t 54) (some (.t 55)) none none),zr (.clr (.int .i64 0) (.t 56))]) (.seq (.reg [zm 57 0,zm 58 3,zq 59 (.sli 1 (.t 57) none (some (.t 58)) none),zm 2 59]) (.ret))))) (.skip)))) (.reg [zm 14 3,za 15 14 1,zm 3 15])))
def Dg:C:=.seq (.reg [zq 2 (.mov (.c .nils))]) (.seq (.seq (.reg [zm 6 0,zn 7 6,zq 8 (.bin .lss (.t 7) (.c (.int .i64 2)))]) (.cond (.t 8) (.seq (.reg [zm 9 0,zm 2 9]) (.ret)) (.skip))) (.seq (.seq (.reg [zk 3 1]) (.blk 0 (F7))) (.seq (.reg [zm 60 0,zm 2 60]) (.ret))))
def K2:List Nat:=[]
def BI:IF:=⟨1,61,0,Dg,[(2,none)],false,false,false⟩
def Mj:C:=.seq (.reg [zq 2 (.box 0 2 (.t 0)),zq 3 (.box 1 2 (.t 1)),zo 4 false]) (.seq (.reg [zL 5 2 2,zL 6 2 3,zq 7 (.call D1 [.t 5,.t 6] []),zq 8 (.bin .lss (.t 7) (.c (.int .i64 0))),zm 4 8]) (.ret))
def S9:List Nat:=[2,3]
def DQ:IF:=⟨2,9,2,Mj,[(4,none)],true,false,false⟩
def Pf:C:=.loop (rest 20 [1,2,8,9,10]) [] (.seq (.reg [zb 11 .lss 10 9]) (.seq (.cond (.t 11) (.skip) (.exit 0)) (.seq (.blk 1 (.seq (.reg [zi 12 1 8 10,zl 13 1 12,zm 6 13]) (.seq (.reg [zL 14 2 2,zm 15 6,zm 16 1,zq 17 (.call Ea [.t 14,.t 15,.t 16] []),zq 18 (.un .not (.t 17))]) (.cond (.t 18) (.seq (.reg [zo 4 false]) (.ret)) (.skip))))) (.reg [za 19 10 1,zm 10 19]))))
def MF:C:=.seq (.reg [zq 2 (.box 0 2 (.t 0)),zo 4 false]) (.seq (.seq (.reg [zf 7 0 2,zl 8 1 7,zn 9 8,zk 10 0]) (.blk 0 (Pf))) (.seq (.reg [zo 4 true]) (.ret)))
def SC:List Nat:=[2]
def DK:IF:=⟨2,20,1,MF,[(4,none)],true,false,false⟩
def SZ:C:=.loop (rest 31 [1,2,10,11,12]) [] (.seq (.reg [zb 13 .lss 12 11]) (.seq (.cond (.t 13) (.skip) (.exit 0)) (.seq (.blk 1 (.seq (.reg [zm 14 12,zi 15 1 10 12,zl 16 1 15,zm 7 14,zm 8 16]) (.seq (.reg [zm 17 8,zq 18 (.bin .geq (.t 17) (.c (.int .i64 0))),zm 19 18,zmg 20 1 19 true,zmg 21 7 19 true,zg 22 (.call FV [.t 20,.t 21] []) 19 true,zu 23 19 22,zm 24 23,zmg 25 2 24 true,zmg 26 8 24 true,zg 27 (.iad 1 (.t 25) (.t 26)) 24 true,zlg 28 1 27 24 true,zu 29 24 28]) (.cond (.t 29) (.seq (.reg [zo 6 true]) (.ret)) (.skip))))) (.reg [za 30 12 1,zm 12 30]))))
def P3:C:=.seq (.reg [zq 3 (.box 0 2 (.t 0)),zo 6 false]) (.seq (.seq (.reg [zf 9 1 3,zl 10 1 9,zn 11 10,zk 12 0]) (.blk 0 (SZ))) (.seq (.reg [zo 6 false]) (.ret)))
def Xf:List Nat:=[3]
def Fa:IF:=⟨3,31,1,P3,[(6,none)],true,false,false⟩
def Ua:C:=.seq (.reg [zo 4 false]) (.seq (.reg [zm 5 0,zm 6 1,zb 7 .shr 5 6,zq 8 (.bin .and (.t 7) (.c (.int .i64 1))),zq 9 (.bin .eql (.t 8) (.c (.int .i64 1))),zm 4 9]) (.ret))
def Adc:List Nat:=[]
def J0:IF:=⟨2,10,0,Ua,[(4,none)],true,false,false⟩
def EF:C:=.loop (rest 54 [0,1,6,7,8]) [] (.seq (.seq (.reg [zm 13 7,zm 14 8,zb 15 .lss 13 14]) (.cond (.t 15) (.skip) (.exit 0))) (.blk 1 (.seq (.reg [zm 16 7,zm 17 8,zb 18 .add 16 17,zq 19 (.cvi .u64 (.t 18)),zq 20 (.bin .shr (.t 19) (.c (.int .u64 1))),zq 21 (.cvi .i64 (.t 20)),zm 9 21]) (.seq (.reg [zm 22 0,zm 23 9,zi 24 1 22 23,zl 25 1 24,zm 26 1,zq 27 (.call Af [.t 25,.t 26] [])]) (.cond (.t 27) (.reg [zm 28 9,za 29 28 1,zm 7 29]) (.reg [zm 30 9,zm 8 30]))))))
def DR:C:=.seq (.reg [zk 4 0,zo 5 false]) (.seq (.reg [zm 10 0,zn 11 10,zm 6 11]) (.seq (.reg [zm 12 6,zk 7 0,zm 8 12]) (.seq (.blk 0 (EF)) (.seq (.reg [zm 31 7,zm 32 7,zm 33 6,zb 34 .lss 32 33,zm 35 34,zmg 36 0 35 true,zmg 37 7 35 true,zg 38 (.iad 1 (.t 36) (.t 37)) 35 true,zlg 39 1 38 35 true,zmg 40 1 35 true,zg 41 (.bin .eql (.t 39) (.t 40)) 35 true,zmg 42 41 35 true,zmg 43 0 42 false,zmg 44 7 42 false,zg 45 (.iad 1 (.t 43) (.t 44)) 42 false,zlg 46 1 45 42 false,zg 47 (.call Bh [.t 46] []) 42 false,zmg 48 47 42 false,zmg 49 1 48 true,zg 50 (.call Bh [.t 49] []) 48 true,zg 51 (.pick (.t 48) (.t 50) (.c (.bool false))) 42 false,zg 52 (.pick (.t 42) (.c (.bool true)) (.t 51)) 35 true,zu 53 35 52,zm 4 31,zm 5 53]) (.ret)))))
def Jm:List Nat:=[]
def AG:IF:=⟨2,54,0,DR,[(4,none),(5,none)],true,false,false⟩
def NV:C:=.seq (.reg [zo 2 false]) (.seq (.reg [zm 3 0,zq 4 (.bin .geq (.t 3) (.c (.int .u8 97))),zm 5 4,zmg 6 0 5 true,zg 7 (.bin .leq (.t 6) (.c (.int .u8 122))) 5 true,zu 8 5 7,zm 9 8,zmg 10 0 9 false,zg 11 (.bin .geq (.t 10) (.c (.int .u8 65))) 9 false,zmg 12 11 9 false,zmg 13 0 12 true,zg 14 (.bin .leq (.t 13) (.c (.int .u8 90))) 12 true,zg 15 (.pick (.t 12) (.t 14) (.c (.bool false))) 9 false,zy 16 9 15,zm 2 16]) (.ret))
def s_r01_letter:List Nat:=[]
def EB:IF:=⟨1,17,0,NV,[(2,none)],true,false,false⟩
def Da:C:=.loop (rest 19 [0,1,7,8]) [] (.seq (.reg [zb 9 .lss 8 7]) (.seq (.cond (.t 9) (.skip) (.exit 0)) (.seq (.blk 1 (.seq (.reg [zm 10 8,zm 5 10]) (.seq (.reg [zm 11 1,zm 12 0,zm 13 5,zi 14 2 12 13,zL 15 2 14,zq 16 (.calv (.t 11) [.t 15] [])]) (.cond (.t 16) (.seq (.reg [zm 17 5,zm 4 17]) (.ret)) (.skip))))) (.reg [za 18 8 1,zm 8 18]))))
def D0:C:=.seq (.reg [zk 4 0]) (.seq (.seq (.reg [zm 6 0,zn 7 6,zk 8 0]) (.blk 0 (Da))) (.seq (.reg [zk 4 (-1)]) (.ret)))
def JD:List Nat:=[]
def AQ:IF:=⟨2,19,0,D0,[(4,none)],true,false,false⟩
def UH:C:=.loop (rest 46 [0,19,20]) [] (.seq (.reg [zb 21 .lss 20 19]) (.seq (.cond (.t 21) (.skip) (.exit 0)) (.seq (.blk 1 (.seq (.reg [zm 22 20,zm 3 22]) (.seq (.reg [zm 23 0,zm 24 3,zq 25 (.idx (.t 23) (.t 24)),zm 4 25]) (.seq (.reg [zm 26 4,zq 27 (.call Di [.t 26] []),zq 28 (.un .not (.t 27)),zm 29 28,zmg 30 4 29 true,zg 31 (.bin .lss (.t 30) (.c (.int .u8 48))) 29 true,zmg 32 31 29 true,zmg 33 4 32 false,zg 34 (.bin .gtr (.t 33) (.c (.int .u8 57))) 32 false,zg 35 (.pick (.t 32) (.c (.bool true)) (.t 34)) 29 true,zu 36 29 35,zm 37 36,zmg 38 4 37 true,zg 39 (.bin .neq (.t 38) (.c (.int .u8 45))) 37 true,zu 40 37 39,zm 41 40,zmg 42 4 41 true,zg 43 (.bin .neq (.t 42) (.c (.int .u8 95))) 41 true,zu 44 41 43]) (.cond (.t 44) (.seq (.reg [zo 2 false]) (.ret)) (.skip)))))) (.reg [za 45 20 1,zm 20 45]))))
def RB:C:=.seq (.reg [zo 2 false]) (.seq (.seq (.reg [zm 5 0,⟨some 6,.bin .eql (.t 5) (.c (.str ⟨#[]⟩)),none⟩,zm 7 6,zmg 8 0 7 false,zg 9 (.lens (.t 8)) 7 false,zg 10 (.bin .gtr (.t 9) (.c (.int .i64 20))) 7 false,zy 11 7 10,zm 12 11,zmg 13 0 12 false,zg 14 (.idx (.t 13) (.c (.int .i64 0))) 12 false,zg 15 (.call Di [.t 14] []) 12 false,zg 16 (.un .not (.t 15)) 12 false,zy 17 12 16]) (.cond (.t 17) (.seq (.reg [zo 2 false]) (.ret)) (.skip))) (.seq (.seq (.reg [zm 18 0,zq 19 (.lens (.t 18)),zk 20 0]) (.blk 0 (UH))) (.seq (.reg [zo 2 true]) (.ret))))
def Zb:List Nat:=[]
def HO:IF:=⟨1,46,0,RB,[(2,none)],true,false,false⟩
def E3:C:=.seq (.reg [zo 4 false]) (.seq (.reg [zm 5 0,zm 6 1,zq 7 (.call BD [.t 5,.t 6] []),zq 8 (.bin .geq (.t 7) (.c (.int .i64 0))),zm 4 8]) (.ret))
def Kx:List Nat:=[]
def A9:IF:=⟨2,9,0,E3,[(4,none)],true,false,false⟩
def OT:C:=.seq (.reg [zq 4 (.mov (.c (.int .u64 0))),zq 5 (.mov (.c (.int .u64 0)))]) (.seq (.cond (.c (.bool false)) (.seq (.reg [zm 11 0,zq 12 (.cvi .u32 (.t 11)),zm 13 1,zq 14 (.cvi .u32 (.t 13)),zq 15 (.call DD [.t 12,.t 14] []),zm 10 15,zq 16 (.ext (.t 10) 0),zq 17 (.ext (.t 10) 1),zm 6 16,zm 7 17]) (.seq (.reg [zm 18 6,zq 19 (.cvi .u64 (.t 18)),zm 20 7,zq 21 (.cvi .u64 (.t 20)),zm 4 19,zm 5 21]) (.ret))) (.skip)) (.seq (.reg [zm 23 0,zm 24 1,zq 25 (.call DC [.t 23,.t 24] []),zm 22 25,zq 26 (.ext (.t 22) 0),zq 27 (.ext (.t 22) 1),zm 8 26,zm 9 27]) (.seq (.reg [zm 28 8,zm 29 9,zm 4 28,zm 5 29]) (.ret))))
def O7:List Nat:=[]
def CC:IF:=⟨2,30,0,OT,[(4,none),(5,none)],true,false,false⟩
def Kp:C:=.reg [zm 13 51]
def Kq:C:=.blk 5 (.drw [zl 52 1 12,zm 53 52,zlg 54 1 3 53 true,zfg 55 1 7 53 true,zlg 56 1 55 53 true,zmg 57 13 53 true,zg 58 (.iad 1 (.t 56) (.t 57)) 53 true,zlg 59 1 58 53 true,zg 60 (.iad 1 (.t 54) (.t 59)) 53 true,zlg 61 1 60 53 true,zg 62 (.un .not (.t 61)) 53 true,zu 63 53 62,zs 1 12 63] [])
def Od:C:=.loop (rest 101 [0,1,3,4,5,6,7,8,9,43,44,45]) [6,7] (.seq (.reg [zb 46 .lss 45 44]) (.seq (.cond (.t 46) (.skip) (.exit 2)) (.seq (.blk 3 (.seq (.reg [zi 47 1 43 45,zl 48 1 47,zm 11 48]) (.seq (.reg [zq 12 (.alc 6 1 (.bool false)),zr (.sto 1 (.t 12) (.c (.bool true)))]) (.seq (.seq (.reg [zm 49 11,zq 50 (.call Ho [.t 49] [])]) (.blk 4 (.rngf (.t 50) [51] (rest 101 [0,1,3,4,5,6,7,8,9,11,12,43,44,45]) [] Kp Kq))) (.seq (.reg [zl 64 1 12]) (.cond (.t 64) (.seq (.reg [zm 65 8,zm 66 11,zq 67 (.bsl 7 1 1 [.t 66]),zq 68 (.app 8 1 8 (.t 65) (.t 67)),zm 8 68]) (.reg [zm 69 9,zm 70 11,zb 71 .or 69 70,zm 9 71])) (.skip))))))) (.reg [za 72 45 1,zm 45 72]))))
def Ks:C:=.reg [zm 14 75]
def Kr:C:=.blk 7 (.seq (.reg [zf 76 1 7,zl 77 1 76,zm 78 14,zi 79 1 77 78,zl 80 1 79,zm 15 80]) (.seq (.reg [zl 81 1 4,zm 82 15,zi 83 1 81 82,zl 84 1 83,zq 85 (.un .not (.t 84))]) (.cond (.t 85) (.seq (.reg [zl 86 1 4,zm 87 15,zi 88 1 86 87,zr (.sto 1 (.t 88) (.c (.bool true)))]) (.reg [zl 89 1 5,zm 90 15,zq 91 (.bsl 9 1 1 [.t 90]),zq 92 (.app 10 1 8 (.t 89) (.t 91)),zs 1 5 92])) (.skip))))
def Ou:C:=.loop (rest 101 [0,1,3,4,5,6]) [5,6,7,8,9,10] (.seq (.seq (.reg [zm 28 6,zl 29 1 5,zn 30 29,zb 31 .lss 28 30]) (.cond (.t 31) (.skip) (.exit 0))) (.seq (.blk 1 (.seq (.drw [zf 34 1 1,zl 35 1 34,zl 36 1 5,zm 37 6,zi 38 1 36 37,zl 39 1 38,zi 40 2 35 39,zL 41 2 40,zq 7 (.alc 5 2 (.agg [.nils,.nils])),zs 2 7 41] [(0,8),(1,8),(2,8),(4,8),(5,8),(6,8),(7,8)]) (.seq (.reg [zq 8 (.mov (.c .nils))]) (.seq (.reg [zk 9 0]) (.seq (.seq (.reg [zf 42 0 7,zl 43 1 42,zn 44 43,zk 45 0]) (.blk 2 (Od))) (.seq (.seq (.reg [zm 73 9,zq 74 (.call Ho [.t 73] [])]) (.blk 6 (.rngf (.t 74) [75] (rest 101 [0,1,3,4,5,6,7,8]) [9,10] Ks Kr))) (.seq (.reg [zm 93 0,zl 94 1 5,zm 95 6,zi 96 1 94 95,zl 97 1 96,zm 98 8,zq 99 (.calv (.t 93) [.t 97,.t 98] []),zq 100 (.un .not (.t 99))]) (.cond (.t 100) (.ret) (.skip))))))))) (.reg [zm 32 6,za 33 32 1,zm 6 33])))
def JK:C:=.seq (.reg [zL 16 2 1,zq 17 (.call CP [.t 16] []),zq 3 (.alc 0 1 .nils),zs 1 3 17]) (.seq (.seq (.reg [zl 18 1 3,zq 19 (.iad 1 (.t 18) (.c (.int .i64 0))),zl 20 1 19]) (.cond (.t 20) (.ret) (.skip))) (.seq (.reg [zf 21 1 1,zl 22 1 21,zn 23 22,zq 24 (.mks 1 1 1 (.bool false) (.t 23) (.t 23)),zq 4 (.alc 2 1 .nils),zs 1 4 24]) (.seq (.reg [zl 25 1 4,zq 26 (.iad 1 (.t 25) (.c (.int .i64 0))),zr (.sto 1 (.t 26) (.c (.bool true)))]) (.seq (.reg [zq 27 (.bsl 3 1 1 [(.c (.int .i64 0))]),zq 5 (.alc 4 1 .nils),zs 1 5 27]) (.seq (.reg [zk 6 0]) (.blk 0 (Ou)))))))
def QK:List Nat:=[3,24,4,27,5,7,12,67,68,91,92]
def DT:IF:=⟨2,101,11,JK,[],false,false,false⟩
def MZ:C:=.loop (rest 22 [3,11,12,13]) [] (.seq (.reg [zb 14 .lss 13 12]) (.seq (.cond (.t 14) (.skip) (.exit 0)) (.seq (.blk 1 (.seq (.reg [zi 15 1 11 13,zl 16 1 15,zm 5 16]) (.reg [zm 17 3,zm 18 5,zi 19 1 17 18,zr (.sto 1 (.t 19) (.c (.bool true)))]))) (.reg [za 20 13 1,zm 13 20]))))
def KX:C:=.seq (.reg [zq 1 (.box 0 2 (.t 0)),zq 2 (.mov (.c .nils))]) (.seq (.reg [zf 6 1 1,zl 7 1 6,zn 8 7,zq 9 (.mks 1 1 1 (.bool false) (.t 8) (.t 8)),zm 3 9]) (.seq (.seq (.reg [zL 10 2 1,zq 11 (.call CY [.t 10] []),zn 12 11,zk 13 0]) (.blk 0 (MZ))) (.seq (.reg [zm 21 3,zm 2 21]) (.ret))))
def Pu:List Nat:=[1,9]
def CA:IF:=⟨1,22,2,KX,[(2,none)],true,false,false⟩
def KS:C:=.seq (.reg [zk 2 0]) (.seq (.cond (.c (.bool false)) (.seq (.reg [zm 3 0,zq 4 (.cvi .u32 (.t 3)),zq 5 (.call DE [.t 4] []),zm 2 5]) (.ret)) (.skip)) (.seq (.reg [zm 6 0,zq 7 (.call B1 [.t 6] []),zm 2 7]) (.ret)))
def OV:List Nat:=[]
def CN:IF:=⟨1,8,0,KS,[(2,none)],true,false,false⟩
def FX:C:=.loop (rest 134 [0,1,2,3,8,9]) [] (.blk 1 (.seq (.reg [zm 19 2,zm 20 1,zb 21 .sub 19 20,zm 10 21]) (.seq (.seq (.reg [zm 22 10,zq 23 (.bin .leq (.t 22) (.c (.int .i64 12)))]) (.cond (.t 23) (.seq (.reg [zm 24 0,zm 25 1,zm 26 2,zq 27 (.call Aw [.t 24,.t 25,.t 26] [])]) (.ret)) (.skip))) (.seq (.seq (.reg [zm 28 3,zq 29 (.bin .eql (.t 28) (.c (.int .i64 0)))]) (.cond (.t 29) (.seq (.reg [zm 30 0,zm 31 1,zm 32 2,zq 33 (.call Bd [.t 30,.t 31,.t 32] [])]) (.ret)) (.skip))) (.seq (.seq (.reg [zm 34 8,zq 35 (.un .not (.t 34))]) (.cond (.t 35) (.seq (.reg [zm 36 0,zm 37 1,zm 38 2,zq 39 (.call AN [.t 36,.t 37,.t 38] [])]) (.reg [zm 40 3,zq 41 (.bin .sub (.t 40) (.c (.int .i64 1))),zm 3 41])) (.skip))) (.seq (.reg [zm 43 0,zm 44 1,zm 45 2,zq 46 (.call An [.t 43,.t 44,.t 45] []),zm 42 46,zq 47 (.ext (.t 42) 0),zq 48 (.ext (.t 42) 1),zm 11 47,zm 12 48]) (.seq (.seq (.reg [zm 49 12,zq 50 (.bin .eql (.t 49) (.c (.int .i64 2)))]) (.cond (.t 50) (.seq (.reg [zm 51 0,zm 52 1,zm 53 2,zq 54 (.call AT [.t 51,.t 52,.t 53] [])]) (.seq (.reg [zm 55 2,zq 56 (.bin .sub (.t 55) (.c (.int .i64 1))),zm 57 11,zm 58 1,zb 59 .sub 57 58,zb 60 .sub 56 59,zm 11 60]) (.reg [zk 12 1]))) (.skip))) (.seq (.seq (.reg [zm 61 8,zm 62 61,zmg 63 9 62 true,zu 64 62 63,zm 65 64,zmg 66 12 65 true,zg 67 (.bin .eql (.t 66) (.c (.int .i64 1))) 65 true,zu 68 65 67]) (.cond (.t 68) (.seq (.reg [zm 69 0,zm 70 1,zm 71 2,zq 72 (.call At [.t 69,.t 70,.t 71] [])]) (.cond (.t 72) (.ret) (.skip))) (.skip))) (.seq (.seq (.drw [zm 73 1,zq 74 (.bin .gtr (.t 73) (.c (.int .i64 0))),zm 75 74,zmg 76 0 75 true,zmg 77 1 75 true,zg 78 (.bin .sub (.t 77) (.c (.int .i64 1))) 75 true,zg 79 (.iad 1 (.t 76) (.t 78)) 75 true,zlg 80 1 79 75 true,zmg 81 0 75 true,zmg 82 11 75 true,zg 83 (.iad 1 (.t 81) (.t 82)) 75 true,zlg 84 1 83 75 true,zg 85 (.call Af [.t 80,.t 84] []) 75 true,zg 86 (.un .not (.t 85)) 75 true,zu 87 75 86] []) (.cond (.t 87) (.seq (.reg [zm 88 0,zm 89 1,zm 90 2,zm 91 11,zq 92 (.call AH [.t 88,.t 89,.t 90,.t 91] []),zm 13 92]) (.seq (.reg [zm 93 13,zm 1 93]) (.exit 1))) (.skip))) (.seq (.reg [zm 95 0,zm 96 1,zm 97 2,zm 98 11,zq 99 (.call A7 [.t 95,.t 96,.t 97,.t 98] []),zm 94 99,zq 100 (.ext (.t 94) 0),zq 101 (.ext (.t 94) 1),zm 14 100,zm 15 101]) (.seq (.reg [zm 102 15,zm 9 102]) (.seq (.reg [zm 103 14,zm 104 1,zb 105 .sub 103 104,zm 106 2,zm 107 14,zb 108 .sub 106 107,zm 16 105,zm 17 108]) (.seq (.reg [zm 109 10,zq 110 (.bin .quo (.t 109) (.c (.int .i64 8))),zm 18 110]) (.seq (.reg [zm 111 16,zm 112 17,zb 113 .lss 111 112]) (.cond (.t 113) (.seq (.reg [zm 114 16,zm 115 18,zb 116 .geq 114 115,zm 8 116]) (.seq (.reg [zm 117 0,zm 118 1,zm 119 14,zm 120 3,zq 121 (.call Ap [.t 117,.t 118,.t 119,.t 120] [])]) (.reg [zm 122 14,za 123 122 1,zm 1 123]))) (.seq (.reg [zm 124 17,zm 125 18,zb 126 .geq 124 125,zm 8 126]) (.seq (.reg [zm 127 0,zm 128 14,za 129 128 1,zm 130 2,zm 131 3,zq 132 (.call Ap [.t 127,.t 129,.t 130,.t 131] [])]) (.reg [zm 133 14,zm 2 133]))))))))))))))))))
def BQ:C:=.seq (.reg [zo 8 true]) (.seq (.reg [zo 9 true]) (.blk 0 (FX)))
def Hj:List Nat:=[]
def AU:IF:=⟨4,134,0,BQ,[],false,false,false⟩
def Tf:C:=.loop (rest 120 [2,3,5,25,26]) [3] (.seq (.reg [zb 27 .lss 26 25]) (.seq (.cond (.t 27) (.skip) (.exit 0)) (.seq (.blk 1 (.seq (.reg [zm 28 26,zm 6 28]) (.reg [zm 29 5,zm 30 6,zf 31 1 3,zl 32 1 31,zn 33 32,zq 34 (.mks 3 1 1 (.bool false) (.t 33) (.t 33)),zi 35 1 29 30,zs 1 35 34]))) (.reg [za 36 26 1,zm 26 36]))))
def SJ:C:=.loop (rest 120 [2,3,5,8,9,11,48,49,50,74,75,76]) [6,7] (.seq (.reg [zb 77 .lss 76 75]) (.seq (.cond (.t 77) (.skip) (.exit 6)) (.seq (.blk 7 (.seq (.reg [zm 78 76,zi 79 1 74 76,zl 80 1 79,zm 12 78,zm 13 80]) (.seq (.seq (.reg [zm 81 13,zq 82 (.bin .lss (.t 81) (.c (.int .i64 0)))]) (.cond (.t 82) (.exit 7) (.skip))) (.seq (.reg [zm 83 13,zf 84 1 3,zl 85 1 84,zq 86 (.iaa 2 1 (.t 11) (.c (.int .i64 1))),zl 87 1 86,zi 88 2 85 87,zf 89 1 88,zl 90 1 89,zm 91 12,zi 92 1 90 91,zl 93 1 92,zq 94 (.bld [(.int .i64 0),(.int .i64 0)] [(0,1,(.t 83)),(1,1,(.t 93))]),zq 14 (.alc 6 2 (.agg [(.int .i64 0),(.int .i64 0)])),zs 2 14 94]) (.seq (.drw [zm 95 5,zq 96 (.iaa 2 1 (.t 14) (.c (.int .i64 0))),zl 97 1 96,zi 98 1 95 97,zl 99 1 98,zq 100 (.iaa 2 1 (.t 14) (.c (.int .i64 1))),zl 101 1 100,zi 102 1 99 101,zl 103 1 102,zq 104 (.un .not (.t 103))] []) (.cond (.t 104) (.seq (.drw [zm 105 5,zq 106 (.iaa 2 1 (.t 14) (.c (.int .i64 0))),zl 107 1 106,zi 108 1 105 107,zl 109 1 108,zq 110 (.iaa 2 1 (.t 14) (.c (.int .i64 1))),zl 111 1 110,zi 112 1 109 111,zr (.sto 1 (.t 112) (.c (.bool true)))] []) (.reg [zm 113 9,zL 114 2 14,zq 115 (.bsl 7 2 1 [.t 114]),zq 116 (.app 8 2 16 (.t 113) (.t 115)),zm 9 116])) (.skip))))))) (.reg [za 117 76 1,zm 76 117]))))
def R6:C:=.loop (rest 120 [2,3,5,8,9,48,49,50]) [5,6,7] (.seq (.reg [zb 51 .lss 50 49]) (.seq (.cond (.t 51) (.skip) (.exit 4)) (.seq (.blk 5 (.seq (.reg [zi 52 2 48 50,zL 53 2 52,zq 11 (.alc 5 2 (.agg [(.int .i64 0),(.int .i64 0)])),zs 2 11 53]) (.seq (.seq (.drw [zf 54 1 2,zl 55 1 54,zq 56 (.iaa 2 1 (.t 11) (.c (.int .i64 0))),zl 57 1 56,zi 58 2 55 57,zL 59 2 58,zf 60 1 3,zl 61 1 60,zq 62 (.iaa 2 1 (.t 11) (.c (.int .i64 1))),zl 63 1 62,zi 64 2 61 63,zL 65 2 64,zq 66 (.call Fs [.t 59,.t 65] [])] []) (.cond (.t 66) (.seq (.reg [zm 67 8,zm 4 67]) (.ret)) (.skip))) (.seq (.reg [zf 68 1 2,zl 69 1 68,zq 70 (.iaa 2 1 (.t 11) (.c (.int .i64 0))),zl 71 1 70,zi 72 2 69 71,zf 73 1 72,zl 74 1 73,zn 75 74,zk 76 0]) (.blk 6 (SJ)))))) (.reg [za 118 50 1,zm 50 118]))))
def RZ:C:=.loop (rest 120 [2,3,5,7,8]) [5,6,7] (.frzt 7 (.seq (.seq (.reg [zm 43 7,zn 44 43,zq 45 (.bin .gtr (.t 44) (.c (.int .i64 0)))]) (.cond (.t 45) (.skip) (.exit 2))) (.seq (.blk 3 (.seq (.reg [zq 9 (.mov (.c .nils))]) (.seq (.seq (.reg [zm 48 7,zn 49 48,zk 50 0]) (.blk 4 (R6))) (.reg [zm 119 9,zm 7 119])))) (.reg [zm 46 8,za 47 46 1,zm 8 47]))))
def Pa:C:=.seq (.reg [zq 2 (.box 0 2 (.t 0)),zq 3 (.box 1 2 (.t 1)),zk 4 0]) (.seq (.reg [zL 16 2 2,zq 17 (.call Bt [.t 16] []),zm 15 17,zq 18 (.ext (.t 15) 0),zq 19 (.ext (.t 15) 1),zs 2 2 18]) (.seq (.reg [zf 20 1 2,zl 21 1 20,zn 22 21,zq 23 (.mks 2 1 24 .nils (.t 22) (.t 22)),zm 5 23]) (.seq (.seq (.reg [zm 24 5,zn 25 24,zk 26 0]) (.blk 0 (Tf))) (.seq (.reg [zm 37 5,zq 38 (.iad 1 (.t 37) (.c (.int .i64 0))),zl 39 1 38,zq 40 (.iad 1 (.t 39) (.c (.int .i64 0))),zr (.sto 1 (.t 40) (.c (.bool true)))]) (.seq (.reg [zq 41 (.bld [(.int .i64 0),(.int .i64 0)] [(0,1,(.c (.int .i64 0))),(1,1,(.c (.int .i64 0)))]),zq 42 (.bsl 4 2 1 [.t 41]),zm 7 42]) (.seq (.seq (.reg [zk 8 0]) (.blk 2 (RZ))) (.seq (.reg [zk 4 (-1)]) (.ret))))))))
def Xt:List Nat:=[2,3,23,34,42,11,14,115,116]
def Fi:IF:=⟨2,120,9,Pa,[(4,none)],true,false,false⟩
def KR:C:=.seq (.reg [zo 4 false]) (.seq (.reg [zm 5 0,zq 6 (.call BL [.t 5] []),zm 7 6,zmg 8 1 7 true,zg 9 (.call BL [.t 8] []) 7 true,zg 10 (.un .not (.t 9)) 7 true,zu 11 7 10,zm 12 11,zmg 13 0 12 false,zmg 14 1 12 false,zg 15 (.bin .lss (.t 13) (.t 14)) 12 false,zy 16 12 15,zm 4 16]) (.ret))
def Pi:List Nat:=[]
def CO:IF:=⟨2,17,0,KR,[(4,none)],true,false,false⟩
def HZ:C:=.seq (.reg [zo 2 false]) (.seq (.reg [zm 3 0,zm 4 0,zb 5 .neq 3 4,zm 2 5]) (.ret))
def Mc:List Nat:=[]
def By:IF:=⟨1,6,0,HZ,[(2,none)],true,false,false⟩
def NL:C:=.seq (.reg [zo 2 false]) (.seq (.reg [zm 3 0,zq 4 (.bin .geq (.t 3) (.c (.int .u8 97))),zm 5 4,zmg 6 0 5 true,zg 7 (.bin .leq (.t 6) (.c (.int .u8 122))) 5 true,zu 8 5 7,zm 9 8,zmg 10 0 9 false,zg 11 (.bin .geq (.t 10) (.c (.int .u8 65))) 9 false,zmg 12 11 9 false,zmg 13 0 12 true,zg 14 (.bin .leq (.t 13) (.c (.int .u8 90))) 12 true,zg 15 (.pick (.t 12) (.t 14) (.c (.bool false))) 9 false,zy 16 9 15,zm 2 16]) (.ret))
def s_act_letter:List Nat:=[]
def Eo:IF:=⟨1,17,0,NL,[(2,none)],true,false,false⟩
def EQ:C:=.loop (rest 19 [0,1,7,8]) [] (.seq (.reg [zb 9 .lss 8 7]) (.seq (.cond (.t 9) (.skip) (.exit 0)) (.seq (.blk 1 (.seq (.reg [zm 10 8,zm 5 10]) (.seq (.reg [zm 11 1,zm 12 0,zm 13 5,zi 14 1 12 13,zl 15 1 14,zb 16 .eql 11 15]) (.cond (.t 16) (.seq (.reg [zm 17 5,zm 4 17]) (.ret)) (.skip))))) (.reg [za 18 8 1,zm 8 18]))))
def HS:C:=.seq (.reg [zk 4 0]) (.seq (.seq (.reg [zm 6 0,zn 7 6,zk 8 0]) (.blk 0 (EQ))) (.seq (.reg [zk 4 (-1)]) (.ret)))
def L4:List Nat:=[]
def BA:IF:=⟨2,19,0,HS,[(4,none)],true,false,false⟩
def MX:C:=.seq (.reg [zq 4 (.mov (.c (.int .u32 0))),zq 5 (.mov (.c (.int .u32 0)))]) (.seq (.reg [zm 7 0,zq 8 (.cvi .u64 (.t 7)),zm 9 1,zq 10 (.cvi .u64 (.t 9)),zb 11 .mul 8 10,zm 6 11]) (.seq (.reg [zm 12 6,zq 13 (.bin .shr (.t 12) (.c (.int .u64 32))),zq 14 (.cvi .u32 (.t 13)),zm 15 6,zq 16 (.cvi .u32 (.t 15)),zm 4 14,zm 5 16]) (.ret)))
def Ni:List Nat:=[]
def BW:IF:=⟨2,17,0,MX,[(4,none),(5,none)],true,false,false⟩
def Nq:C:=.seq (.reg [zq 4 (.mov (.c (.int .u64 0))),zq 5 (.mov (.c (.int .u64 0)))]) (.seq (.reg [zm 14 0,zq 15 (.bin .and (.t 14) (.c (.int .u64 4294967295))),zm 6 15]) (.seq (.reg [zm 16 0,zq 17 (.bin .shr (.t 16) (.c (.int .u64 32))),zm 7 17]) (.seq (.reg [zm 18 1,zq 19 (.bin .and (.t 18) (.c (.int .u64 4294967295))),zm 8 19]) (.seq (.reg [zm 20 1,zq 21 (.bin .shr (.t 20) (.c (.int .u64 32))),zm 9 21]) (.seq (.reg [zm 22 6,zm 23 8,zb 24 .mul 22 23,zm 10 24]) (.seq (.reg [zm 25 7,zm 26 8,zb 27 .mul 25 26,zm 28 10,zq 29 (.bin .shr (.t 28) (.c (.int .u64 32))),zb 30 .add 27 29,zm 11 30]) (.seq (.reg [zm 31 11,zq 32 (.bin .and (.t 31) (.c (.int .u64 4294967295))),zm 12 32]) (.seq (.reg [zm 33 11,zq 34 (.bin .shr (.t 33) (.c (.int .u64 32))),zm 13 34]) (.seq (.reg [zm 35 12,zm 36 6,zm 37 9,zb 38 .mul 36 37,zb 39 .add 35 38,zm 12 39]) (.seq (.reg [zm 40 7,zm 41 9,zb 42 .mul 40 41,zm 43 13,zb 44 .add 42 43,zm 45 12,zq 46 (.bin .shr (.t 45) (.c (.int .u64 32))),zb 47 .add 44 46,zm 4 47]) (.seq (.reg [zm 48 0,zm 49 1,zb 50 .mul 48 49,zm 5 50]) (.ret))))))))))))
def Nd:List Nat:=[]
def BZ:IF:=⟨2,51,0,Nq,[(4,none),(5,none)],true,false,false⟩
def Pe:C:=.loop (rest 106 [1,4,5,6,7,8,26,27,28,56,57,58]) [11,12] (.seq (.reg [zb 59 .lss 58 57]) (.seq (.cond (.t 59) (.skip) (.exit 2)) (.seq (.blk 3 (.seq (.reg [zm 60 58,zi 61 1 56 58,zl 62 1 61,zm 10 60,zm 11 62]) (.seq (.reg [zm 63 11,zq 64 (.bin .geq (.t 63) (.c (.int .i64 0)))]) (.cond (.t 64) (.reg [zm 65 6,zm 66 11,zm 67 6,zm 68 11,zi 69 1 67 68,zl 70 1 69,zm 71 8,zm 72 10,zq 73 (.bld [(.int .i64 0),(.int .i64 0)] [(0,1,(.t 71)),(1,1,(.t 72))]),zq 74 (.bsl 11 2 1 [.t 73]),zq 75 (.app 12 2 16 (.t 70) (.t 74)),zi 76 1 65 66,zs 1 76 75]) (.skip))))) (.reg [za 77 58 1,zm 58 77]))))
def PI:C:=.loop (rest 106 [1,4,5,6,7,26,27,28]) [7,8,9,10,11,12] (.seq (.reg [zb 29 .lss 28 27]) (.seq (.cond (.t 29) (.skip) (.exit 0)) (.seq (.blk 1 (.seq (.reg [zm 30 28,zi 31 2 26 28,zL 32 2 31,zq 9 (.alc 7 2 (.agg [.nils,.nils])),zm 8 30,zs 2 9 32]) (.seq (.drw [zl 33 1 4,zm 34 8,zl 35 1 5,zm 36 8,zf 37 0 9,zl 38 1 37,zn 39 38,zf 40 0 9,zl 41 1 40,zn 42 41,zq 43 (.mks 8 1 1 (.bool false) (.t 42) (.t 42)),zi 44 1 33 34,zs 1 44 39,zi 45 1 35 36,zs 1 45 43] [(0,10),(2,10),(4,10),(5,10),(6,10),(10,11),(2,12),(7,12),(8,12),(9,12),(10,12)]) (.seq (.seq (.reg [zl 46 1 4,zm 47 8,zi 48 1 46 47,zl 49 1 48,zq 50 (.bin .eql (.t 49) (.c (.int .i64 0)))]) (.cond (.t 50) (.reg [zl 51 1 7,zm 52 8,zq 53 (.bsl 9 1 1 [.t 52]),zq 54 (.app 10 1 8 (.t 51) (.t 53)),zs 1 7 54]) (.skip))) (.seq (.reg [zf 55 1 9,zl 56 1 55,zn 57 56,zk 58 0]) (.blk 2 (Pe))))))) (.reg [za 78 28 1,zm 28 78]))))
def Qh:C:=.loop (rest 106 [6,7,12,13,92,93,94]) [13] (.seq (.reg [zb 95 .lss 94 93]) (.seq (.cond (.t 95) (.skip) (.exit 6)) (.seq (.blk 7 (.seq (.reg [zi 96 2 92 94,zL 97 2 96,zq 15 (.alc 13 2 (.agg [(.int .i64 0),(.int .i64 0)])),zs 2 15 97]) (.reg [zm 98 12,zq 99 (.iaa 2 1 (.t 15) (.c (.int .i64 0))),zl 100 1 99,zq 101 (.iaa 2 1 (.t 15) (.c (.int .i64 1))),zl 102 1 101,zq 103 (.calv (.t 98) [.t 100,.t 102] [])]))) (.reg [za 104 94 1,zm 94 104]))))
def PU:C:=.loop (rest 106 [6,7,12,13]) [13] (.seq (.seq (.reg [zm 80 13,zl 81 1 7,zn 82 81,zb 83 .lss 80 82]) (.cond (.t 83) (.skip) (.exit 4))) (.seq (.blk 5 (.seq (.reg [zm 86 6,zl 87 1 7,zm 88 13,zi 89 1 87 88,zl 90 1 89,zi 91 1 86 90,zl 92 1 91,zn 93 92,zk 94 0]) (.blk 6 (Qh)))) (.reg [zm 84 13,za 85 84 1,zm 13 85])))
def Mt:C:=.seq (.reg [zq 1 (.box 0 2 (.t 0)),zq 2 (.mov (.c .nils))]) (.seq (.reg [zf 16 1 1,zl 17 1 16,zn 18 17,zm 3 18]) (.seq (.reg [zm 19 3,zq 20 (.mks 1 1 8 (.int .i64 0) (.t 19) (.t 19)),zq 4 (.alc 2 1 .nils),zs 1 4 20]) (.seq (.reg [zm 21 3,zq 22 (.mks 3 1 24 .nils (.t 21) (.t 21)),zq 5 (.alc 4 1 .nils),zs 1 5 22]) (.seq (.reg [zm 23 3,zq 24 (.mks 5 1 24 .nils (.t 23) (.t 23)),zm 6 24]) (.seq (.reg [zq 7 (.alc 6 1 .nils)]) (.seq (.seq (.reg [zf 25 1 1,zl 26 1 25,zn 27 26,zk 28 0]) (.blk 0 (PI))) (.seq (.reg [zq 79 (.mkf CH [.t 1,.t 5,.t 4,.t 7]),zm 12 79]) (.seq (.seq (.reg [zk 13 0]) (.blk 4 (PU))) (.seq (.reg [zl 105 1 7,zm 2 105]) (.ret))))))))))
def Tu:List Nat:=[1,20,4,22,5,24,7,9,43,53,54,74,75,15]
def DP:IF:=⟨1,106,14,Mt,[(2,none)],true,true,false⟩
def M5:C:=.seq (.reg [zk 2 0]) (.seq (.seq (.reg [zm 3 0,zq 4 (.bin .geq (.t 3) (.c (.int .u32 65536)))]) (.cond (.t 4) (.seq (.reg [zm 5 0,zq 6 (.bin .shr (.t 5) (.c (.int .u64 16))),zm 0 6]) (.reg [zk 2 16])) (.skip))) (.seq (.seq (.reg [zm 7 0,zq 8 (.bin .geq (.t 7) (.c (.int .u32 256)))]) (.cond (.t 8) (.seq (.reg [zm 9 0,zq 10 (.bin .shr (.t 9) (.c (.int .u64 8))),zm 0 10]) (.reg [zm 11 2,za 12 11 8,zm 2 12])) (.skip))) (.seq (.reg [zm 13 2,zm 14 0,zq 15 (.cvi .u8 (.t 14)),⟨some 16,.idx (.c (.str ⟨#[0,1,2,2,3,3,3,3,4,4,4,4,4,4,4,4,5,5,5,5,5,5,5,5,5,5,5,5,5,5,5,5,6,6,6,6,6,6,6,6,6,6,6,6,6,6,6,6,6,6,6,6,6,6,6,6,6,6,6,6,6,6,6,6,7,7,7,7,7,7,7,7,7,7,7,7,7,7,7,7,7,7,7,7,7,7,7,7,7,7,7,7,7,7,7,7,7,7,7,7,7,7,7,7,7,7,7,7,7,7,7,7,7,7,7,7,7,7,7,7,7,7,7,7,7,7,7,7,8,8,8,8,8,8,8,8,8,8,8,8,8,8,8,8,8,8,8,8,8,8,8,8,8,8,8,8,8,8,8,8,8,8,8,8,8,8,8,8,8,8,8,8,8,8,8,8,8,8,8,8,8,8,8,8,8,8,8,8,8,8,8,8,8,8,8,8,8,8,8,8,8,8,8,8,8,8,8,8,8,8,8,8,8,8,8,8,8,8,8,8,8,8,8,8,8,8,8,8,8,8,8,8,8,8,8,8,8,8,8,8,8,8,8,8,8,8,8,8,8,8,8,8,8,8,8,8]⟩)) (.t 15),none⟩,zq 17 (.cvi .i64 (.t 16)),zb 18 .add 13 17,zm 2 18]) (.ret))))
def Nv:List Nat:=[]
def B0:IF:=⟨1,19,0,M5,[(2,none)],true,false,false⟩
def DB:C:=.seq (.reg [zk 2 0]) (.seq (.seq (.reg [zm 3 0,zq 4 (.bin .geq (.t 3) (.c (.int .u64 4294967296)))]) (.cond (.t 4) (.seq (.reg [zm 5 0,zq 6 (.bin .shr (.t 5) (.c (.int .u64 32))),zm 0 6]) (.reg [zk 2 32])) (.skip))) (.seq (.seq (.reg [zm 7 0,zq 8 (.bin .geq (.t 7) (.c (.int .u64 65536)))]) (.cond (.t 8) (.seq (.reg [zm 9 0,zq 10 (.bin .shr (.t 9) (.c (.int .u64 16))),zm 0 10]) (.reg [zm 11 2,za 12 11 16,zm 2 12])) (.skip))) (.seq (.seq (.reg [zm 13 0,zq 14 (.bin .geq (.t 13) (.c (.int .u64 256)))]) (.cond (.t 14) (.seq (.reg [zm 15 0,zq 16 (.bin .shr (.t 15) (.c (.int .u64 8))),zm 0 16]) (.reg [zm 17 2,za 18 17 8,zm 2 18])) (.skip))) (.seq (.reg [zm 19 2,zm 20 0,zq 21 (.cvi .u8 (.t 20)),⟨some 22,.idx (.c (.str ⟨#[0,1,2,2,3,3,3,3,4,4,4,4,4,4,4,4,5,5,5,5,5,5,5,5,5,5,5,5,5,5,5,5,6,6,6,6,6,6,6,6,6,6,6,6,6,6,6,6,6,6,6,6,6,6,6,6,6,6,6,6,6,6,6,6,7,7,7,7,7,7,7,7,7,7,7,7,7,7,7,7,7,7,7,7,7,7,7,7,7,7,7,7,7,7,7,7,7,7,7,7,7,7,7,7,7,7,7,7,7,7,7,7,7,7,7,7,7,7,7,7,7,7,7,7,7,7,7,7,8,8,8,8,8,8,8,8,8,8,8,8,8,8,8,8,8,8,8,8,8,8,8,8,8,8,8,8,8,8,8,8,8,8,8,8,8,8,8,8,8,8,8,8,8,8,8,8,8,8,8,8,8,8,8,8,8,8,8,8,8,8,8,8,8,8,8,8,8,8,8,8,8,8,8,8,8,8,8,8,8,8,8,8,8,8,8,8,8,8,8,8,8,8,8,8,8,8,8,8,8,8,8,8,8,8,8,8,8,8,8,8,8,8,8,8,8,8,8,8,8,8,8,8,8,8,8,8]⟩)) (.t 21),none⟩,zq 23 (.cvi .i64 (.t 22)),zb 24 .add 19 23,zm 2 24]) (.ret)))))
def Nj:List Nat:=[]
def BV:IF:=⟨1,25,0,DB,[(2,none)],true,false,false⟩
def Ko:C:=.seq (.reg [zo 2 false]) (.seq (.reg [zm 3 0,zm 4 0,zb 5 .neq 3 4,zm 2 5]) (.ret))
def Oe:List Nat:=[]
def Cf:IF:=⟨1,6,0,Ko,[(2,none)],true,false,false⟩
def DS:C:=.loop (rest 49 [0,1,2,6,7]) [] (.seq (.seq (.drw [zm 16 7,zm 17 1,zb 18 .gtr 16 17,zm 19 18,zmg 20 0 19 true,zmg 21 7 19 true,zg 22 (.iad 1 (.t 20) (.t 21)) 19 true,zlg 23 1 22 19 true,zmg 24 0 19 true,zmg 25 7 19 true,zg 26 (.bin .sub (.t 25) (.c (.int .i64 1))) 19 true,zg 27 (.iad 1 (.t 24) (.t 26)) 19 true,zlg 28 1 27 19 true,zg 29 (.call Af [.t 23,.t 28] []) 19 true,zu 30 19 29] []) (.cond (.t 30) (.skip) (.exit 2))) (.seq (.blk 3 (.drw [zm 33 0,zm 34 7,zm 35 0,zm 36 7,zq 37 (.bin .sub (.t 36) (.c (.int .i64 1))),zm 38 0,zm 39 7,zq 40 (.bin .sub (.t 39) (.c (.int .i64 1))),zi 41 1 38 40,zl 42 1 41,zm 43 0,zm 44 7,zi 45 1 43 44,zl 46 1 45,zi 47 1 33 34,zs 1 47 42,zi 48 1 35 37,zs 1 48 46] [])) (.reg [zm 31 7,zq 32 (.bin .sub (.t 31) (.c (.int .i64 1))),zm 7 32])))
def DY:C:=.loop (rest 49 [0,1,2,6]) [] (.seq (.seq (.reg [zm 10 6,zm 11 2,zb 12 .lss 10 11]) (.cond (.t 12) (.skip) (.exit 0))) (.seq (.blk 1 (.seq (.reg [zm 15 6,zm 7 15]) (.blk 2 (DS)))) (.reg [zm 13 6,za 14 13 1,zm 6 14])))
def Bk:C:=.seq (.reg [zm 8 1,za 9 8 1,zm 6 9]) (.blk 0 (DY))
def EE:List Nat:=[]
def Ax:IF:=⟨3,49,0,Bk,[],false,false,false⟩
def FB:C:=.loop (rest 56 [0,6,7,8,9]) [] (.seq (.seq (.reg [zm 18 9,zq 19 (.bin .geq (.t 18) (.c (.int .i64 0)))]) (.cond (.t 19) (.skip) (.exit 0))) (.seq (.blk 1 (.reg [zm 22 0,zm 23 9,zm 24 8,zm 25 6,zq 26 (.call AK [.t 22,.t 23,.t 24,.t 25] [])])) (.reg [zm 20 9,zq 21 (.bin .sub (.t 20) (.c (.int .i64 1))),zm 9 21])))
def Fx:C:=.loop (rest 56 [0,6,7,10]) [] (.seq (.seq (.reg [zm 29 10,zq 30 (.bin .geq (.t 29) (.c (.int .i64 0)))]) (.cond (.t 30) (.skip) (.exit 2))) (.seq (.blk 3 (.seq (.drw [zm 33 0,zm 34 6,zm 35 0,zm 36 6,zm 37 10,zb 38 .add 36 37,zm 39 0,zm 40 6,zm 41 10,zb 42 .add 40 41,zi 43 1 39 42,zl 44 1 43,zm 45 0,zm 46 6,zi 47 1 45 46,zl 48 1 47,zi 49 1 33 34,zs 1 49 44,zi 50 1 35 38,zs 1 50 48] []) (.reg [zm 51 0,zm 52 7,zm 53 10,zm 54 6,zq 55 (.call AK [.t 51,.t 52,.t 53,.t 54] [])]))) (.reg [zm 31 10,zq 32 (.bin .sub (.t 31) (.c (.int .i64 1))),zm 10 32])))
def C6:C:=.seq (.reg [zm 11 1,zm 6 11]) (.seq (.reg [zk 7 0]) (.seq (.reg [zm 12 2,zm 13 1,zb 14 .sub 12 13,zm 8 14]) (.seq (.seq (.reg [zm 15 8,zq 16 (.bin .sub (.t 15) (.c (.int .i64 1))),zq 17 (.bin .quo (.t 16) (.c (.int .i64 2))),zm 9 17]) (.blk 0 (FB))) (.seq (.reg [zm 27 8,zq 28 (.bin .sub (.t 27) (.c (.int .i64 1))),zm 10 28]) (.blk 2 (Fx))))))
def F2:List Nat:=[]
def AL:IF:=⟨3,56,0,C6,[],false,false,false⟩
def DZ:C:=.loop (rest 65 [0,1,6,7,8,9]) [] (.seq (.seq (.reg [zm 26 9,zm 27 1,zm 28 6,zq 29 (.bin .quo (.t 28) (.c (.int .i64 4))),zq 30 (.bin .mul (.t 29) (.c (.int .i64 2))),zb 31 .add 27 30,za 32 31 1,zb 33 .leq 26 32]) (.cond (.t 33) (.skip) (.exit 0))) (.seq (.blk 1 (.seq (.reg [zq 36 (.call Ba [.t 7] []),zm 37 8,zq 38 (.bin .sub (.t 37) (.c (.int .u64 1))),zb 39 .and 36 38,zq 40 (.cvi .i64 (.t 39)),zm 10 40]) (.seq (.seq (.reg [zm 41 10,zm 42 6,zb 43 .geq 41 42]) (.cond (.t 43) (.reg [zm 44 10,zm 45 6,zb 46 .sub 44 45,zm 10 46]) (.skip))) (.drw [zm 47 0,zm 48 9,zm 49 0,zm 50 1,zm 51 10,zb 52 .add 50 51,zm 53 0,zm 54 1,zm 55 10,zb 56 .add 54 55,zi 57 1 53 56,zl 58 1 57,zm 59 0,zm 60 9,zi 61 1 59 60,zl 62 1 61,zi 63 1 47 48,zs 1 63 58,zi 64 1 49 52,zs 1 64 62] [])))) (.reg [zm 34 9,za 35 34 1,zm 9 35])))
def Cc:C:=.seq (.reg [zm 11 2,zm 12 1,zb 13 .sub 11 12,zm 6 13]) (.seq (.reg [zm 14 6,zq 15 (.bin .geq (.t 14) (.c (.int .i64 8)))]) (.cond (.t 15) (.seq (.reg [zm 16 6,zq 17 (.cvi .u64 (.t 16)),zq 7 (.alc 0 1 (.int .u64 0)),zs 1 7 17]) (.seq (.reg [zm 18 6,zq 19 (.call A5 [.t 18] []),zm 8 19]) (.seq (.reg [zm 20 1,zm 21 6,zq 22 (.bin .quo (.t 21) (.c (.int .i64 4))),zq 23 (.bin .mul (.t 22) (.c (.int .i64 2))),zb 24 .add 20 23,zq 25 (.bin .sub (.t 24) (.c (.int .i64 1))),zm 9 25]) (.blk 0 (DZ))))) (.skip)))
def EG:List Nat:=[7]
def Av:IF:=⟨3,65,1,Cc,[],false,false,false⟩
def Bv:C:=.seq (.reg [zk 6 0,zk 7 0]) (.seq (.reg [zm 13 2,zm 14 1,zb 15 .sub 13 14,zm 8 15]) (.seq (.reg [zq 9 (.alc 0 1 (.int .i64 0))]) (.seq (.reg [zm 16 1,zm 17 8,zq 18 (.bin .quo (.t 17) (.c (.int .i64 4))),zq 19 (.bin .mul (.t 18) (.c (.int .i64 1))),zb 20 .add 16 19,zm 10 20]) (.seq (.reg [zm 21 1,zm 22 8,zq 23 (.bin .quo (.t 22) (.c (.int .i64 4))),zq 24 (.bin .mul (.t 23) (.c (.int .i64 2))),zb 25 .add 21 24,zm 11 25]) (.seq (.reg [zm 26 1,zm 27 8,zq 28 (.bin .quo (.t 27) (.c (.int .i64 4))),zq 29 (.bin .mul (.t 28) (.c (.int .i64 3))),zb 30 .add 26 29,zm 12 30]) (.seq (.seq (.reg [zm 31 8,zq 32 (.bin .geq (.t 31) (.c (.int .i64 8)))]) (.cond (.t 32) (.seq (.seq (.reg [zm 33 8,zq 34 (.bin .geq (.t 33) (.c (.int .i64 50)))]) (.cond (.t 34) (.seq (.reg [zm 35 0,zm 36 10,zq 37 (.call Ak [.t 35,.t 36,.t 9] []),zm 10 37]) (.seq (.reg [zm 38 0,zm 39 11,zq 40 (.call Ak [.t 38,.t 39,.t 9] []),zm 11 40]) (.reg [zm 41 0,zm 42 12,zq 43 (.call Ak [.t 41,.t 42,.t 9] []),zm 12 43]))) (.skip))) (.reg [zm 44 0,zm 45 10,zm 46 11,zm 47 12,zq 48 (.call AZ [.t 44,.t 45,.t 46,.t 47,.t 9] []),zm 11 48])) (.skip))) (.seq (.reg [zl 49 1 9]) (.blk 0 (.seq (.reg [zq 52 (.bin .eql (.t 49) (.c (.int .i64 0))),zm 51 52]) (.cond (.t 51) (.seq (.reg [zm 53 11,zm 6 53,zk 7 1]) (.ret)) (.seq (.reg [zq 55 (.bin .eql (.t 49) (.c (.int .i64 12))),zm 54 55]) (.cond (.t 54) (.seq (.reg [zm 56 11,zm 6 56,zk 7 2]) (.ret)) (.seq (.reg [zm 50 11,zm 6 50,zk 7 0]) (.ret))))))))))))))
def E1:List Nat:=[9]
def Am:IF:=⟨3,57,1,Bv,[(6,none),(7,none)],true,false,false⟩
def D7:C:=.loop (rest 32 [0,6,7]) [] (.seq (.seq (.reg [zm 11 6,zm 12 7,zb 13 .lss 11 12]) (.cond (.t 13) (.skip) (.exit 0))) (.blk 1 (.seq (.drw [zm 14 0,zm 15 6,zm 16 0,zm 17 7,zm 18 0,zm 19 7,zi 20 1 18 19,zl 21 1 20,zm 22 0,zm 23 6,zi 24 1 22 23,zl 25 1 24,zi 26 1 14 15,zs 1 26 21,zi 27 1 16 17,zs 1 27 25] []) (.seq (.reg [zm 28 6,za 29 28 1,zm 6 29]) (.reg [zm 30 7,zq 31 (.bin .sub (.t 30) (.c (.int .i64 1))),zm 7 31])))))
def Cl:C:=.seq (.reg [zm 8 1,zm 6 8]) (.seq (.reg [zm 9 2,zq 10 (.bin .sub (.t 9) (.c (.int .i64 1))),zm 7 10]) (.blk 0 (D7)))
def EO:List Nat:=[]
def Ay:IF:=⟨3,32,0,Cl,[],false,false,false⟩
def Br:C:=.loop (rest 133 [0,1,2,7,8]) [] (.seq (.seq (.drw [zm 17 7,zm 18 2,zb 19 .lss 17 18,zm 20 19,zmg 21 0 20 true,zmg 22 7 20 true,zg 23 (.iad 1 (.t 21) (.t 22)) 20 true,zlg 24 1 23 20 true,zmg 25 0 20 true,zmg 26 7 20 true,zg 27 (.bin .sub (.t 26) (.c (.int .i64 1))) 20 true,zg 28 (.iad 1 (.t 25) (.t 27)) 20 true,zlg 29 1 28 20 true,zg 30 (.call Af [.t 24,.t 29] []) 20 true,zg 31 (.un .not (.t 30)) 20 true,zu 32 20 31] []) (.cond (.t 32) (.skip) (.exit 2))) (.blk 3 (.reg [zm 33 7,za 34 33 1,zm 7 34])))
def Bp:C:=.loop (rest 133 [0,1,2,7,8,9]) [] (.seq (.seq (.reg [zm 64 9,zq 65 (.bin .geq (.t 64) (.c (.int .i64 1)))]) (.cond (.t 65) (.skip) (.exit 4))) (.seq (.blk 5 (.seq (.seq (.drw [zm 68 0,zm 69 9,zi 70 1 68 69,zl 71 1 70,zm 72 0,zm 73 9,zq 74 (.bin .sub (.t 73) (.c (.int .i64 1))),zi 75 1 72 74,zl 76 1 75,zq 77 (.call Af [.t 71,.t 76] []),zq 78 (.un .not (.t 77))] []) (.cond (.t 78) (.exit 4) (.skip))) (.drw [zm 79 0,zm 80 9,zm 81 0,zm 82 9,zq 83 (.bin .sub (.t 82) (.c (.int .i64 1))),zm 84 0,zm 85 9,zq 86 (.bin .sub (.t 85) (.c (.int .i64 1))),zi 87 1 84 86,zl 88 1 87,zm 89 0,zm 90 9,zi 91 1 89 90,zl 92 1 91,zi 93 1 79 80,zs 1 93 88,zi 94 1 81 83,zs 1 94 92] []))) (.reg [zm 66 9,zq 67 (.bin .sub (.t 66) (.c (.int .i64 1))),zm 9 67])))
def Bm:C:=.loop (rest 133 [0,1,2,7,8,10]) [] (.seq (.seq (.reg [zm 101 10,zm 102 2,zb 103 .lss 101 102]) (.cond (.t 103) (.skip) (.exit 6))) (.seq (.blk 7 (.seq (.seq (.drw [zm 106 0,zm 107 10,zi 108 1 106 107,zl 109 1 108,zm 110 0,zm 111 10,zq 112 (.bin .sub (.t 111) (.c (.int .i64 1))),zi 113 1 110 112,zl 114 1 113,zq 115 (.call Af [.t 109,.t 114] []),zq 116 (.un .not (.t 115))] []) (.cond (.t 116) (.exit 6) (.skip))) (.drw [zm 117 0,zm 118 10,zm 119 0,zm 120 10,zq 121 (.bin .sub (.t 120) (.c (.int .i64 1))),zm 122 0,zm 123 10,zq 124 (.bin .sub (.t 123) (.c (.int .i64 1))),zi 125 1 122 124,zl 126 1 125,zm 127 0,zm 128 10,zi 129 1 127 128,zl 130 1 129,zi 131 1 117 118,zs 1 131 126,zi 132 1 119 121,zs 1 132 130] []))) (.reg [zm 104 10,za 105 104 1,zm 10 105])))
def CZ:C:=.loop (rest 133 [0,1,2,7,8]) [] (.seq (.seq (.reg [zm 13 8,zq 14 (.bin .lss (.t 13) (.c (.int .i64 5)))]) (.cond (.t 14) (.skip) (.exit 0))) (.seq (.blk 1 (.seq (.blk 2 (Br)) (.seq (.seq (.reg [zm 35 7,zm 36 2,zb 37 .eql 35 36]) (.cond (.t 37) (.seq (.reg [zo 6 true]) (.ret)) (.skip))) (.seq (.seq (.reg [zm 38 2,zm 39 1,zb 40 .sub 38 39,zq 41 (.bin .lss (.t 40) (.c (.int .i64 50)))]) (.cond (.t 41) (.seq (.reg [zo 6 false]) (.ret)) (.skip))) (.seq (.drw [zm 42 0,zm 43 7,zm 44 0,zm 45 7,zq 46 (.bin .sub (.t 45) (.c (.int .i64 1))),zm 47 0,zm 48 7,zq 49 (.bin .sub (.t 48) (.c (.int .i64 1))),zi 50 1 47 49,zl 51 1 50,zm 52 0,zm 53 7,zi 54 1 52 53,zl 55 1 54,zi 56 1 42 43,zs 1 56 51,zi 57 1 44 46,zs 1 57 55] []) (.seq (.seq (.reg [zm 58 7,zm 59 1,zb 60 .sub 58 59,zq 61 (.bin .geq (.t 60) (.c (.int .i64 2)))]) (.cond (.t 61) (.seq (.reg [zm 62 7,zq 63 (.bin .sub (.t 62) (.c (.int .i64 1))),zm 9 63]) (.blk 4 (Bp))) (.skip))) (.seq (.reg [zm 95 2,zm 96 7,zb 97 .sub 95 96,zq 98 (.bin .geq (.t 97) (.c (.int .i64 2)))]) (.cond (.t 98) (.seq (.reg [zm 99 7,za 100 99 1,zm 10 100]) (.blk 6 (Bm))) (.skip))))))))) (.reg [zm 15 8,za 16 15 1,zm 8 16])))
def Bx:C:=.seq (.reg [zo 6 false]) (.seq (.reg [zm 11 1,za 12 11 1,zm 7 12]) (.seq (.seq (.reg [zk 8 0]) (.blk 0 (CZ))) (.seq (.reg [zo 6 false]) (.ret))))
def Db:List Nat:=[]
def Ai:IF:=⟨3,133,0,Bx,[(6,none)],false,false,false⟩
def BO:C:=.loop (rest 84 [0,1,9,10]) [] (.seq (.seq (.drw [zm 29 9,zm 30 10,zb 31 .leq 29 30,zm 32 31,zmg 33 0 32 true,zmg 34 1 32 true,zg 35 (.iad 1 (.t 33) (.t 34)) 32 true,zlg 36 1 35 32 true,zmg 37 0 32 true,zmg 38 9 32 true,zg 39 (.iad 1 (.t 37) (.t 38)) 32 true,zlg 40 1 39 32 true,zg 41 (.call Af [.t 36,.t 40] []) 32 true,zg 42 (.un .not (.t 41)) 32 true,zu 43 32 42] []) (.cond (.t 43) (.skip) (.exit 2))) (.blk 3 (.reg [zm 44 9,za 45 44 1,zm 9 45])))
def BN:C:=.loop (rest 84 [0,1,9,10]) [] (.seq (.seq (.drw [zm 46 9,zm 47 10,zb 48 .leq 46 47,zm 49 48,zmg 50 0 49 true,zmg 51 1 49 true,zg 52 (.iad 1 (.t 50) (.t 51)) 49 true,zlg 53 1 52 49 true,zmg 54 0 49 true,zmg 55 10 49 true,zg 56 (.iad 1 (.t 54) (.t 55)) 49 true,zlg 57 1 56 49 true,zg 58 (.call Af [.t 53,.t 57] []) 49 true,zu 59 49 58] []) (.cond (.t 59) (.skip) (.exit 4))) (.blk 5 (.reg [zm 60 10,zq 61 (.bin .sub (.t 60) (.c (.int .i64 1))),zm 10 61])))
def BM:C:=.loop (rest 84 [0,1,9,10]) [] (.blk 1 (.seq (.blk 2 (BO)) (.seq (.blk 4 (BN)) (.seq (.seq (.reg [zm 62 9,zm 63 10,zb 64 .gtr 62 63]) (.cond (.t 64) (.exit 0) (.skip))) (.seq (.drw [zm 65 0,zm 66 9,zm 67 0,zm 68 10,zm 69 0,zm 70 10,zi 71 1 69 70,zl 72 1 71,zm 73 0,zm 74 9,zi 75 1 73 74,zl 76 1 75,zi 77 1 65 66,zs 1 77 72,zi 78 1 67 68,zs 1 78 76] []) (.seq (.reg [zm 79 9,za 80 79 1,zm 9 80]) (.reg [zm 81 10,zq 82 (.bin .sub (.t 81) (.c (.int .i64 1))),zm 10 82])))))))
def B6:C:=.seq (.reg [zk 8 0]) (.seq (.drw [zm 11 0,zm 12 1,zm 13 0,zm 14 3,zm 15 0,zm 16 3,zi 17 1 15 16,zl 18 1 17,zm 19 0,zm 20 1,zi 21 1 19 20,zl 22 1 21,zi 23 1 11 12,zs 1 23 18,zi 24 1 13 14,zs 1 24 22] []) (.seq (.reg [zm 25 1,za 26 25 1,zm 27 2,zq 28 (.bin .sub (.t 27) (.c (.int .i64 1))),zm 9 26,zm 10 28]) (.seq (.blk 0 (BM)) (.seq (.reg [zm 83 9,zm 8 83]) (.ret)))))
def Ee:List Nat:=[]
def Aq:IF:=⟨4,84,0,B6,[(8,none)],false,false,false⟩
def Cr:C:=.loop (rest 168 [0,1,10,11]) [] (.seq (.seq (.drw [zm 30 10,zm 31 11,zb 32 .leq 30 31,zm 33 32,zmg 34 0 33 true,zmg 35 10 33 true,zg 36 (.iad 1 (.t 34) (.t 35)) 33 true,zlg 37 1 36 33 true,zmg 38 0 33 true,zmg 39 1 33 true,zg 40 (.iad 1 (.t 38) (.t 39)) 33 true,zlg 41 1 40 33 true,zg 42 (.call Af [.t 37,.t 41] []) 33 true,zu 43 33 42] []) (.cond (.t 43) (.skip) (.exit 0))) (.blk 1 (.reg [zm 44 10,za 45 44 1,zm 10 45])))
def Cu:C:=.loop (rest 168 [0,1,10,11]) [] (.seq (.seq (.drw [zm 46 10,zm 47 11,zb 48 .leq 46 47,zm 49 48,zmg 50 0 49 true,zmg 51 11 49 true,zg 52 (.iad 1 (.t 50) (.t 51)) 49 true,zlg 53 1 52 49 true,zmg 54 0 49 true,zmg 55 1 49 true,zg 56 (.iad 1 (.t 54) (.t 55)) 49 true,zlg 57 1 56 49 true,zg 58 (.call Af [.t 53,.t 57] []) 49 true,zg 59 (.un .not (.t 58)) 49 true,zu 60 49 59] []) (.cond (.t 60) (.skip) (.exit 2))) (.blk 3 (.reg [zm 61 11,zq 62 (.bin .sub (.t 61) (.c (.int .i64 1))),zm 11 62])))
def Cs:C:=.loop (rest 168 [0,1,10,11]) [] (.seq (.seq (.drw [zm 99 10,zm 100 11,zb 101 .leq 99 100,zm 102 101,zmg 103 0 102 true,zmg 104 10 102 true,zg 105 (.iad 1 (.t 103) (.t 104)) 102 true,zlg 106 1 105 102 true,zmg 107 0 102 true,zmg 108 1 102 true,zg 109 (.iad 1 (.t 107) (.t 108)) 102 true,zlg 110 1 109 102 true,zg 111 (.call Af [.t 106,.t 110] []) 102 true,zu 112 102 111] []) (.cond (.t 112) (.skip) (.exit 6))) (.blk 7 (.reg [zm 113 10,za 114 113 1,zm 10 114])))
def Cv:C:=.loop (rest 168 [0,1,10,11]) [] (.seq (.seq (.drw [zm 115 10,zm 116 11,zb 117 .leq 115 116,zm 118 117,zmg 119 0 118 true,zmg 120 11 118 true,zg 121 (.iad 1 (.t 119) (.t 120)) 118 true,zlg 122 1 121 118 true,zmg 123 0 118 true,zmg 124 1 118 true,zg 125 (.iad 1 (.t 123) (.t 124)) 118 true,zlg 126 1 125 118 true,zg 127 (.call Af [.t 122,.t 126] []) 118 true,zg 128 (.un .not (.t 127)) 118 true,zu 129 118 128] []) (.cond (.t 129) (.skip) (.exit 8))) (.blk 9 (.reg [zm 130 11,zq 131 (.bin .sub (.t 130) (.c (.int .i64 1))),zm 11 131])))
def Ct:C:=.loop (rest 168 [0,1,10,11]) [] (.blk 5 (.seq (.blk 6 (Cs)) (.seq (.blk 8 (Cv)) (.seq (.seq (.reg [zm 132 10,zm 133 11,zb 134 .gtr 132 133]) (.cond (.t 134) (.exit 4) (.skip))) (.seq (.drw [zm 135 0,zm 136 10,zm 137 0,zm 138 11,zm 139 0,zm 140 11,zi 141 1 139 140,zl 142 1 141,zm 143 0,zm 144 10,zi 145 1 143 144,zl 146 1 145,zi 147 1 135 136,zs 1 147 142,zi 148 1 137 138,zs 1 148 146] []) (.seq (.reg [zm 149 10,za 150 149 1,zm 10 150]) (.reg [zm 151 11,zq 152 (.bin .sub (.t 151) (.c (.int .i64 1))),zm 11 152])))))))
def CV:C:=.seq (.reg [zk 8 0,zo 9 false]) (.seq (.drw [zm 12 0,zm 13 1,zm 14 0,zm 15 3,zm 16 0,zm 17 3,zi 18 1 16 17,zl 19 1 18,zm 20 0,zm 21 1,zi 22 1 20 21,zl 23 1 22,zi 24 1 12 13,zs 1 24 19,zi 25 1 14 15,zs 1 25 23] []) (.seq (.reg [zm 26 1,za 27 26 1,zm 28 2,zq 29 (.bin .sub (.t 28) (.c (.int .i64 1))),zm 10 27,zm 11 29]) (.seq (.blk 0 (Cr)) (.seq (.blk 2 (Cu)) (.seq (.seq (.reg [zm 63 10,zm 64 11,zb 65 .gtr 63 64]) (.cond (.t 65) (.seq (.drw [zm 66 0,zm 67 11,zm 68 0,zm 69 1,zm 70 0,zm 71 1,zi 72 1 70 71,zl 73 1 72,zm 74 0,zm 75 11,zi 76 1 74 75,zl 77 1 76,zi 78 1 66 67,zs 1 78 73,zi 79 1 68 69,zs 1 79 77] []) (.seq (.reg [zm 80 11,zm 8 80,zo 9 true]) (.ret))) (.skip))) (.seq (.drw [zm 81 0,zm 82 10,zm 83 0,zm 84 11,zm 85 0,zm 86 11,zi 87 1 85 86,zl 88 1 87,zm 89 0,zm 90 10,zi 91 1 89 90,zl 92 1 91,zi 93 1 81 82,zs 1 93 88,zi 94 1 83 84,zs 1 94 92] []) (.seq (.reg [zm 95 10,za 96 95 1,zm 10 96]) (.seq (.reg [zm 97 11,zq 98 (.bin .sub (.t 97) (.c (.int .i64 1))),zm 11 98]) (.seq (.blk 4 (Ct)) (.seq (.drw [zm 153 0,zm 154 11,zm 155 0,zm 156 1,zm 157 0,zm 158 1,zi 159 1 157 158,zl 160 1 159,zm 161 0,zm 162 11,zi 163 1 161 162,zl 164 1 163,zi 165 1 153 154,zs 1 165 160,zi 166 1 155 156,zs 1 166 164] []) (.seq (.reg [zm 167 11,zm 8 167,zo 9 false]) (.ret))))))))))))
def FY:List Nat:=[]
def AE:IF:=⟨4,168,0,CV,[(8,none),(9,none)],false,false,false⟩
def Tb:C:=.loop (rest 20 [3,8,9,10]) [] (.seq (.reg [zb 11 .lss 10 9]) (.seq (.cond (.t 11) (.skip) (.exit 0)) (.seq (.blk 1 (.seq (.reg [zi 12 1 8 10,zl 13 1 12,zm 6 13]) (.seq (.reg [zf 14 0 3,zl 15 1 14,zm 16 6,zq 17 (.call Kj [.t 15,.t 16] []),zq 18 (.un .not (.t 17))]) (.cond (.t 18) (.seq (.reg [zo 4 true]) (.ret)) (.skip))))) (.reg [za 19 10 1,zm 10 19]))))
def PN:C:=.seq (.reg [zq 2 (.box 0 2 (.t 0)),zq 3 (.box 1 2 (.t 1)),zo 4 false]) (.seq (.seq (.reg [zf 7 0 2,zl 8 1 7,zn 9 8,zk 10 0]) (.blk 0 (Tb))) (.seq (.reg [zo 4 false]) (.ret)))
def Wz:List Nat:=[2,3]
def Fh:IF:=⟨2,20,2,PN,[(4,none)],true,false,false⟩
def Nn:C:=.loop (rest 59 [0,1,3,4,5,15,16,17]) [0,1] (.seq (.reg [zb 18 .lss 17 16]) (.seq (.cond (.t 18) (.skip) (.exit 0)) (.seq (.blk 1 (.seq (.reg [zm 19 17,zi 20 1 15 17,zl 21 1 20,zm 8 19,zm 9 21]) (.seq (.reg [zm 22 9,zm 23 1,zb 24 .shr 22 23,zq 25 (.bin .and (.t 24) (.c (.int .i64 1))),zq 26 (.bin .eql (.t 25) (.c (.int .i64 1))),zm 27 26,zlg 28 1 3 27 true,zmg 29 0 27 true,zg 30 (.iad 1 (.t 28) (.t 29)) 27 true,zlg 31 1 30 27 true,zmg 32 8 27 true,zg 33 (.iad 1 (.t 31) (.t 32)) 27 true,zlg 34 1 33 27 true,zg 35 (.un .not (.t 34)) 27 true,zu 36 27 35]) (.cond (.t 36) (.seq (.reg [zl 37 1 3,zm 38 0,zi 39 1 37 38,zl 40 1 39,zm 41 8,zi 42 1 40 41,zr (.sto 1 (.t 42) (.c (.bool true)))]) (.seq (.reg [zl 43 1 4,zm 44 0,zi 45 1 43 44,zl 46 1 45,zq 47 (.bin .sub (.t 46) (.c (.int .i64 1))),zi 48 1 43 44,zs 1 48 47]) (.seq (.reg [zl 49 1 4,zm 50 0,zi 51 1 49 50,zl 52 1 51,zq 53 (.bin .eql (.t 52) (.c (.int .i64 0)))]) (.cond (.t 53) (.reg [zl 54 1 5,zm 55 0,zq 56 (.bsl 0 1 1 [.t 55]),zq 57 (.app 1 1 8 (.t 54) (.t 56)),zs 1 5 57]) (.skip))))) (.skip))))) (.reg [za 58 17 1,zm 17 58]))))
def K8:C:=.seq (.reg [zf 10 1 2,zl 11 1 10,zm 12 0,zi 13 2 11 12,zf 14 0 13,zl 15 1 14,zn 16 15,zk 17 0]) (.blk 0 (Nn))
def Pw:List Nat:=[56,57]
def Dl:IF:=⟨6,59,2,K8,[],false,false,false⟩
def E0:C:=.seq (.reg [zq 2 (.mov (.c (.int .u64 0)))]) (.seq (.reg [zm 3 0,zq 4 (.cvi .u64 (.t 3)),zq 5 (.call Bq [.t 4] []),zq 6 (.bin .shl (.c (.int .u64 1)) (.t 5)),zm 2 6]) (.ret))
def Ke:List Nat:=[]
def A4:IF:=⟨1,7,0,E0,[(2,none)],true,false,false⟩
def DW:C:=.seq (.reg [zq 2 (.mov (.c (.int .u64 0)))]) (.seq (.drw [zm 3 0,zf 4 0 3,zl 5 1 4,zm 6 0,zf 7 0 6,zl 8 1 7,zq 9 (.bin .shl (.t 8) (.c (.int .u64 13))),zb 10 .xor 5 9,zf 11 0 3,zs 1 11 10] []) (.seq (.drw [zm 12 0,zf 13 0 12,zl 14 1 13,zm 15 0,zf 16 0 15,zl 17 1 16,zq 18 (.bin .shr (.t 17) (.c (.int .u64 7))),zb 19 .xor 14 18,zf 20 0 12,zs 1 20 19] []) (.seq (.drw [zm 21 0,zf 22 0 21,zl 23 1 22,zm 24 0,zf 25 0 24,zl 26 1 25,zq 27 (.bin .shl (.t 26) (.c (.int .u64 17))),zb 28 .xor 23 27,zf 29 0 21,zs 1 29 28] []) (.seq (.reg [zm 30 0,zf 31 0 30,zl 32 1 31,zm 2 32]) (.ret)))))
def JI:List Nat:=[]
def Bb:IF:=⟨1,33,0,DW,[(2,none)],false,false,false⟩
def FG:C:=.loop (rest 76 [0,2,3,8]) [] (.blk 1 (.seq (.reg [zm 11 8,zq 12 (.bin .mul (.c (.int .i64 2)) (.t 11)),za 13 12 1,zm 9 13]) (.seq (.seq (.reg [zm 14 9,zm 15 2,zb 16 .geq 14 15]) (.cond (.t 16) (.exit 0) (.skip))) (.seq (.seq (.drw [zm 17 9,za 18 17 1,zm 19 2,zb 20 .lss 18 19,zm 21 20,zmg 22 0 21 true,zmg 23 3 21 true,zmg 24 9 21 true,zg 25 (.bin .add (.t 23) (.t 24)) 21 true,zg 26 (.iad 1 (.t 22) (.t 25)) 21 true,zlg 27 1 26 21 true,zmg 28 0 21 true,zmg 29 3 21 true,zmg 30 9 21 true,zg 31 (.bin .add (.t 29) (.t 30)) 21 true,zg 32 (.bin .add (.t 31) (.c (.int .i64 1))) 21 true,zg 33 (.iad 1 (.t 28) (.t 32)) 21 true,zlg 34 1 33 21 true,zg 35 (.call Af [.t 27,.t 34] []) 21 true,zu 36 21 35] []) (.cond (.t 36) (.reg [zm 37 9,za 38 37 1,zm 9 38]) (.skip))) (.seq (.seq (.drw [zm 39 0,zm 40 3,zm 41 8,zb 42 .add 40 41,zi 43 1 39 42,zl 44 1 43,zm 45 0,zm 46 3,zm 47 9,zb 48 .add 46 47,zi 49 1 45 48,zl 50 1 49,zq 51 (.call Af [.t 44,.t 50] []),zq 52 (.un .not (.t 51))] []) (.cond (.t 52) (.ret) (.skip))) (.seq (.drw [zm 53 0,zm 54 3,zm 55 8,zb 56 .add 54 55,zm 57 0,zm 58 3,zm 59 9,zb 60 .add 58 59,zm 61 0,zm 62 3,zm 63 9,zb 64 .add 62 63,zi 65 1 61 64,zl 66 1 65,zm 67 0,zm 68 3,zm 69 8,zb 70 .add 68 69,zi 71 1 67 70,zl 72 1 71,zi 73 1 53 56,zs 1 73 66,zi 74 1 57 60,zs 1 74 72] []) (.reg [zm 75 9,zm 8 75])))))))
def C5:C:=.seq (.reg [zm 10 1,zm 8 10]) (.blk 0 (FG))
def Hb:List Nat:=[]
def AM:IF:=⟨4,76,0,C5,[],false,false,false⟩
def B2:C:=.seq (.reg [zk 6 0]) (.seq (.reg [zm 7 0,zm 8 1,zq 9 (.bin .sub (.t 8) (.c (.int .i64 1))),zm 10 1,zm 11 1,za 12 11 1,zm 13 2,zq 14 (.call AZ [.t 7,.t 9,.t 10,.t 12,.t 13] []),zm 6 14]) (.ret))
def D4:List Nat:=[]
def Ar:IF:=⟨3,15,0,B2,[(6,none)],false,false,false⟩
def Dx:C:=.seq (.reg [zk 10 0]) (.seq (.reg [zm 12 0,zm 13 1,zm 14 2,zm 15 4,zq 16 (.call AC [.t 12,.t 13,.t 14,.t 15] []),zm 11 16,zq 17 (.ext (.t 11) 0),zq 18 (.ext (.t 11) 1),zm 1 17,zm 2 18]) (.seq (.reg [zm 20 0,zm 21 2,zm 22 3,zm 23 4,zq 24 (.call AC [.t 20,.t 21,.t 22,.t 23] []),zm 19 24,zq 25 (.ext (.t 19) 0),zq 26 (.ext (.t 19) 1),zm 2 25,zm 3 26]) (.seq (.reg [zm 28 0,zm 29 1,zm 30 2,zm 31 4,zq 32 (.call AC [.t 28,.t 29,.t 30,.t 31] []),zm 27 32,zq 33 (.ext (.t 27) 0),zq 34 (.ext (.t 27) 1),zm 1 33,zm 2 34]) (.seq (.reg [zm 35 2,zm 10 35]) (.ret)))))
def H1:List Nat:=[]
def A3:IF:=⟨5,36,0,Dx,[(10,none)],false,false,false⟩
def Dh:C:=.seq (.reg [zk 8 0,zk 9 0]) (.seq (.seq (.drw [zm 10 0,zm 11 2,zi 12 1 10 11,zl 13 1 12,zm 14 0,zm 15 1,zi 16 1 14 15,zl 17 1 16,zq 18 (.call Af [.t 13,.t 17] [])] []) (.cond (.t 18) (.seq (.reg [zm 19 3,zf 20 0 19,zl 21 1 20,za 22 21 1,zf 23 0 19,zs 1 23 22]) (.seq (.reg [zm 24 2,zm 25 1,zm 8 24,zm 9 25]) (.ret))) (.skip))) (.seq (.reg [zm 26 1,zm 27 2,zm 8 26,zm 9 27]) (.ret)))
def HV:List Nat:=[]
def A1:IF:=⟨4,28,0,Dh,[(8,none),(9,none)],false,false,false⟩
def G:Prg:=fun f=>match f with|4=>some BY|9=>some Fd|10=>some Fo|12=>some HI|13=>some HM|14=>some FH|15=>some Hv|16=>some Fb|17=>some HH|18=>some DM|19=>some JX|20=>some JY|21=>some HD|22=>some El|23=>some HG|25=>some Lm|29=>some JU|30=>some HN|32=>some C8|37=>some BX|41=>some Fg|42=>some En|43=>some HJ|44=>some Et|45=>some Lk|46=>some HA|47=>some HW|48=>some HE|49=>some Lb|50=>some DJ|51=>some FL|52=>some HC|53=>some DG|54=>some HF|55=>some Ly|56=>some JV|57=>some Dz|58=>some DF|59=>some Eh|60=>some C7|62=>some FJ|64=>some Ej|73=>some BB|75=>some Ll|77=>some AP|78=>some CJ|86=>some Ew|87=>some E6|88=>some Eu|89=>some Ff|90=>some Fz|91=>some BE|92=>some Es|93=>some FI|94=>some Eq|95=>some CE|96=>some CL|97=>some Cz|98=>some Dy|99=>some CM|100=>some HK|101=>some E8|102=>some AB|103=>some CQ|104=>some Fl|105=>some CF|106=>some Be|107=>some AS|108=>some Ek|109=>some JW|110=>some HL|117=>some JS|118=>some Ep|127=>some Cj|128=>some BI|129=>some DQ|130=>some DK|131=>some Fa|132=>some J0|133=>some AG|134=>some EB|135=>some AQ|136=>some HO|137=>some A9|138=>some CC|139=>some DT|140=>some CA|148=>some CN|150=>some AU|151=>some Fi|152=>some CO|153=>some By|154=>some Eo|155=>some BA|156=>some BW|157=>some BZ|158=>some DP|171=>some B0|172=>some BV|173=>some Cf|174=>some Ax|175=>some AL|176=>some Av|177=>some Am|178=>some Ay|179=>some Ai|180=>some Aq|181=>some AE|182=>some Fh|183=>some Dl|188=>some A4|189=>some Bb|192=>some AM|193=>some Ar|194=>some A3|204=>some A1|_=>none
theorem Nk:G f_w07_MeetSeveral=some BY:=rfl
theorem LI:PureF G f_w07_MeetSeveral:=⟨BY,rfl,rfl⟩
theorem WA:G Fj=some Fd:=rfl
theorem QP:PureF G Fj:=⟨Fd,rfl,rfl⟩
theorem Xp:G CW=some Fo:=rfl
theorem QS:PureF G CW:=⟨Fo,rfl,rfl⟩
theorem ZU:G f_r07_Meet=some HI:=rfl
theorem R5:PureF G f_r07_Meet:=⟨HI,rfl,rfl⟩
theorem Aar:G f_r07_Join=some HM:=rfl
theorem Sl:PureF G f_r07_Join:=⟨HM,rfl,rfl⟩
theorem Wk:G Fm=some FH:=rfl
theorem QO:PureF G Fm:=⟨FH,rfl,rfl⟩
theorem YU:G Hx=some Hv:=rfl
theorem SX:PureF G Hx:=⟨Hv,rfl,rfl⟩
theorem Wc:G FK=some Fb:=rfl
theorem Qz:PureF G FK:=⟨Fb,rfl,rfl⟩
theorem Nt:G BU=some HH:=rfl
theorem Sr:PureF G BU:=⟨HH,rfl,rfl⟩
theorem Tl:G DO=some DM:=rfl
theorem Ol:PureF G DO:=⟨DM,rfl,rfl⟩
theorem Acf:G FW=some JX:=rfl
theorem Uh:PureF G FW:=⟨JX,rfl,rfl⟩
theorem Ab0:G FS=some JY:=rfl
theorem Vr:PureF G FS:=⟨JY,rfl,rfl⟩
theorem Rm:G EA=some HD:=rfl
theorem EU:PureF G EA:=⟨HD,rfl,rfl⟩
theorem T1:G Du=some El:=rfl
theorem Dw:PureF G Du:=⟨El,rfl,rfl⟩
theorem Ra:G Ei=some HG:=rfl
theorem EW:PureF G Ei:=⟨HG,rfl,rfl⟩
theorem Aeg:G Kf=some Lm:=rfl
theorem Wi:PureF G Kf:=⟨Lm,rfl,rfl⟩
theorem Abp:G JZ=some JU:=rfl
theorem U8:PureF G JZ:=⟨JU,rfl,rfl⟩
theorem ZQ:G Hw=some HN:=rfl
theorem Tn:PureF G Hw:=⟨HN,rfl,rfl⟩
theorem Qr:G Cp=some C8:=rfl
theorem Nc:PureF G Cp:=⟨C8,rfl,rfl⟩
theorem JQ:G AD=some BX:=rfl
theorem LG:PureF G AD:=⟨BX,rfl,rfl⟩
theorem Wh:G Dr=some Fg:=rfl
theorem JF:PureF G Dr:=⟨Fg,rfl,rfl⟩
theorem TC:G CU=some En:=rfl
theorem Jf:PureF G CU:=⟨En,rfl,rfl⟩
theorem Ns:G BK=some HJ:=rfl
theorem J7:PureF G BK:=⟨HJ,rfl,rfl⟩
theorem Vc:G Bu=some Et:=rfl
theorem O2:PureF G Bu:=⟨Et,rfl,rfl⟩
theorem AdT:G Kj=some Lk:=rfl
theorem VN:PureF G Kj:=⟨Lk,rfl,rfl⟩
theorem YS:G Ce=some HA:=rfl
theorem C1:PureF G Ce:=⟨HA,rfl,rfl⟩
theorem VT:G Jd=some HW:=rfl
theorem RL:G Bt=some HE:=rfl
theorem Sg:PureF G Bt:=⟨HE,rfl,rfl⟩
theorem AbV:G MP=some Lb:=rfl
theorem Afl:G EY=some DJ:=rfl
theorem Oq:PureF G EY:=⟨DJ,rfl,rfl⟩
theorem AgQ:G HY=some FL:=rfl
theorem QI:PureF G HY:=⟨FL,rfl,rfl⟩
theorem RO:G f_meet_Met=some HC:=rfl
theorem SW:PureF G f_meet_Met:=⟨HC,rfl,rfl⟩
theorem Hk:G f_meet_Joined=some DG:=rfl
theorem Oh:PureF G f_meet_Joined:=⟨DG,rfl,rfl⟩
theorem Aac:G Fu=some HF:=rfl
theorem Sk:PureF G Fu:=⟨HF,rfl,rfl⟩
theorem X9:G Hn=some Ly:=rfl
theorem Xb:PureF G Hn:=⟨Ly,rfl,rfl⟩
theorem Ac6:G JP=some JV:=rfl
theorem T5:PureF G JP:=⟨JV,rfl,rfl⟩
theorem Sb:G Ci=some Dz:=rfl
theorem N8:PureF G Ci:=⟨Dz,rfl,rfl⟩
theorem Sn:G BR=some DF:=rfl
theorem Of:PureF G BR:=⟨DF,rfl,rfl⟩
theorem Vo:G Er=some Eh:=rfl
theorem Pd:PureF G Er:=⟨Eh,rfl,rfl⟩
theorem Qw:G BT=some C7:=rfl
theorem Nl:PureF G BT:=⟨C7,rfl,rfl⟩
theorem VF:G FD=some FJ:=rfl
theorem QH:PureF G FD:=⟨FJ,rfl,rfl⟩
theorem UC:G CS=some Ej:=rfl
theorem P1:PureF G CS:=⟨Ej,rfl,rfl⟩
theorem Jc:G Bg=some BB:=rfl
theorem Ky:PureF G Bg:=⟨BB,rfl,rfl⟩
theorem Adt:G Ho=some Ll:=rfl
theorem WR:PureF G Ho:=⟨Ll,rfl,rfl⟩
theorem Jz:G Ag=some AP:=rfl
theorem Hq:PureF G Ag:=⟨AP,rfl,rfl⟩
theorem KG:G A0=some CJ:=rfl
theorem Mi:PureF G A0:=⟨CJ,rfl,rfl⟩
theorem Ur:G Ez=some Ew:=rfl
theorem PA:PureF G Ez:=⟨Ew,rfl,rfl⟩
theorem W9:G D3=some E6:=rfl
theorem QA:PureF G D3:=⟨E6,rfl,rfl⟩
theorem UI:G Dn=some Eu:=rfl
theorem OO:PureF G Dn:=⟨Eu,rfl,rfl⟩
theorem VO:G FE=some Ff:=rfl
theorem QY:PureF G FE:=⟨Ff,rfl,rfl⟩
theorem WZ:G Eb=some Fz:=rfl
theorem QD:PureF G Eb:=⟨Fz,rfl,rfl⟩
theorem LZ:G Bf=some BE:=rfl
theorem Kv:PureF G Bf:=⟨BE,rfl,rfl⟩
theorem TB:G f_meet_Met_1=some Es:=rfl
theorem KZ:PureF G f_meet_Met_1:=⟨Es,rfl,rfl⟩
theorem Xs:G Fp=some FI:=rfl
theorem QG:PureF G Fp:=⟨FI,rfl,rfl⟩
theorem UW:G f_meet_Met_2=some Eq:=rfl
theorem KM:PureF G f_meet_Met_2:=⟨Eq,rfl,rfl⟩
theorem PW:G f_meet_Joined_1=some CE:=rfl
theorem MR:PureF G f_meet_Joined_1:=⟨CE,rfl,rfl⟩
theorem PE:G AY=some CL:=rfl
theorem Mo:PureF G AY:=⟨CL,rfl,rfl⟩
theorem PZ:G f_meet_Joined_3=some Cz:=rfl
theorem Jq:PureF G f_meet_Joined_3:=⟨Cz,rfl,rfl⟩
theorem Su:G DA=some Dy:=rfl
theorem Oo:PureF G DA:=⟨Dy,rfl,rfl⟩
theorem PX:G f_meet_Joined_4=some CM:=rfl
theorem Jp:PureF G f_meet_Joined_4:=⟨CM,rfl,rfl⟩
theorem YD:G HP=some HK:=rfl
theorem SY:PureF G HP:=⟨HK,rfl,rfl⟩
theorem WF:G E7=some E8:=rfl
theorem Qx:PureF G E7:=⟨E8,rfl,rfl⟩
theorem Hh:G Aj=some AB:=rfl
theorem E9:PureF G Aj:=⟨AB,rfl,rfl⟩
theorem KJ:G B5=some CQ:=rfl
theorem Mx:PureF G B5:=⟨CQ,rfl,rfl⟩
theorem Pm:G C3=some Fl:=rfl
theorem QR:PureF G C3:=⟨Fl,rfl,rfl⟩
theorem K0:G B3=some CF:=rfl
theorem Mk:PureF G B3:=⟨CF,rfl,rfl⟩
theorem Je:G AA=some Be:=rfl
theorem KC:PureF G AA:=⟨Be,rfl,rfl⟩
theorem LA:G AR=some AS:=rfl
theorem EM:PureF G AR:=⟨AS,rfl,rfl⟩
theorem UO:G Ef=some Ek:=rfl
theorem Px:PureF G Ef:=⟨Ek,rfl,rfl⟩
theorem Aa8:G JO=some JW:=rfl
theorem Uu:PureF G JO:=⟨JW,rfl,rfl⟩
theorem ZL:G Hy=some HL:=rfl
theorem SG:PureF G Hy:=⟨HL,rfl,rfl⟩
theorem YI:G E5=some JS:=rfl
theorem TI:G EC=some Ep:=rfl
theorem PT:PureF G EC:=⟨Ep,rfl,rfl⟩
theorem Jv:G Cm=some Cj:=rfl
theorem FO:G BF=some BI:=rfl
theorem S6:G C0=some DQ:=rfl
theorem Ow:PureF G C0:=⟨DQ,rfl,rfl⟩
theorem Sx:G DI=some DK:=rfl
theorem Og:PureF G DI:=⟨DK,rfl,rfl⟩
theorem W8:G Ea=some Fa:=rfl
theorem QC:PureF G Ea:=⟨Fa,rfl,rfl⟩
theorem AaK:G FV=some J0:=rfl
theorem Ue:PureF G FV:=⟨J0,rfl,rfl⟩
theorem Ji:G AF=some AG:=rfl
theorem F5:PureF G AF:=⟨AG,rfl,rfl⟩
theorem UJ:G Dq=some EB:=rfl
theorem Pj:PureF G Dq:=⟨EB,rfl,rfl⟩
theorem JN:G Az=some AQ:=rfl
theorem pure_slices_IndexFuncZaiScai:PureF G Az:=⟨AQ,rfl,rfl⟩
theorem Y5:G Hu=some HO:=rfl
theorem pure_act_Name:PureF G Hu:=⟨HO,rfl,rfl⟩
theorem KA:G A8=some A9:=rfl
theorem pure_slices_ContainsZsgsg:PureF G A8:=⟨A9,rfl,rfl⟩
theorem AcJ:G EL=some CC:=rfl
theorem pure_math_bits_Mul:PureF G EL:=⟨CC,rfl,rfl⟩
theorem LN:G BS=some DT:=rfl
theorem OP:G CP=some CA:=rfl
theorem pure_prune_Hollows:PureF G CP:=⟨CA,rfl,rfl⟩
theorem PM:G Bq=some CN:=rfl
theorem pure_math_bits_Len:PureF G Bq:=⟨CN,rfl,rfl⟩
theorem Dd:G Ap=some AU:=rfl
theorem W4:G D1=some Fi:=rfl
theorem pure_r05_Depth:PureF G D1:=⟨Fi,rfl,rfl⟩
theorem Qm:G Af=some CO:=rfl
theorem pure_cmp_Less_int_:PureF G Af:=⟨CO,rfl,rfl⟩
theorem L8:G Bh=some By:=rfl
theorem pure_slices_isNaN_int_:PureF G Bh:=⟨By,rfl,rfl⟩
theorem US:G Di=some Eo:=rfl
theorem pure_act_letter:PureF G Di:=⟨Eo,rfl,rfl⟩
theorem L2:G BD=some BA:=rfl
theorem pure_slices_IndexZsgsg:PureF G BD:=⟨BA,rfl,rfl⟩
theorem Aas:G DD=some BW:=rfl
theorem pure_math_bits_Mul32:PureF G DD:=⟨BW,rfl,rfl⟩
theorem YC:G DC=some BZ:=rfl
theorem pure_math_bits_Mul64:PureF G DC:=⟨BZ,rfl,rfl⟩
theorem Se:G CY=some DP:=rfl
theorem pure_prune_rungs:PureF G CY:=⟨DP,rfl,rfl⟩
theorem YG:G DE=some B0:=rfl
theorem pure_math_bits_Len32:PureF G DE:=⟨B0,rfl,rfl⟩
theorem Fq:G B1=some BV:=rfl
theorem pure_math_bits_Len64:PureF G B1:=⟨BV,rfl,rfl⟩
theorem On:G BL=some Cf:=rfl
theorem pure_cmp_isNaN_int_:PureF G BL:=⟨Cf,rfl,rfl⟩
theorem Cb:G Aw=some Ax:=rfl
theorem F9:G Bd=some AL:=rfl
theorem ED:G AN=some Av:=rfl
theorem E2:G An=some Am:=rfl
theorem pure_slices_choosePivotOrdered_int_:PureF G An:=⟨Am,rfl,rfl⟩
theorem EZ:G AT=some Ay:=rfl
theorem C9:G At=some Ai:=rfl
theorem D6:G AH=some Aq:=rfl
theorem FP:G A7=some AE:=rfl
theorem V5:G Fs=some Fh:=rfl
theorem pure_r05_parts:PureF G Fs:=⟨Fh,rfl,rfl⟩
theorem OU:G CH=some Dl:=rfl
theorem Kk:G A5=some A4:=rfl
theorem pure_slices_nextPowerOfTwo:PureF G A5:=⟨A4,rfl,rfl⟩
theorem JH:G Ba=some Bb:=rfl
theorem F6:G AK=some AM:=rfl
theorem D5:G Ak=some Ar:=rfl
theorem Ja:G AZ=some A3:=rfl
theorem H7:G AC=some A1:=rfl
attribute [go_sem] OE LI QP QS R5 Sl QO SX Qz Sr Ol Uh Vr EU Dw EW Wi U8 Tn Nc LG JF Jf J7 O2 VN C1 Sg Oq QI SW Oh Sk Xb T5 N8 Of Pd Nl QH P1 Ky WR Hq Mi PA QA OO QY QD Kv KZ QG KM MR Mo Jq Oo Jp SY Qx E9 Mx QR Mk KC EM Px Uu SG PT Ow Og QC Ue F5 Pj pure_slices_IndexFuncZaiScai pure_act_Name pure_slices_ContainsZsgsg pure_math_bits_Mul pure_prune_Hollows pure_math_bits_Len pure_r05_Depth pure_cmp_Less_int_ pure_slices_isNaN_int_ pure_act_letter pure_slices_IndexZsgsg pure_math_bits_Mul32 pure_math_bits_Mul64 pure_prune_rungs pure_math_bits_Len32 pure_math_bits_Len64 pure_cmp_isNaN_int_ pure_slices_choosePivotOrdered_int_ pure_r05_parts pure_slices_nextPowerOfTwo
end Go.Mw
