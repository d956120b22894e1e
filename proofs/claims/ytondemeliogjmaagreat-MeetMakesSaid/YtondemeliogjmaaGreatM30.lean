/- The code is the program's. Printed. -/
import Derived.Test.YtondemeliogjmaaGreatM29
import Derived.Test.YtondemeliogjmaaGreatRows
set_option linter.unusedVariables false
set_option linter.unusedSimpArgs false
namespace Go.Mw
open Go.Proofs
set_option maxRecDepth 100000
abbrev Okc (f:FuncId)(s:List Nat)(F:IF):Prop:=AbG Tryz.prog f s=some (bare F.body,F.res,F.nt)
theorem MY:Okc f_w07_MeetMakes Oh D4:=by unfold Okc;kernel_rfl
theorem SE:Okc CU Ux Jj:=by unfold Okc;kernel_rfl
theorem Sq:Okc Dw Ve Jk:=by unfold Okc;kernel_rfl
theorem Ud:Okc Ft W5 Km:=by unfold Okc;kernel_rfl
theorem UG:Okc f_r07_Meet X6 Kj:=by unfold Okc;kernel_rfl
theorem Vk:Okc f_r07_Join XS Kx:=by unfold Okc;kernel_rfl
theorem TY:Okc Cm VJ Jn:=by unfold Okc;kernel_rfl
theorem Uh:Okc C8 Ys Kc:=by unfold Okc;kernel_rfl
theorem T5:Okc B0 UD HW:=by unfold Okc;kernel_rfl
theorem Uc:Okc BC Yx Kb:=by unfold Okc;kernel_rfl
theorem AaN:Okc Hb AbA NC:=by unfold Okc;kernel_rfl
theorem X0:Okc HP Zj Lv:=by unfold Okc;kernel_rfl
theorem UK:Okc Fs Xz Ko:=by unfold Okc;kernel_rfl
theorem NQ:Okc B3 Pq EH:=by unfold Okc;kernel_rfl
theorem LL:Okc Aq Ms C5:=by unfold Okc;kernel_rfl
theorem TU:Okc CG U5 HS:=by unfold Okc;kernel_rfl
theorem RS:Okc Cj SB F6:=by unfold Okc;kernel_rfl
theorem Vm:Okc A7 WW Kh:=by unfold Okc;kernel_rfl
theorem Rs:Okc A9 Sr Hr:=by unfold Okc;kernel_rfl
theorem Z6:Okc Ji AcP Nz:=by unfold Okc;kernel_rfl
theorem UC:Okc BR YI Kf:=by unfold Okc;kernel_rfl
theorem Tn:Okc FP Vr K6:=by unfold Okc;kernel_rfl
theorem VA:Okc BB Xb Kd:=by unfold Okc;kernel_rfl
theorem WX:Okc Lx Zm Pe:=by unfold Okc;kernel_rfl
theorem Pj:Okc BW QV Fm:=by unfold Okc;kernel_rfl
theorem TA:Okc BZ Ue Jc:=by unfold Okc;kernel_rfl
theorem Ui:Okc f_meet_Met YC J9:=by unfold Okc;kernel_rfl
theorem Pn:Okc f_meet_Joined QK Fd:=by unfold Okc;kernel_rfl
theorem UQ:Okc Eu Xh Kk:=by unfold Okc;kernel_rfl
theorem Zi:Okc Kn AcX Nu:=by unfold Okc;kernel_rfl
theorem PO:Okc C6 Rf Fo:=by unfold Okc;kernel_rfl
theorem O9:Okc Cy PJ EJ:=by unfold Okc;kernel_rfl
theorem SZ:Okc Eq Un Jb:=by unfold Okc;kernel_rfl
theorem Q5:Okc CQ SX Hk:=by unfold Okc;kernel_rfl
theorem Kz:Okc AR Lc Cs:=by unfold Okc;kernel_rfl
theorem Abi:Okc Fj AcU Nr:=by unfold Okc;kernel_rfl
theorem F0:Okc Ag HD Bh:=by unfold Okc;kernel_rfl
theorem Ng:Okc AD OG DQ:=by unfold Okc;kernel_rfl
theorem QW:Okc DH SD F7:=by unfold Okc;kernel_rfl
theorem Tl:Okc Dv UV H6:=by unfold Okc;kernel_rfl
theorem Ro:Okc CP Tp F8:=by unfold Okc;kernel_rfl
theorem TV:Okc EA U6 HZ:=by unfold Okc;kernel_rfl
theorem T8:Okc Dq VK HV:=by unfold Okc;kernel_rfl
theorem KJ:Okc Bg KT Co:=by unfold Okc;kernel_rfl
theorem RN:Okc f_meet_Met_1 Tm F3:=by unfold Okc;kernel_rfl
theorem T1:Okc Er Ua H8:=by unfold Okc;kernel_rfl
theorem QP:Okc f_meet_Met_2 S2 Ha:=by unfold Okc;kernel_rfl
theorem M5:Okc f_meet_Joined_1 NZ DW:=by unfold Okc;kernel_rfl
theorem M8:Okc AF Of D5:=by unfold Okc;kernel_rfl
theorem Nn:Okc f_meet_Joined_3 Og DX:=by unfold Okc;kernel_rfl
theorem Ps:Okc CZ Q7 Fg:=by unfold Okc;kernel_rfl
theorem MX:Okc f_meet_Joined_4 O6 D8:=by unfold Okc;kernel_rfl
theorem Vc:Okc Fq WG Ka:=by unfold Okc;kernel_rfl
theorem SW:Okc EC UP Je:=by unfold Okc;kernel_rfl
theorem Tt:Okc El VR H0:=by unfold Okc;kernel_rfl
theorem Ky:Okc At K7 BF:=by unfold Okc;kernel_rfl
theorem JJ:Okc Ax KE A8:=by unfold Okc;kernel_rfl
theorem QC:Okc DD Tx Hl:=by unfold Okc;kernel_rfl
theorem XH:Okc HK AaI LD:=by unfold Okc;kernel_rfl
theorem VM:Okc Fv Xm Kv:=by unfold Okc;kernel_rfl
theorem U7:Okc ED Xi L7:=by unfold Okc;kernel_rfl
theorem Rb:Okc DG Tf F5:=by unfold Okc;kernel_rfl
theorem La:Okc BT Ls DO:=by unfold Okc;kernel_rfl
theorem Jy:Okc Bl JM CS:=by unfold Okc;kernel_rfl
theorem Pm:Okc Ck Rg Fb:=by unfold Okc;kernel_rfl
theorem Pv:Okc C3 Q9 E6:=by unfold Okc;kernel_rfl
theorem Sn:Okc DA UJ H2:=by unfold Okc;kernel_rfl
theorem YA:Okc EM Z4 LU:=by unfold Okc;kernel_rfl
theorem FR:Okc Ar F1 Bb:=by unfold Okc;kernel_rfl
theorem RO:Okc CT s_r01_letter F_r01_letter:=by unfold Okc;kernel_rfl
theorem U4:Okc Fr YD Kw:=by unfold Okc;kernel_rfl
theorem H5:Okc AK JD BN:=by unfold Okc;kernel_rfl
theorem MW:Okc DS O2 D3:=by unfold Okc;kernel_rfl
theorem ON:Okc BA PM HC:=by unfold Okc;kernel_rfl
theorem MV:Okc Cc NL D2:=by unfold Okc;kernel_rfl
theorem Nc:Okc A0 O7 DT:=by unfold Okc;kernel_rfl
theorem EY:Okc Aj Fk Bz:=by unfold Okc;kernel_rfl
theorem SC:Okc Dy UB HU:=by unfold Okc;kernel_rfl
theorem M9:Okc Af Oc Ea:=by unfold Okc;kernel_rfl
theorem KL:Okc AP KZ Ct:=by unfold Okc;kernel_rfl
theorem R7:Okc CM s_act_letter F_act_letter:=by unfold Okc;kernel_rfl
theorem KF:Okc Bf KU Cr:=by unfold Okc;kernel_rfl
theorem Lm:Okc Da Mh C4:=by unfold Okc;kernel_rfl
theorem Lu:Okc C7 L5 C1:=by unfold Okc;kernel_rfl
theorem Po:Okc Cn Ri Fp:=by unfold Okc;kernel_rfl
theorem LS:Okc CY Mf Dc:=by unfold Okc;kernel_rfl
theorem Lz:Okc BD Mu C9:=by unfold Okc;kernel_rfl
theorem LZ:Okc Br Nd Dn:=by unfold Okc;kernel_rfl
theorem Du:Okc Am DJ AY:=by unfold Okc;kernel_rfl
theorem EP:Okc AO E1 Bq:=by unfold Okc;kernel_rfl
theorem Do:Okc Aw DM AW:=by unfold Okc;kernel_rfl
theorem DY:Okc Ai Ef AC:=by unfold Okc;kernel_rfl
theorem DK:Okc Az D6 A1:=by unfold Okc;kernel_rfl
theorem Cw:Okc Al Cz Ay:=by unfold Okc;kernel_rfl
theorem Dl:Okc As Dz AQ:=by unfold Okc;kernel_rfl
theorem En:Okc AJ ES Bn:=by unfold Okc;kernel_rfl
theorem Tj:Okc Ek UE H7:=by unfold Okc;kernel_rfl
theorem MZ:Okc B9 NH FC:=by unfold Okc;kernel_rfl
theorem HH:Okc AG Jd By:=by unfold Okc;kernel_rfl
theorem FY:Okc AL Hy BY:=by unfold Okc;kernel_rfl
theorem ER:Okc Au E3 Bs:=by unfold Okc;kernel_rfl
theorem Dh:Okc Ah Dr AS:=by unfold Okc;kernel_rfl
theorem E4:Okc AE Fz BK:=by unfold Okc;kernel_rfl
theorem Fa:Okc Ap FE BI:=by unfold Okc;kernel_rfl
theorem good:Aex Tryz.prog G:=by
 intro f F h;unfold G at h;split at h
 ·cases h;exact ⟨_,MY⟩
 ·cases h;exact ⟨_,SE⟩
 ·cases h;exact ⟨_,Sq⟩
 ·cases h;exact ⟨_,Ud⟩
 ·cases h;exact ⟨_,UG⟩
 ·cases h;exact ⟨_,Vk⟩
 ·cases h;exact ⟨_,TY⟩
 ·cases h;exact ⟨_,Uh⟩
 ·cases h;exact ⟨_,T5⟩
 ·cases h;exact ⟨_,Uc⟩
 ·cases h;exact ⟨_,AaN⟩
 ·cases h;exact ⟨_,X0⟩
 ·cases h;exact ⟨_,UK⟩
 ·cases h;exact ⟨_,NQ⟩
 ·cases h;exact ⟨_,LL⟩
 ·cases h;exact ⟨_,TU⟩
 ·cases h;exact ⟨_,RS⟩
 ·cases h;exact ⟨_,Vm⟩
 ·cases h;exact ⟨_,Rs⟩
 ·cases h;exact ⟨_,Z6⟩
 ·cases h;exact ⟨_,UC⟩
 ·cases h;exact ⟨_,Tn⟩
 ·cases h;exact ⟨_,VA⟩
 ·cases h;exact ⟨_,WX⟩
 ·cases h;exact ⟨_,Pj⟩
 ·cases h;exact ⟨_,TA⟩
 ·cases h;exact ⟨_,Ui⟩
 ·cases h;exact ⟨_,Pn⟩
 ·cases h;exact ⟨_,UQ⟩
 ·cases h;exact ⟨_,Zi⟩
 ·cases h;exact ⟨_,PO⟩
 ·cases h;exact ⟨_,O9⟩
 ·cases h;exact ⟨_,SZ⟩
 ·cases h;exact ⟨_,Q5⟩
 ·cases h;exact ⟨_,Kz⟩
 ·cases h;exact ⟨_,Abi⟩
 ·cases h;exact ⟨_,F0⟩
 ·cases h;exact ⟨_,Ng⟩
 ·cases h;exact ⟨_,QW⟩
 ·cases h;exact ⟨_,Tl⟩
 ·cases h;exact ⟨_,Ro⟩
 ·cases h;exact ⟨_,TV⟩
 ·cases h;exact ⟨_,T8⟩
 ·cases h;exact ⟨_,KJ⟩
 ·cases h;exact ⟨_,RN⟩
 ·cases h;exact ⟨_,T1⟩
 ·cases h;exact ⟨_,QP⟩
 ·cases h;exact ⟨_,M5⟩
 ·cases h;exact ⟨_,M8⟩
 ·cases h;exact ⟨_,Nn⟩
 ·cases h;exact ⟨_,Ps⟩
 ·cases h;exact ⟨_,MX⟩
 ·cases h;exact ⟨_,Vc⟩
 ·cases h;exact ⟨_,SW⟩
 ·cases h;exact ⟨_,Tt⟩
 ·cases h;exact ⟨_,Ky⟩
 ·cases h;exact ⟨_,JJ⟩
 ·cases h;exact ⟨_,QC⟩
 ·cases h;exact ⟨_,XH⟩
 ·cases h;exact ⟨_,VM⟩
 ·cases h;exact ⟨_,U7⟩
 ·cases h;exact ⟨_,Rb⟩
 ·cases h;exact ⟨_,La⟩
 ·cases h;exact ⟨_,Jy⟩
 ·cases h;exact ⟨_,Pm⟩
 ·cases h;exact ⟨_,Pv⟩
 ·cases h;exact ⟨_,Sn⟩
 ·cases h;exact ⟨_,YA⟩
 ·cases h;exact ⟨_,FR⟩
 ·cases h;exact ⟨_,RO⟩
 ·cases h;exact ⟨_,U4⟩
 ·cases h;exact ⟨_,H5⟩
 ·cases h;exact ⟨_,MW⟩
 ·cases h;exact ⟨_,ON⟩
 ·cases h;exact ⟨_,MV⟩
 ·cases h;exact ⟨_,Nc⟩
 ·cases h;exact ⟨_,EY⟩
 ·cases h;exact ⟨_,SC⟩
 ·cases h;exact ⟨_,M9⟩
 ·cases h;exact ⟨_,KL⟩
 ·cases h;exact ⟨_,R7⟩
 ·cases h;exact ⟨_,KF⟩
 ·cases h;exact ⟨_,Lm⟩
 ·cases h;exact ⟨_,Lu⟩
 ·cases h;exact ⟨_,Po⟩
 ·cases h;exact ⟨_,LS⟩
 ·cases h;exact ⟨_,Lz⟩
 ·cases h;exact ⟨_,LZ⟩
 ·cases h;exact ⟨_,Du⟩
 ·cases h;exact ⟨_,EP⟩
 ·cases h;exact ⟨_,Do⟩
 ·cases h;exact ⟨_,DY⟩
 ·cases h;exact ⟨_,DK⟩
 ·cases h;exact ⟨_,Cw⟩
 ·cases h;exact ⟨_,Dl⟩
 ·cases h;exact ⟨_,En⟩
 ·cases h;exact ⟨_,Tj⟩
 ·cases h;exact ⟨_,MZ⟩
 ·cases h;exact ⟨_,HH⟩
 ·cases h;exact ⟨_,FY⟩
 ·cases h;exact ⟨_,ER⟩
 ·cases h;exact ⟨_,Dh⟩
 ·cases h;exact ⟨_,E4⟩
 ·cases h;exact ⟨_,Fa⟩
 ·cases h
end Go.Mw
