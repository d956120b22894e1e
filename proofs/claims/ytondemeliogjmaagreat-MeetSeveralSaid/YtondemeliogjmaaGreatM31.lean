/- The code is the program's. Printed. -/
import Derived.Test.YtondemeliogjmaaGreatM30
import Derived.Test.YtondemeliogjmaaGreatRows
set_option linter.unusedVariables false
set_option linter.unusedSimpArgs false
namespace Go.Mw
open Go.Proofs
set_option maxRecDepth 100000
theorem ok_w07_MeetSeveral:Ah Tryz.prog f_w07_MeetSeveral Nz=some (bare BY.body,BY.res,BY.nt):=by kernel_rfl
theorem Vi:Ah Tryz.prog Fj VV=some (bare Fd.body,Fd.res,Fd.nt):=by kernel_rfl
theorem UZ:Ah Tryz.prog CW WT=some (bare Fo.body,Fo.res,Fo.nt):=by kernel_rfl
theorem VL:Ah Tryz.prog f_r07_Meet Yv=some (bare HI.body,HI.res,HI.nt):=by kernel_rfl
theorem Xg:Ah Tryz.prog f_r07_Join ZB=some (bare HM.body,HM.res,HM.nt):=by kernel_rfl
theorem Vm:Ah Tryz.prog Fm Xn=some (bare FH.body,FH.res,FH.nt):=by kernel_rfl
theorem Xd:Ah Tryz.prog Hx ZI=some (bare Hv.body,Hv.res,Hv.nt):=by kernel_rfl
theorem TZ:Ah Tryz.prog FK Wm=some (bare Fb.body,Fb.res,Fb.nt):=by kernel_rfl
theorem Wn:Ah Tryz.prog BU Aai=some (bare HH.body,HH.res,HH.nt):=by kernel_rfl
theorem Qt:Ah Tryz.prog DO S1=some (bare DM.body,DM.res,DM.nt):=by kernel_rfl
theorem YL:Ah Tryz.prog FW Aby=some (bare JX.body,JX.res,JX.nt):=by kernel_rfl
theorem Aaa:Ah Tryz.prog FS Abt=some (bare JY.body,JY.res,JY.nt):=by kernel_rfl
theorem WU:Ah Tryz.prog EA ZT=some (bare HD.body,HD.res,HD.nt):=by kernel_rfl
theorem Ta:Ah Tryz.prog Du Vu=some (bare El.body,El.res,El.nt):=by kernel_rfl
theorem Wb:Ah Tryz.prog Ei Zu=some (bare HG.body,HG.res,HG.nt):=by kernel_rfl
theorem Ac0:Ah Tryz.prog Kf Aec=some (bare Lm.body,Lm.res,Lm.nt):=by kernel_rfl
theorem Zc:Ah Tryz.prog JZ AcL=some (bare JU.body,JU.res,JU.nt):=by kernel_rfl
theorem WY:Ah Tryz.prog Hw Zq=some (bare HN.body,HN.res,HN.nt):=by kernel_rfl
theorem Pl:Ah Tryz.prog Cp Qp=some (bare C8.body,C8.res,C8.nt):=by kernel_rfl
theorem Mq:Ah Tryz.prog AD Ny=some (bare BX.body,BX.res,BX.nt):=by kernel_rfl
theorem Uk:Ah Tryz.prog Dr WS=some (bare Fg.body,Fg.res,Fg.nt):=by kernel_rfl
theorem S8:Ah Tryz.prog CU Uy=some (bare En.body,En.res,En.nt):=by kernel_rfl
theorem VS:Ah Tryz.prog BK Z1=some (bare HJ.body,HJ.res,HJ.nt):=by kernel_rfl
theorem R7:Ah Tryz.prog Bu Ud=some (bare Et.body,Et.res,Et.nt):=by kernel_rfl
theorem AbB:Ah Tryz.prog Kj AeU=some (bare Lk.body,Lk.res,Lk.nt):=by kernel_rfl
theorem V1:Ah Tryz.prog Ce Aau=some (bare HA.body,HA.res,HA.nt):=by kernel_rfl
theorem Uq:Ah Tryz.prog Jd VX=some (bare HW.body,HW.res,HW.nt):=by kernel_rfl
theorem WC:Ah Tryz.prog Bt ZK=some (bare HE.body,HE.res,HE.nt):=by kernel_rfl
theorem Zm:Ah Tryz.prog MP AcC=some (bare Lb.body,Lb.res,Lb.nt):=by kernel_rfl
theorem Q1:Ah Tryz.prog EY SD=some (bare DJ.body,DJ.res,DJ.nt):=by kernel_rfl
theorem Vg:Ah Tryz.prog HY Xj=some (bare FL.body,FL.res,FL.nt):=by kernel_rfl
theorem WH:Ah Tryz.prog f_meet_Met ZD=some (bare HC.body,HC.res,HC.nt):=by kernel_rfl
theorem QN:Ah Tryz.prog f_meet_Joined Sy=some (bare DG.body,DG.res,DG.nt):=by kernel_rfl
theorem Xk:Ah Tryz.prog Fu Yz=some (bare HF.body,HF.res,HF.nt):=by kernel_rfl
theorem Aco:Ah Tryz.prog Hn Aep=some (bare Ly.body,Ly.res,Ly.nt):=by kernel_rfl
theorem Y3:Ah Tryz.prog JP Acq=some (bare JV.body,JV.res,JV.nt):=by kernel_rfl
theorem Qs:Ah Tryz.prog Ci Tc=some (bare Dz.body,Dz.res,Dz.nt):=by kernel_rfl
theorem QV:Ah Tryz.prog BR S2=some (bare DF.body,DF.res,DF.nt):=by kernel_rfl
theorem Sh:Ah Tryz.prog Er TP=some (bare Eh.body,Eh.res,Eh.nt):=by kernel_rfl
theorem OW:Ah Tryz.prog BT QZ=some (bare C7.body,C7.res,C7.nt):=by kernel_rfl
theorem U0:Ah Tryz.prog FD V6=some (bare FJ.body,FJ.res,FJ.nt):=by kernel_rfl
theorem Ti:Ah Tryz.prog CS UE=some (bare Ej.body,Ej.res,Ej.nt):=by kernel_rfl
theorem Lz:Ah Tryz.prog Bg Me=some (bare BB.body,BB.res,BB.nt):=by kernel_rfl
theorem AaY:Ah Tryz.prog Ho Aew=some (bare Ll.body,Ll.res,Ll.nt):=by kernel_rfl
theorem Jl:Ah Tryz.prog Ag JB=some (bare AP.body,AP.res,AP.nt):=by kernel_rfl
theorem Oc:Ah Tryz.prog A0 PD=some (bare CJ.body,CJ.res,CJ.nt):=by kernel_rfl
theorem SP:Ah Tryz.prog Ez TU=some (bare Ew.body,Ew.res,Ew.nt):=by kernel_rfl
theorem Vj:Ah Tryz.prog D3 Xm=some (bare E6.body,E6.res,E6.nt):=by kernel_rfl
theorem To:Ah Tryz.prog Dn Um=some (bare Eu.body,Eu.res,Eu.nt):=by kernel_rfl
theorem Vh:Ah Tryz.prog FE Xa=some (bare Ff.body,Ff.res,Ff.nt):=by kernel_rfl
theorem VA:Ah Tryz.prog Eb Wd=some (bare Fz.body,Fz.res,Fz.nt):=by kernel_rfl
theorem LM:Ah Tryz.prog Bf L5=some (bare BE.body,BE.res,BE.nt):=by kernel_rfl
theorem Tt:Ah Tryz.prog f_meet_Met_1 Vn=some (bare Es.body,Es.res,Es.nt):=by kernel_rfl
theorem T0:Ah Tryz.prog Fp Wy=some (bare FI.body,FI.res,FI.nt):=by kernel_rfl
theorem SV:Ah Tryz.prog f_meet_Met_2 VC=some (bare Eq.body,Eq.res,Eq.nt):=by kernel_rfl
theorem Ox:Ah Tryz.prog f_meet_Joined_1 P0=some (bare CE.body,CE.res,CE.nt):=by kernel_rfl
theorem N5:Ah Tryz.prog AY Ql=some (bare CL.body,CL.res,CL.nt):=by kernel_rfl
theorem N7:Ah Tryz.prog f_meet_Joined_3 O3=some (bare Cz.body,Cz.res,Cz.nt):=by kernel_rfl
theorem Q5:Ah Tryz.prog DA R8=some (bare Dy.body,Dy.res,Dy.nt):=by kernel_rfl
theorem NY:Ah Tryz.prog f_meet_Joined_4 Qd=some (bare CM.body,CM.res,CM.nt):=by kernel_rfl
theorem VH:Ah Tryz.prog HP Aax=some (bare HK.body,HK.res,HK.nt):=by kernel_rfl
theorem Vq:Ah Tryz.prog E7 We=some (bare E8.body,E8.res,E8.nt):=by kernel_rfl
theorem F8:Ah Tryz.prog Aj Hg=some (bare AB.body,AB.res,AB.nt):=by kernel_rfl
theorem N6:Ah Tryz.prog B5 Pb=some (bare CQ.body,CQ.res,CQ.nt):=by kernel_rfl
theorem U3:Ah Tryz.prog C3 VJ=some (bare Fl.body,Fl.res,Fl.nt):=by kernel_rfl
theorem N1:Ah Tryz.prog B3 O6=some (bare CF.body,CF.res,CF.nt):=by kernel_rfl
theorem LL:Ah Tryz.prog AA L7=some (bare Be.body,Be.res,Be.nt):=by kernel_rfl
theorem K7:Ah Tryz.prog AR LJ=some (bare AS.body,AS.res,AS.nt):=by kernel_rfl
theorem SL:Ah Tryz.prog Ef Va=some (bare Ek.body,Ek.res,Ek.nt):=by kernel_rfl
theorem Z2:Ah Tryz.prog JO AcW=some (bare JW.body,JW.res,JW.nt):=by kernel_rfl
theorem Xh:Ah Tryz.prog Hy ZF=some (bare HL.body,HL.res,HL.nt):=by kernel_rfl
theorem WD:Ah Tryz.prog E5 Zy=some (bare JS.body,JS.res,JS.nt):=by kernel_rfl
theorem SB:Ah Tryz.prog EC UY=some (bare Ep.body,Ep.res,Ep.nt):=by kernel_rfl
theorem Mb:Ah Tryz.prog Cm My=some (bare Cj.body,Cj.res,Cj.nt):=by kernel_rfl
theorem KB:Ah Tryz.prog BF K2=some (bare BI.body,BI.res,BI.nt):=by kernel_rfl
theorem QQ:Ah Tryz.prog C0 S9=some (bare DQ.body,DQ.res,DQ.nt):=by kernel_rfl
theorem Qo:Ah Tryz.prog DI SC=some (bare DK.body,DK.res,DK.nt):=by kernel_rfl
theorem TK:Ah Tryz.prog Ea Xf=some (bare Fa.body,Fa.res,Fa.nt):=by kernel_rfl
theorem ZR:Ah Tryz.prog FV Adc=some (bare J0.body,J0.res,J0.nt):=by kernel_rfl
theorem HU:Ah Tryz.prog AF Jm=some (bare AG.body,AG.res,AG.nt):=by kernel_rfl
theorem Si:Ah Tryz.prog Dq s_r01_letter=some (bare EB.body,EB.res,EB.nt):=by kernel_rfl
theorem Jn:Ah Tryz.prog Az JD=some (bare AQ.body,AQ.res,AQ.nt):=by kernel_rfl
theorem Wo:Ah Tryz.prog Hu Zb=some (bare HO.body,HO.res,HO.nt):=by kernel_rfl
theorem Kc:Ah Tryz.prog A8 Kx=some (bare A9.body,A9.res,A9.nt):=by kernel_rfl
theorem Om:Ah Tryz.prog EL O7=some (bare CC.body,CC.res,CC.nt):=by kernel_rfl
theorem OZ:Ah Tryz.prog BS QK=some (bare DT.body,DT.res,DT.nt):=by kernel_rfl
theorem N0:Ah Tryz.prog CP Pu=some (bare CA.body,CA.res,CA.nt):=by kernel_rfl
theorem Ot:Ah Tryz.prog Bq OV=some (bare CN.body,CN.res,CN.nt):=by kernel_rfl
theorem F3:Ah Tryz.prog Ap Hj=some (bare AU.body,AU.res,AU.nt):=by kernel_rfl
theorem U9:Ah Tryz.prog D1 Xt=some (bare Fi.body,Fi.res,Fi.nt):=by kernel_rfl
theorem Ov:Ah Tryz.prog Af Pi=some (bare CO.body,CO.res,CO.nt):=by kernel_rfl
theorem LE:Ah Tryz.prog Bh Mc=some (bare By.body,By.res,By.nt):=by kernel_rfl
theorem SF:Ah Tryz.prog Di s_act_letter=some (bare Eo.body,Eo.res,Eo.nt):=by kernel_rfl
theorem LC:Ah Tryz.prog BD L4=some (bare BA.body,BA.res,BA.nt):=by kernel_rfl
theorem ME:Ah Tryz.prog DD Ni=some (bare BW.body,BW.res,BW.nt):=by kernel_rfl
theorem MJ:Ah Tryz.prog DC Nd=some (bare BZ.body,BZ.res,BZ.nt):=by kernel_rfl
theorem Q0:Ah Tryz.prog CY Tu=some (bare DP.body,DP.res,DP.nt):=by kernel_rfl
theorem Mz:Ah Tryz.prog DE Nv=some (bare B0.body,B0.res,B0.nt):=by kernel_rfl
theorem Mm:Ah Tryz.prog B1 Nj=some (bare BV.body,BV.res,BV.nt):=by kernel_rfl
theorem Na:Ah Tryz.prog BL Oe=some (bare Cf.body,Cf.res,Cf.nt):=by kernel_rfl
theorem D8:Ah Tryz.prog Aw EE=some (bare Ax.body,Ax.res,Ax.nt):=by kernel_rfl
theorem FR:Ah Tryz.prog Bd F2=some (bare AL.body,AL.res,AL.nt):=by kernel_rfl
theorem Ec:Ah Tryz.prog AN EG=some (bare Av.body,Av.res,Av.nt):=by kernel_rfl
theorem ES:Ah Tryz.prog An E1=some (bare Am.body,Am.res,Am.nt):=by kernel_rfl
theorem EH:Ah Tryz.prog AT EO=some (bare Ay.body,Ay.res,Ay.nt):=by kernel_rfl
theorem C4:Ah Tryz.prog At Db=some (bare Ai.body,Ai.res,Ai.nt):=by kernel_rfl
theorem DV:Ah Tryz.prog AH Ee=some (bare Aq.body,Aq.res,Aq.nt):=by kernel_rfl
theorem Ft:Ah Tryz.prog A7 FY=some (bare AE.body,AE.res,AE.nt):=by kernel_rfl
theorem T4:Ah Tryz.prog Fs Wz=some (bare Fh.body,Fh.res,Fh.nt):=by kernel_rfl
theorem Ok:Ah Tryz.prog CH Pw=some (bare Dl.body,Dl.res,Dl.nt):=by kernel_rfl
theorem J3:Ah Tryz.prog A5 Ke=some (bare A4.body,A4.res,A4.nt):=by kernel_rfl
theorem Jj:Ah Tryz.prog Ba JI=some (bare Bb.body,Bb.res,Bb.nt):=by kernel_rfl
theorem FQ:Ah Tryz.prog AK Hb=some (bare AM.body,AM.res,AM.nt):=by kernel_rfl
theorem DX:Ah Tryz.prog Ak D4=some (bare Ar.body,Ar.res,Ar.nt):=by kernel_rfl
theorem Hs:Ah Tryz.prog AZ H1=some (bare A3.body,A3.res,A3.nt):=by kernel_rfl
theorem Hf:Ah Tryz.prog AC HV=some (bare A1.body,A1.res,A1.nt):=by kernel_rfl
theorem good:Ahb Tryz.prog G:=by
 intro f F h;unfold G at h;split at h
 ·cases h;exact ⟨_,ok_w07_MeetSeveral⟩
 ·cases h;exact ⟨_,Vi⟩
 ·cases h;exact ⟨_,UZ⟩
 ·cases h;exact ⟨_,VL⟩
 ·cases h;exact ⟨_,Xg⟩
 ·cases h;exact ⟨_,Vm⟩
 ·cases h;exact ⟨_,Xd⟩
 ·cases h;exact ⟨_,TZ⟩
 ·cases h;exact ⟨_,Wn⟩
 ·cases h;exact ⟨_,Qt⟩
 ·cases h;exact ⟨_,YL⟩
 ·cases h;exact ⟨_,Aaa⟩
 ·cases h;exact ⟨_,WU⟩
 ·cases h;exact ⟨_,Ta⟩
 ·cases h;exact ⟨_,Wb⟩
 ·cases h;exact ⟨_,Ac0⟩
 ·cases h;exact ⟨_,Zc⟩
 ·cases h;exact ⟨_,WY⟩
 ·cases h;exact ⟨_,Pl⟩
 ·cases h;exact ⟨_,Mq⟩
 ·cases h;exact ⟨_,Uk⟩
 ·cases h;exact ⟨_,S8⟩
 ·cases h;exact ⟨_,VS⟩
 ·cases h;exact ⟨_,R7⟩
 ·cases h;exact ⟨_,AbB⟩
 ·cases h;exact ⟨_,V1⟩
 ·cases h;exact ⟨_,Uq⟩
 ·cases h;exact ⟨_,WC⟩
 ·cases h;exact ⟨_,Zm⟩
 ·cases h;exact ⟨_,Q1⟩
 ·cases h;exact ⟨_,Vg⟩
 ·cases h;exact ⟨_,WH⟩
 ·cases h;exact ⟨_,QN⟩
 ·cases h;exact ⟨_,Xk⟩
 ·cases h;exact ⟨_,Aco⟩
 ·cases h;exact ⟨_,Y3⟩
 ·cases h;exact ⟨_,Qs⟩
 ·cases h;exact ⟨_,QV⟩
 ·cases h;exact ⟨_,Sh⟩
 ·cases h;exact ⟨_,OW⟩
 ·cases h;exact ⟨_,U0⟩
 ·cases h;exact ⟨_,Ti⟩
 ·cases h;exact ⟨_,Lz⟩
 ·cases h;exact ⟨_,AaY⟩
 ·cases h;exact ⟨_,Jl⟩
 ·cases h;exact ⟨_,Oc⟩
 ·cases h;exact ⟨_,SP⟩
 ·cases h;exact ⟨_,Vj⟩
 ·cases h;exact ⟨_,To⟩
 ·cases h;exact ⟨_,Vh⟩
 ·cases h;exact ⟨_,VA⟩
 ·cases h;exact ⟨_,LM⟩
 ·cases h;exact ⟨_,Tt⟩
 ·cases h;exact ⟨_,T0⟩
 ·cases h;exact ⟨_,SV⟩
 ·cases h;exact ⟨_,Ox⟩
 ·cases h;exact ⟨_,N5⟩
 ·cases h;exact ⟨_,N7⟩
 ·cases h;exact ⟨_,Q5⟩
 ·cases h;exact ⟨_,NY⟩
 ·cases h;exact ⟨_,VH⟩
 ·cases h;exact ⟨_,Vq⟩
 ·cases h;exact ⟨_,F8⟩
 ·cases h;exact ⟨_,N6⟩
 ·cases h;exact ⟨_,U3⟩
 ·cases h;exact ⟨_,N1⟩
 ·cases h;exact ⟨_,LL⟩
 ·cases h;exact ⟨_,K7⟩
 ·cases h;exact ⟨_,SL⟩
 ·cases h;exact ⟨_,Z2⟩
 ·cases h;exact ⟨_,Xh⟩
 ·cases h;exact ⟨_,WD⟩
 ·cases h;exact ⟨_,SB⟩
 ·cases h;exact ⟨_,Mb⟩
 ·cases h;exact ⟨_,KB⟩
 ·cases h;exact ⟨_,QQ⟩
 ·cases h;exact ⟨_,Qo⟩
 ·cases h;exact ⟨_,TK⟩
 ·cases h;exact ⟨_,ZR⟩
 ·cases h;exact ⟨_,HU⟩
 ·cases h;exact ⟨_,Si⟩
 ·cases h;exact ⟨_,Jn⟩
 ·cases h;exact ⟨_,Wo⟩
 ·cases h;exact ⟨_,Kc⟩
 ·cases h;exact ⟨_,Om⟩
 ·cases h;exact ⟨_,OZ⟩
 ·cases h;exact ⟨_,N0⟩
 ·cases h;exact ⟨_,Ot⟩
 ·cases h;exact ⟨_,F3⟩
 ·cases h;exact ⟨_,U9⟩
 ·cases h;exact ⟨_,Ov⟩
 ·cases h;exact ⟨_,LE⟩
 ·cases h;exact ⟨_,SF⟩
 ·cases h;exact ⟨_,LC⟩
 ·cases h;exact ⟨_,ME⟩
 ·cases h;exact ⟨_,MJ⟩
 ·cases h;exact ⟨_,Q0⟩
 ·cases h;exact ⟨_,Mz⟩
 ·cases h;exact ⟨_,Mm⟩
 ·cases h;exact ⟨_,Na⟩
 ·cases h;exact ⟨_,D8⟩
 ·cases h;exact ⟨_,FR⟩
 ·cases h;exact ⟨_,Ec⟩
 ·cases h;exact ⟨_,ES⟩
 ·cases h;exact ⟨_,EH⟩
 ·cases h;exact ⟨_,C4⟩
 ·cases h;exact ⟨_,DV⟩
 ·cases h;exact ⟨_,Ft⟩
 ·cases h;exact ⟨_,T4⟩
 ·cases h;exact ⟨_,Ok⟩
 ·cases h;exact ⟨_,J3⟩
 ·cases h;exact ⟨_,Jj⟩
 ·cases h;exact ⟨_,FQ⟩
 ·cases h;exact ⟨_,DX⟩
 ·cases h;exact ⟨_,Hs⟩
 ·cases h;exact ⟨_,Hf⟩
 ·cases h
end Go.Mw
