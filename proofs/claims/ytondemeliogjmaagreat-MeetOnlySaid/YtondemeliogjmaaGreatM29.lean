/- The code is the program's. Printed. -/
import Derived.Test.YtondemeliogjmaaGreatM28
import Derived.Test.YtondemeliogjmaaGreatRows
set_option linter.unusedVariables false
set_option linter.unusedSimpArgs false
namespace Go.Mw
open Go.Proofs
set_option maxRecDepth 100000
theorem ok_w07_MeetOnly:Af Tryz.prog f_w07_MeetOnly RE=some (bare CH.body,CH.res,CH.nt):=by kernel_rfl
theorem UN:Af Tryz.prog Fa XB=some (bare Fo.body,Fo.res,Fo.nt):=by kernel_rfl
theorem Uy:Af Tryz.prog CV W8=some (bare FA.body,FA.res,FA.nt):=by kernel_rfl
theorem Xt:Af Tryz.prog f_r07_Meet Aa3=some (bare Hy.body,Hy.res,Hy.nt):=by kernel_rfl
theorem VN:Af Tryz.prog Fk WA=some (bare E5.body,E5.res,E5.nt):=by kernel_rfl
theorem Yh:Af Tryz.prog HE Aan=some (bare HA.body,HA.res,HA.nt):=by kernel_rfl
theorem UH:Af Tryz.prog Fd XA=some (bare Fc.body,Fc.res,Fc.nt):=by kernel_rfl
theorem WT:Af Tryz.prog Cg Aao=some (bare HD.body,HD.res,HD.nt):=by kernel_rfl
theorem Wr:Af Tryz.prog Ht Aay=some (bare HF.body,HF.res,HF.nt):=by kernel_rfl
theorem Ad3:Af Tryz.prog Jw Aet=some (bare Li.body,Li.res,Li.nt):=by kernel_rfl
theorem Xs:Af Tryz.prog Ec Aab=some (bare Hx.body,Hx.res,Hx.nt):=by kernel_rfl
theorem Vb:Af Tryz.prog f_meet_Only Wl=some (bare Fb.body,Fb.res,Fb.nt):=by kernel_rfl
theorem UA:Af Tryz.prog Fu X0=some (bare FK.body,FK.res,FK.nt):=by kernel_rfl
theorem Aah:Af Tryz.prog JS Ab6=some (bare J2.body,J2.res,J2.nt):=by kernel_rfl
theorem Wm:Af Tryz.prog Hu Zb=some (bare HL.body,HL.res,HL.nt):=by kernel_rfl
theorem Qv:Af Tryz.prog A1 RB=some (bare CF.body,CF.res,CF.nt):=by kernel_rfl
theorem MQ:Af Tryz.prog AI N0=some (bare BI.body,BI.res,BI.nt):=by kernel_rfl
theorem U2:Af Tryz.prog C3 Wt=some (bare FL.body,FL.res,FL.nt):=by kernel_rfl
theorem T7:Af Tryz.prog Cq Ut=some (bare D8.body,D8.res,D8.nt):=by kernel_rfl
theorem Xd:Af Tryz.prog Bx Aag=some (bare HK.body,HK.res,HK.nt):=by kernel_rfl
theorem Tp:Af Tryz.prog Ct Vi=some (bare D3.body,D3.res,D3.nt):=by kernel_rfl
theorem AbJ:Af Tryz.prog Kj AfL=some (bare Lh.body,Lh.res,Lh.nt):=by kernel_rfl
theorem W6:Af Tryz.prog Eg Za=some (bare HI.body,HI.res,HI.nt):=by kernel_rfl
theorem Uq:Af Tryz.prog Kg X6=some (bare HW.body,HW.res,HW.nt):=by kernel_rfl
theorem Wn:Af Tryz.prog C5 ZK=some (bare Hz.body,Hz.res,Hz.nt):=by kernel_rfl
theorem RK:Af Tryz.prog ED Ud=some (bare Dj.body,Dj.res,Dj.nt):=by kernel_rfl
theorem UG:Af Tryz.prog H7 Yj=some (bare E6.body,E6.res,E6.nt):=by kernel_rfl
theorem Ye:Af Tryz.prog LD ZI=some (bare HH.body,HH.res,HH.nt):=by kernel_rfl
theorem Rb:Af Tryz.prog Hj SF=some (bare Da.body,Da.res,Da.nt):=by kernel_rfl
theorem X2:Af Tryz.prog Fs Zn=some (bare Hs.body,Hs.res,Hs.nt):=by kernel_rfl
theorem AcD:Af Tryz.prog LC AfX=some (bare Lj.body,Lj.res,Lj.nt):=by kernel_rfl
theorem Zl:Af Tryz.prog J6 AbH=some (bare JU.body,JU.res,JU.nt):=by kernel_rfl
theorem Q6:Af Tryz.prog BV SP=some (bare Dt.body,Dt.res,Dt.nt):=by kernel_rfl
theorem Qs:Af Tryz.prog BE Rr=some (bare CG.body,CG.res,CG.nt):=by kernel_rfl
theorem QZ:Af Tryz.prog Dr SJ=some (bare Dh.body,Dh.res,Dh.nt):=by kernel_rfl
theorem Vn:Af Tryz.prog E8 Wu=some (bare FI.body,FI.res,FI.nt):=by kernel_rfl
theorem UK:Af Tryz.prog DR Xb=some (bare FH.body,FH.res,FH.nt):=by kernel_rfl
theorem Tc:Af Tryz.prog Co Uo=some (bare Ef.body,Ef.res,Ef.nt):=by kernel_rfl
theorem HQ:Af Tryz.prog Ag Jh=some (bare AA.body,AA.res,AA.nt):=by kernel_rfl
theorem Rx:Af Tryz.prog BB S5=some (bare Dq.body,Dq.res,Dq.nt):=by kernel_rfl
theorem Ro:Af Tryz.prog Dl Td=some (bare Dd.body,Dd.res,Dd.nt):=by kernel_rfl
theorem Ru:Af Tryz.prog BC Tj=some (bare Dn.body,Dn.res,Dn.nt):=by kernel_rfl
theorem PY:Af Tryz.prog BX Rt=some (bare CJ.body,CJ.res,CJ.nt):=by kernel_rfl
theorem Rj:Af Tryz.prog A4 S9=some (bare C9.body,C9.res,C9.nt):=by kernel_rfl
theorem Rq:Af Tryz.prog f_meet_Only_4 Tz=some (bare Dk.body,Dk.res,Dk.nt):=by kernel_rfl
theorem JQ:Af Tryz.prog Bb s_slices_DeleteFuncZitit=some (bare A8.body,A8.res,A8.nt):=by kernel_rfl
theorem LK:Af Tryz.prog AR Mj=some (bare Bq.body,Bq.res,Bq.nt):=by kernel_rfl
theorem OQ:Af Tryz.prog B8 PG=some (bare Cl.body,Cl.res,Cl.nt):=by kernel_rfl
theorem Adg:Af Tryz.prog FP Ae7=some (bare Lr.body,Lr.res,Lr.nt):=by kernel_rfl
theorem Rz:Af Tryz.prog f_meet_Only_5 Su=some (bare Di.body,Di.res,Di.nt):=by kernel_rfl
theorem Jm:Af Tryz.prog Ak JM=some (bare AH.body,AH.res,AH.nt):=by kernel_rfl
theorem OB:Af Tryz.prog A3 QI=some (bare Cd.body,Cd.res,Cd.nt):=by kernel_rfl
theorem Ua:Af Tryz.prog D9 VR=some (bare Eh.body,Eh.res,Eh.nt):=by kernel_rfl
theorem Vw:Af Tryz.prog DW Wo=some (bare Fi.body,Fi.res,Fi.nt):=by kernel_rfl
theorem Tr:Af Tryz.prog CR VW=some (bare Ea.body,Ea.res,Ea.nt):=by kernel_rfl
theorem VQ:Af Tryz.prog Fq XU=some (bare Fm.body,Fm.res,Fm.nt):=by kernel_rfl
theorem UZ:Af Tryz.prog DK WU=some (bare Ff.body,Ff.res,Ff.nt):=by kernel_rfl
theorem LL:Af Tryz.prog Cx Ma=some (bare Bl.body,Bl.res,Bl.nt):=by kernel_rfl
theorem T3:Af Tryz.prog Jy Vu=some (bare En.body,En.res,En.nt):=by kernel_rfl
theorem Vr:Af Tryz.prog Ks XI=some (bare E3.body,E3.res,E3.nt):=by kernel_rfl
theorem SW:Af Tryz.prog Ju UO=some (bare D5.body,D5.res,D5.nt):=by kernel_rfl
theorem OU:Af Tryz.prog EB Qb=some (bare B6.body,B6.res,B6.nt):=by kernel_rfl
theorem OV:Af Tryz.prog EF PM=some (bare Ci.body,Ci.res,Ci.nt):=by kernel_rfl
theorem OO:Af Tryz.prog Eu PL=some (bare Ce.body,Ce.res,Ce.nt):=by kernel_rfl
theorem Rc:Af Tryz.prog Hd Tn=some (bare Do.body,Do.res,Do.nt):=by kernel_rfl
theorem Ow:Af Tryz.prog EL PA=some (bare B2.body,B2.res,B2.nt):=by kernel_rfl
theorem WE:Af Tryz.prog HC Aat=some (bare HJ.body,HJ.res,HJ.nt):=by kernel_rfl
theorem V9:Af Tryz.prog Fh Xe=some (bare FJ.body,FJ.res,FJ.nt):=by kernel_rfl
theorem Vd:Af Tryz.prog Fe XP=some (bare Fx.body,Fx.res,Fx.nt):=by kernel_rfl
theorem LM:Af Tryz.prog AC L9=some (bare A7.body,A7.res,A7.nt):=by kernel_rfl
theorem K1:Af Tryz.prog Aw LE=some (bare AK.body,AK.res,AK.nt):=by kernel_rfl
theorem SY:Af Tryz.prog Ej Wb=some (bare Em.body,Em.res,Em.nt):=by kernel_rfl
theorem AaP:Af Tryz.prog JY Acu=some (bare JX.body,JX.res,JX.nt):=by kernel_rfl
theorem Xr:Af Tryz.prog Hv Aa9=some (bare Hw.body,Hw.res,Hw.nt):=by kernel_rfl
theorem Sy:Af Tryz.prog Cr VD=some (bare D0.body,D0.res,D0.nt):=by kernel_rfl
theorem JZ:Af Tryz.prog AB Kp=some (bare AX.body,AX.res,AX.nt):=by kernel_rfl
theorem FX:Af Tryz.prog Au Hc=some (bare Av.body,Av.res,Av.nt):=by kernel_rfl
theorem OM:Af Tryz.prog BO PF=some (bare Cj.body,Cj.res,Cj.nt):=by kernel_rfl
theorem Nt:Af Tryz.prog Bj ON=some (bare BS.body,BS.res,BS.nt):=by kernel_rfl
theorem Jj:Af Tryz.prog Ah JC=some (bare AG.body,AG.res,AG.nt):=by kernel_rfl
theorem X8:Af Tryz.prog FG AaD=some (bare J1.body,J1.res,J1.nt):=by kernel_rfl
theorem S8:Af Tryz.prog D6 UR=some (bare Ei.body,Ei.res,Ei.nt):=by kernel_rfl
theorem Mi:Af Tryz.prog EI MK=some (bare BU.body,BU.res,BU.nt):=by kernel_rfl
theorem KF:Af Tryz.prog C2 Lg=some (bare Bw.body,Bw.res,Bw.nt):=by kernel_rfl
theorem RH:Af Tryz.prog Cu Sz=some (bare Dp.body,Dp.res,Dp.nt):=by kernel_rfl
theorem QX:Af Tryz.prog C6 TT=some (bare C8.body,C8.res,C8.nt):=by kernel_rfl
theorem Vt:Af Tryz.prog DM X1=some (bare FE.body,FE.res,FE.nt):=by kernel_rfl
theorem Abg:Af Tryz.prog FS Ack=some (bare J7.body,J7.res,J7.nt):=by kernel_rfl
theorem HS:Af Tryz.prog Bk Jd=some (bare Az.body,Az.res,Az.nt):=by kernel_rfl
theorem S3:Af Tryz.prog CS s_r01_letter=some (bare Ek.body,Ek.res,Ek.nt):=by kernel_rfl
theorem W9:Af Tryz.prog HB ZS=some (bare HM.body,HM.res,HM.nt):=by kernel_rfl
theorem Kq:Af Tryz.prog AY KN=some (bare AZ.body,AZ.res,AZ.nt):=by kernel_rfl
theorem OJ:Af Tryz.prog Ey P4=some (bare B3.body,B3.res,B3.nt):=by kernel_rfl
theorem Pj:Af Tryz.prog BD RG=some (bare DG.body,DG.res,DG.nt):=by kernel_rfl
theorem OD:Af Tryz.prog Cf Py=some (bare Cm.body,Cm.res,Cm.nt):=by kernel_rfl
theorem OG:Af Tryz.prog CY Qx=some (bare Ck.body,Ck.res,Ck.nt):=by kernel_rfl
theorem F0:Af Tryz.prog AN Hf=some (bare AM.body,AM.res,AM.nt):=by kernel_rfl
theorem Vz:Af Tryz.prog DV Xa=some (bare Ft.body,Ft.res,Ft.nt):=by kernel_rfl
theorem Ov:Af Tryz.prog Ai P0=some (bare B9.body,B9.res,B9.nt):=by kernel_rfl
theorem LJ:Af Tryz.prog BN Mm=some (bare Bp.body,Bp.res,Bp.nt):=by kernel_rfl
theorem Um:Af Tryz.prog CZ s_act_letter=some (bare DZ.body,DZ.res,DZ.nt):=by kernel_rfl
theorem LG:Af Tryz.prog Bs Mf=some (bare Bn.body,Bn.res,Bn.nt):=by kernel_rfl
theorem MT:Af Tryz.prog Db NI=some (bare BH.body,BH.res,BH.nt):=by kernel_rfl
theorem ME:Af Tryz.prog Dm NC=some (bare BF.body,BF.res,BF.nt):=by kernel_rfl
theorem RA:Af Tryz.prog Cv TG=some (bare Dg.body,Dg.res,Dg.nt):=by kernel_rfl
theorem Nl:Af Tryz.prog Dc NB=some (bare BJ.body,BJ.res,BJ.nt):=by kernel_rfl
theorem MG:Af Tryz.prog Df N5=some (bare BG.body,BG.res,BG.nt):=by kernel_rfl
theorem NV:Af Tryz.prog CD OK=some (bare BT.body,BT.res,BT.nt):=by kernel_rfl
theorem DP:Af Tryz.prog Bc Er=some (bare Aq.body,Aq.res,Aq.nt):=by kernel_rfl
theorem FR:Af Tryz.prog By FZ=some (bare AD.body,AD.res,AD.nt):=by kernel_rfl
theorem DO:Af Tryz.prog Bd Eo=some (bare Ar.body,Ar.res,Ar.nt):=by kernel_rfl
theorem EQ:Af Tryz.prog AP ET=some (bare Al.body,Al.res,Al.nt):=by kernel_rfl
theorem Et:Af Tryz.prog Bg EG=some (bare As.body,As.res,As.nt):=by kernel_rfl
theorem CE:Af Tryz.prog AL CL=some (bare Aj.body,Aj.res,Aj.nt):=by kernel_rfl
theorem DE:Af Tryz.prog A6 DT=some (bare An.body,An.res,An.nt):=by kernel_rfl
theorem E9:Af Tryz.prog Bv FV=some (bare Ay.body,Ay.res,Ay.nt):=by kernel_rfl
theorem U9:Af Tryz.prog Fz XY=some (bare FB.body,FB.res,FB.nt):=by kernel_rfl
theorem OH:Af Tryz.prog Ca Qh=some (bare CU.body,CU.res,CU.nt):=by kernel_rfl
theorem JT:Af Tryz.prog Bz Ko=some (bare AW.body,AW.res,AW.nt):=by kernel_rfl
theorem Jf:Af Tryz.prog B0 JH=some (bare A0.body,A0.res,A0.nt):=by kernel_rfl
theorem FQ:Af Tryz.prog A5 F9=some (bare AE.body,AE.res,AE.nt):=by kernel_rfl
theorem Dz:Af Tryz.prog Ap DX=some (bare Ao.body,Ao.res,Ao.nt):=by kernel_rfl
theorem Hb:Af Tryz.prog Bh H4=some (bare AQ.body,AQ.res,AQ.nt):=by kernel_rfl
theorem Hr:Af Tryz.prog AS HO=some (bare AU.body,AU.res,AU.nt):=by kernel_rfl
theorem good:AiE Tryz.prog G:=by
 intro f F h;unfold G at h;split at h
 ·cases h;exact ⟨_,ok_w07_MeetOnly⟩
 ·cases h;exact ⟨_,UN⟩
 ·cases h;exact ⟨_,Uy⟩
 ·cases h;exact ⟨_,Xt⟩
 ·cases h;exact ⟨_,VN⟩
 ·cases h;exact ⟨_,Yh⟩
 ·cases h;exact ⟨_,UH⟩
 ·cases h;exact ⟨_,WT⟩
 ·cases h;exact ⟨_,Wr⟩
 ·cases h;exact ⟨_,Ad3⟩
 ·cases h;exact ⟨_,Xs⟩
 ·cases h;exact ⟨_,Vb⟩
 ·cases h;exact ⟨_,UA⟩
 ·cases h;exact ⟨_,Aah⟩
 ·cases h;exact ⟨_,Wm⟩
 ·cases h;exact ⟨_,Qv⟩
 ·cases h;exact ⟨_,MQ⟩
 ·cases h;exact ⟨_,U2⟩
 ·cases h;exact ⟨_,T7⟩
 ·cases h;exact ⟨_,Xd⟩
 ·cases h;exact ⟨_,Tp⟩
 ·cases h;exact ⟨_,AbJ⟩
 ·cases h;exact ⟨_,W6⟩
 ·cases h;exact ⟨_,Uq⟩
 ·cases h;exact ⟨_,Wn⟩
 ·cases h;exact ⟨_,RK⟩
 ·cases h;exact ⟨_,UG⟩
 ·cases h;exact ⟨_,Ye⟩
 ·cases h;exact ⟨_,Rb⟩
 ·cases h;exact ⟨_,X2⟩
 ·cases h;exact ⟨_,AcD⟩
 ·cases h;exact ⟨_,Zl⟩
 ·cases h;exact ⟨_,Q6⟩
 ·cases h;exact ⟨_,Qs⟩
 ·cases h;exact ⟨_,QZ⟩
 ·cases h;exact ⟨_,Vn⟩
 ·cases h;exact ⟨_,UK⟩
 ·cases h;exact ⟨_,Tc⟩
 ·cases h;exact ⟨_,HQ⟩
 ·cases h;exact ⟨_,Rx⟩
 ·cases h;exact ⟨_,Ro⟩
 ·cases h;exact ⟨_,Ru⟩
 ·cases h;exact ⟨_,PY⟩
 ·cases h;exact ⟨_,Rj⟩
 ·cases h;exact ⟨_,Rq⟩
 ·cases h;exact ⟨_,JQ⟩
 ·cases h;exact ⟨_,LK⟩
 ·cases h;exact ⟨_,OQ⟩
 ·cases h;exact ⟨_,Adg⟩
 ·cases h;exact ⟨_,Rz⟩
 ·cases h;exact ⟨_,Jm⟩
 ·cases h;exact ⟨_,OB⟩
 ·cases h;exact ⟨_,Ua⟩
 ·cases h;exact ⟨_,Vw⟩
 ·cases h;exact ⟨_,Tr⟩
 ·cases h;exact ⟨_,VQ⟩
 ·cases h;exact ⟨_,UZ⟩
 ·cases h;exact ⟨_,LL⟩
 ·cases h;exact ⟨_,T3⟩
 ·cases h;exact ⟨_,Vr⟩
 ·cases h;exact ⟨_,SW⟩
 ·cases h;exact ⟨_,OU⟩
 ·cases h;exact ⟨_,OV⟩
 ·cases h;exact ⟨_,OO⟩
 ·cases h;exact ⟨_,Rc⟩
 ·cases h;exact ⟨_,Ow⟩
 ·cases h;exact ⟨_,WE⟩
 ·cases h;exact ⟨_,V9⟩
 ·cases h;exact ⟨_,Vd⟩
 ·cases h;exact ⟨_,LM⟩
 ·cases h;exact ⟨_,K1⟩
 ·cases h;exact ⟨_,SY⟩
 ·cases h;exact ⟨_,AaP⟩
 ·cases h;exact ⟨_,Xr⟩
 ·cases h;exact ⟨_,Sy⟩
 ·cases h;exact ⟨_,JZ⟩
 ·cases h;exact ⟨_,FX⟩
 ·cases h;exact ⟨_,OM⟩
 ·cases h;exact ⟨_,Nt⟩
 ·cases h;exact ⟨_,Jj⟩
 ·cases h;exact ⟨_,X8⟩
 ·cases h;exact ⟨_,S8⟩
 ·cases h;exact ⟨_,Mi⟩
 ·cases h;exact ⟨_,KF⟩
 ·cases h;exact ⟨_,RH⟩
 ·cases h;exact ⟨_,QX⟩
 ·cases h;exact ⟨_,Vt⟩
 ·cases h;exact ⟨_,Abg⟩
 ·cases h;exact ⟨_,HS⟩
 ·cases h;exact ⟨_,S3⟩
 ·cases h;exact ⟨_,W9⟩
 ·cases h;exact ⟨_,Kq⟩
 ·cases h;exact ⟨_,OJ⟩
 ·cases h;exact ⟨_,Pj⟩
 ·cases h;exact ⟨_,OD⟩
 ·cases h;exact ⟨_,OG⟩
 ·cases h;exact ⟨_,F0⟩
 ·cases h;exact ⟨_,Vz⟩
 ·cases h;exact ⟨_,Ov⟩
 ·cases h;exact ⟨_,LJ⟩
 ·cases h;exact ⟨_,Um⟩
 ·cases h;exact ⟨_,LG⟩
 ·cases h;exact ⟨_,MT⟩
 ·cases h;exact ⟨_,ME⟩
 ·cases h;exact ⟨_,RA⟩
 ·cases h;exact ⟨_,Nl⟩
 ·cases h;exact ⟨_,MG⟩
 ·cases h;exact ⟨_,NV⟩
 ·cases h;exact ⟨_,DP⟩
 ·cases h;exact ⟨_,FR⟩
 ·cases h;exact ⟨_,DO⟩
 ·cases h;exact ⟨_,EQ⟩
 ·cases h;exact ⟨_,Et⟩
 ·cases h;exact ⟨_,CE⟩
 ·cases h;exact ⟨_,DE⟩
 ·cases h;exact ⟨_,E9⟩
 ·cases h;exact ⟨_,U9⟩
 ·cases h;exact ⟨_,OH⟩
 ·cases h;exact ⟨_,JT⟩
 ·cases h;exact ⟨_,Jf⟩
 ·cases h;exact ⟨_,FQ⟩
 ·cases h;exact ⟨_,Dz⟩
 ·cases h;exact ⟨_,Hb⟩
 ·cases h;exact ⟨_,Hr⟩
 ·cases h
end Go.Mw
