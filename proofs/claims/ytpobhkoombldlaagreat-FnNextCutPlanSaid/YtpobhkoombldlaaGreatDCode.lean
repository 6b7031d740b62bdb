/- The functions of this seat,compiled for the abstract semantics. Printed by a program of the prover's. -/
import Derived.Test.YtpobhkoombldlaaGreatDCodeA
set_option maxRecDepth 20000
namespace Go.Proofs.YtpobhkoombldlaaGreat
open Go Go.Abs Go.Abs.Q
noncomputable section
abbrev Zca:D:=(.agg [(.int .i64 0),(.int .i64 0),(.bool false),(.int .i64 0),(.int .i64 0)])
def tbl:List (Nat×Go.Abs.Fn):=[(Zat,.text Z6),(VI,.text ZZ),(VJ,.text QI),(Zau,.text Ym),(Z1,.text ZA),(Xa,.text Zav),(Yd,.text Yn),(Wv,.text Zic),(YB,.text Xi),(WN,.text Jc),(U5,.text VS),(V4,.text Zaw),(V5,.text Zax),(YC,.text Uk),(YU,.text Jd),(VK,.text VT),(XK,.text Je),(WO,.text VU),(Ye,.text Yo),(YM,.text Zcf),(Xp,.text QX),(WY,.text QY),(ZbC,.text ZeI),(YV,.text Yp),(V6,.text Ux),(ZbD,.text WR),(Up,.text Zy),(ZB,.text QE),(Xb,.text Jf),(JE,.text Zcg),(ZG,.text Zw),(V7,.text XB),(XL,.text Zm),(Ww,.text WD),(Y9,.text Jg),(Xc,.text Vi),(Ys,.text Vj),(ZbE,.text VV),(ZbF,.text ZeJ),(Uq,.text Zay),(Xx,.text Zaz),(Zdy,.text Vk),(U6,.text ZeK),(YW,.text ZaA),(Xy,.text ZaB),(U7,.text VX),(Vx,.text Xj),(Xd,.text QS),(VL,.text ZeL),(QQ,.text WE),(Yf,.text Xe),(YX,.text ZaC),(Yg,.text JX),(YN,.text Zch),(ZQ,.text ZeM),(JF,.text Zci),(X9,.prim (Zqc 5 40)),(WP,.text Jh),(VM,.text W8),(YY,.text We),(ZbG,.text ZeN),(JG,.text Zcj),(WZ,.text XQ),(U8,.text Ji),(Va,.text Vl),(JH,.text XR),(Vb,.text XS),(Vc,.text Vm),(QR,.text Jj),(Vd,.text Jk),(JI,.text Zck),(XM,.text Qh),(YZ,.text XC),(JJ,.text XT),(Wx,.text Jl),(Yh,.text ZaD),(VN,.text Zcl),(Ur,.text Xf),(Xq,.text Yu),(YD,.text Ul),(XN,.text Jm),(Us,.text ZaE),(Xz,.text ZaF),(XO,.text Jn),(Qe,.text Qx),(Qz,.text Z4),(V8,.text Uy),(Yi,.text Zcm),(V9,.text XD),(Wy,.text Jo),(Ut,.text Wf),(JK,.text Zcn),(VO,.text Z5),(Wa,.text W9),(VQ,.text Jp),(JL,.text QZ),(U9,.text ZeO),(Ve,.text Yv),(JM,.text Qi),(Zdz,.text ZgG),(W0,.text XU),(JN,.text Zco),(Vf,.text Jq),(Yj,.text ZaG),(Uu,.text ZaH),(Uv,.text ZaI),(W1,.text VY),(XA,.text ZaJ),(W3,.text Zcp),(Wb,.text ZaK),(ZdA,.text ZgH),(JO,.text QA),(WQ,.text VZ),(JP,.text Zcq),(ZdB,.text ZgI),(Wz,.text WF),(Q6,.text X4),(Vg,.text Jr),(Ja,.text ZeP),(ZdC,.text ZdG),(ZeH,.text ZeQ),(Yk,.text ZM),(Zf5,.text Zid),(Yl,.text XV),(WA,.text Js),(JQ,.text Zcr),(Yt,.text Zs),(YE,.text YF),(Z8,.prim (Zl4 5 40 Zca)),(W4,.text Zcs),(JR,.text Zct),(JS,.text Zcu),(JT,.text Zcv),(JU,.text XW),(JV,.text Zcw),(ZdD,.text Zie),(Wc,.text Xg),(W5,.text Zcx),(Wd,.text ZaL),(W6,.text Zcy),(Jb,.text Zbw),(ZbH,.text ZeR),(W7,.text Zbx),(JW,.text Zcz),(WB,.text Jt),(ZdE,.text ZgJ),(ZdF,.text ZgK),(Uw,.text ZaM),(VR,.text ZO),(XP,.text Qd),(Vh,.text Vn),(WC,.text Ju)]
def Xs:Fns:=fun f=>lkp tbl f
def Ms:Zu:=fun f i=>(f==Qz&&i==0) || (f==Z8&&i==0)
theorem V3:Xs Zat=some (.text Z6):=rfl
@[go_sem] theorem ZBc (i:Nat):Ms Zat i=false:=rfl
theorem VF:Xs VI=some (.text ZZ):=rfl
@[go_sem] theorem Zyy (i:Nat):Ms VI i=false:=rfl
theorem Zcb:Xs VJ=some (.text QI):=rfl
@[go_sem] theorem Zyz (i:Nat):Ms VJ i=false:=rfl
theorem Zhy:Xs Zau=some (.text Ym):=rfl
@[go_sem] theorem ZBd (i:Nat):Ms Zau i=false:=rfl
theorem QC:Xs Z1=some (.text ZA):=rfl
@[go_sem] theorem ZAG (i:Nat):Ms Z1 i=false:=rfl
theorem Zsd:Xs Xa=some (.text Zav):=rfl
@[go_sem] theorem ZBe (i:Nat):Ms Xa i=false:=rfl
theorem Zse:Xs Yd=some (.text Yn):=rfl
@[go_sem] theorem ZBf (i:Nat):Ms Yd i=false:=rfl
theorem ZzA:Xs Wv=some (.text Zic):=rfl
@[go_sem] theorem m_l_count (i:Nat):Ms Wv i=false:=rfl
theorem Ze6:Xs YB=some (.text Xi):=rfl
@[go_sem] theorem ZzF (i:Nat):Ms YB i=false:=rfl
theorem ZoA:Xs WN=some (.text Jc):=rfl
@[go_sem] theorem ZE4 (i:Nat):Ms WN i=false:=rfl
theorem Zj2:Xs U5=some (.text VS):=rfl
@[go_sem] theorem ZE5 (i:Nat):Ms U5 i=false:=rfl
theorem Zsf:Xs V4=some (.text Zaw):=rfl
@[go_sem] theorem ZBg (i:Nat):Ms V4 i=false:=rfl
theorem Zsg:Xs V5=some (.text Zax):=rfl
@[go_sem] theorem ZBh (i:Nat):Ms V5 i=false:=rfl
theorem Zpb:Xs YC=some (.text Uk):=rfl
@[go_sem] theorem ZzG (i:Nat):Ms YC i=false:=rfl
theorem ZoB:Xs YU=some (.text Jd):=rfl
@[go_sem] theorem ZE6 (i:Nat):Ms YU i=false:=rfl
theorem Zj3:Xs VK=some (.text VT):=rfl
@[go_sem] theorem ZE7 (i:Nat):Ms VK i=false:=rfl
theorem Zrl:Xs XK=some (.text Je):=rfl
@[go_sem] theorem ZAH (i:Nat):Ms XK i=false:=rfl
theorem Zj4:Xs WO=some (.text VU):=rfl
@[go_sem] theorem ZE8 (i:Nat):Ms WO i=false:=rfl
theorem Zhz:Xs Ye=some (.text Yo):=rfl
@[go_sem] theorem ZBi (i:Nat):Ms Ye i=false:=rfl
theorem ZuA:Xs YM=some (.text Zcf):=rfl
@[go_sem] theorem ZCw (i:Nat):Ms YM i=false:=rfl
theorem Zdx:Xs Xp=some (.text QX):=rfl
@[go_sem] theorem ZzB (i:Nat):Ms Xp i=false:=rfl
theorem Zcc:Xs WY=some (.text QY):=rfl
@[go_sem] theorem ZCx (i:Nat):Ms WY i=false:=rfl
theorem Zwr:Xs ZbC=some (.text ZeI):=rfl
@[go_sem] theorem ZE9 (i:Nat):Ms ZbC i=false:=rfl
theorem ZhA:Xs YV=some (.text Yp):=rfl
@[go_sem] theorem ZBj (i:Nat):Ms YV i=false:=rfl
theorem Zsh:Xs V6=some (.text Ux):=rfl
@[go_sem] theorem ZBk (i:Nat):Ms V6 i=false:=rfl
theorem Zws:Xs ZbD=some (.text WR):=rfl
@[go_sem] theorem ZFa (i:Nat):Ms ZbD i=false:=rfl
theorem Zsi:Xs Up=some (.text Zy):=rfl
@[go_sem] theorem ZBl (i:Nat):Ms Up i=false:=rfl
theorem ZaV:Xs ZB=some (.text QE):=rfl
@[go_sem] theorem ZzH (i:Nat):Ms ZB i=false:=rfl
theorem Zrm:Xs Xb=some (.text Jf):=rfl
@[go_sem] theorem ZAI (i:Nat):Ms Xb i=false:=rfl
theorem ZuB:Xs JE=some (.text Zcg):=rfl
@[go_sem] theorem ZCy (i:Nat):Ms JE i=false:=rfl
theorem Qr:Xs ZG=some (.text Zw):=rfl
@[go_sem] theorem ZAJ (i:Nat):Ms ZG i=false:=rfl
theorem Zsj:Xs V7=some (.text XB):=rfl
@[go_sem] theorem ZBm (i:Nat):Ms V7 i=false:=rfl
theorem ZT:Xs XL=some (.text Zm):=rfl
@[go_sem] theorem ZAK (i:Nat):Ms XL i=false:=rfl
theorem Zrn:Xs Ww=some (.text WD):=rfl
@[go_sem] theorem ZAL (i:Nat):Ms Ww i=false:=rfl
theorem Zro:Xs Y9=some (.text Jg):=rfl
@[go_sem] theorem ZAM (i:Nat):Ms Y9 i=false:=rfl
theorem Zj5:Xs Xc=some (.text Vi):=rfl
@[go_sem] theorem ZAN (i:Nat):Ms Xc i=false:=rfl
theorem Zj6:Xs Ys=some (.text Vj):=rfl
@[go_sem] theorem ZAO (i:Nat):Ms Ys i=false:=rfl
theorem Zwt:Xs ZbE=some (.text VV):=rfl
@[go_sem] theorem ZFb (i:Nat):Ms ZbE i=false:=rfl
theorem Zwu:Xs ZbF=some (.text ZeJ):=rfl
@[go_sem] theorem ZFc (i:Nat):Ms ZbF i=false:=rfl
theorem Zsk:Xs Uq=some (.text Zay):=rfl
@[go_sem] theorem ZBn (i:Nat):Ms Uq i=false:=rfl
theorem Zsl:Xs Xx=some (.text Zaz):=rfl
@[go_sem] theorem ZBo (i:Nat):Ms Xx i=false:=rfl
theorem ZiR:Xs Zdy=some (.text Vk):=rfl
@[go_sem] theorem ZF3 (i:Nat):Ms Zdy i=false:=rfl
theorem Zwv:Xs U6=some (.text ZeK):=rfl
@[go_sem] theorem ZFd (i:Nat):Ms U6 i=false:=rfl
theorem Zsm:Xs YW=some (.text ZaA):=rfl
@[go_sem] theorem ZBp (i:Nat):Ms YW i=false:=rfl
theorem Zsn:Xs Xy=some (.text ZaB):=rfl
@[go_sem] theorem ZBq (i:Nat):Ms Xy i=false:=rfl
theorem Zj7:Xs U7=some (.text VX):=rfl
@[go_sem] theorem ZFe (i:Nat):Ms U7 i=false:=rfl
theorem Ze7:Xs Vx=some (.text Xj):=rfl
@[go_sem] theorem ZzI (i:Nat):Ms Vx i=false:=rfl
theorem Zcd:Xs Xd=some (.text QS):=rfl
@[go_sem] theorem ZAP (i:Nat):Ms Xd i=false:=rfl
theorem Zww:Xs VL=some (.text ZeL):=rfl
@[go_sem] theorem ZFf (i:Nat):Ms VL i=false:=rfl
theorem Zrp:Xs QQ=some (.text WE):=rfl
@[go_sem] theorem ZAQ (i:Nat):Ms QQ i=false:=rfl
theorem ZdR:Xs Yf=some (.text Xe):=rfl
@[go_sem] theorem ZBr (i:Nat):Ms Yf i=false:=rfl
theorem Zso:Xs YX=some (.text ZaC):=rfl
@[go_sem] theorem ZBs (i:Nat):Ms YX i=false:=rfl
theorem ZuC:Xs Yg=some (.text JX):=rfl
@[go_sem] theorem ZCz (i:Nat):Ms Yg i=false:=rfl
theorem ZuD:Xs YN=some (.text Zch):=rfl
@[go_sem] theorem ZCA (i:Nat):Ms YN i=false:=rfl
theorem Zwx:Xs ZQ=some (.text ZeM):=rfl
@[go_sem] theorem ZFg (i:Nat):Ms ZQ i=false:=rfl
theorem ZuE:Xs JF=some (.text Zci):=rfl
@[go_sem] theorem ZCB (i:Nat):Ms JF i=false:=rfl
theorem ZnX:Xs X9=some (.prim (Zqc 5 40)):=rfl
@[go_sem] theorem ZzC (i:Nat):Ms X9 i=false:=rfl
theorem ZoC:Xs WP=some (.text Jh):=rfl
@[go_sem] theorem ZFh (i:Nat):Ms WP i=false:=rfl
theorem Zm5:Xs VM=some (.text W8):=rfl
@[go_sem] theorem ZCC (i:Nat):Ms VM i=false:=rfl
theorem Zlh:Xs YY=some (.text We):=rfl
@[go_sem] theorem ZBt (i:Nat):Ms YY i=false:=rfl
theorem Zwy:Xs ZbG=some (.text ZeN):=rfl
@[go_sem] theorem ZFi (i:Nat):Ms ZbG i=false:=rfl
theorem ZuF:Xs JG=some (.text Zcj):=rfl
@[go_sem] theorem ZCD (i:Nat):Ms JG i=false:=rfl
theorem Zfw:Xs WZ=some (.text XQ):=rfl
@[go_sem] theorem ZCE (i:Nat):Ms WZ i=false:=rfl
theorem ZoD:Xs U8=some (.text Ji):=rfl
@[go_sem] theorem ZFj (i:Nat):Ms U8 i=false:=rfl
theorem Zj8:Xs Va=some (.text Vl):=rfl
@[go_sem] theorem ZAR (i:Nat):Ms Va i=false:=rfl
theorem Zfx:Xs JH=some (.text XR):=rfl
@[go_sem] theorem ZCF (i:Nat):Ms JH i=false:=rfl
theorem ZgF:Xs Vb=some (.text XS):=rfl
@[go_sem] theorem ZAS (i:Nat):Ms Vb i=false:=rfl
theorem Zj9:Xs Vc=some (.text Vm):=rfl
@[go_sem] theorem ZAT (i:Nat):Ms Vc i=false:=rfl
theorem Zrq:Xs QR=some (.text Jj):=rfl
@[go_sem] theorem ZAU (i:Nat):Ms QR i=false:=rfl
theorem Zrr:Xs Vd=some (.text Jk):=rfl
@[go_sem] theorem ZAV (i:Nat):Ms Vd i=false:=rfl
theorem ZuG:Xs JI=some (.text Zck):=rfl
@[go_sem] theorem ZCG (i:Nat):Ms JI i=false:=rfl
theorem U3:Xs XM=some (.text Qh):=rfl
@[go_sem] theorem ZAW (i:Nat):Ms XM i=false:=rfl
theorem ZhB:Xs YZ=some (.text XC):=rfl
@[go_sem] theorem ZBu (i:Nat):Ms YZ i=false:=rfl
theorem Zfy:Xs JJ=some (.text XT):=rfl
@[go_sem] theorem ZCH (i:Nat):Ms JJ i=false:=rfl
theorem Zrs:Xs Wx=some (.text Jl):=rfl
@[go_sem] theorem ZAX (i:Nat):Ms Wx i=false:=rfl
theorem Zsp:Xs Yh=some (.text ZaD):=rfl
@[go_sem] theorem ZBv (i:Nat):Ms Yh i=false:=rfl
theorem ZuH:Xs VN=some (.text Zcl):=rfl
@[go_sem] theorem ZCI (i:Nat):Ms VN i=false:=rfl
theorem ZdS:Xs Ur=some (.text Xf):=rfl
@[go_sem] theorem ZBw (i:Nat):Ms Ur i=false:=rfl
theorem Zka:Xs Xq=some (.text Yu):=rfl
@[go_sem] theorem Zwz (i:Nat):Ms Xq i=false:=rfl
theorem Zpc:Xs YD=some (.text Ul):=rfl
@[go_sem] theorem ZzJ (i:Nat):Ms YD i=false:=rfl
theorem Zrt:Xs XN=some (.text Jm):=rfl
@[go_sem] theorem ZAY (i:Nat):Ms XN i=false:=rfl
theorem Zsq:Xs Us=some (.text ZaE):=rfl
@[go_sem] theorem ZBx (i:Nat):Ms Us i=false:=rfl
theorem Zsr:Xs Xz=some (.text ZaF):=rfl
@[go_sem] theorem ZBy (i:Nat):Ms Xz i=false:=rfl
theorem Zru:Xs XO=some (.text Jn):=rfl
@[go_sem] theorem ZAZ (i:Nat):Ms XO i=false:=rfl
theorem U4:Xs Qe=some (.text Qx):=rfl
@[go_sem] theorem ZFk (i:Nat):Ms Qe i=false:=rfl
theorem VG:Xs Qz=some (.text Z4):=rfl
@[go_sem] theorem ZBz:Ms Qz 0=true:=rfl
@[go_sem] theorem ZBA:Ms Qz 1=false:=rfl
@[go_sem] theorem ZBB:Ms Qz 2=false:=rfl
@[go_sem] theorem ZBC:Ms Qz 3=false:=rfl
@[go_sem] theorem ZBD:Ms Qz 4=false:=rfl
@[go_sem] theorem ZBE:Ms Qz 5=false:=rfl
theorem Zss:Xs V8=some (.text Uy):=rfl
@[go_sem] theorem ZBF (i:Nat):Ms V8 i=false:=rfl
theorem ZuI:Xs Yi=some (.text Zcm):=rfl
@[go_sem] theorem ZCJ (i:Nat):Ms Yi i=false:=rfl
theorem ZhC:Xs V9=some (.text XD):=rfl
@[go_sem] theorem ZBG (i:Nat):Ms V9 i=false:=rfl
theorem Zrv:Xs Wy=some (.text Jo):=rfl
@[go_sem] theorem ZA0 (i:Nat):Ms Wy i=false:=rfl
theorem Zli:Xs Ut=some (.text Wf):=rfl
@[go_sem] theorem ZBH (i:Nat):Ms Ut i=false:=rfl
theorem ZuJ:Xs JK=some (.text Zcn):=rfl
@[go_sem] theorem ZCK (i:Nat):Ms JK i=false:=rfl
theorem VH:Xs VO=some (.text Z5):=rfl
@[go_sem] theorem ZCL (i:Nat):Ms VO i=false:=rfl
theorem Zrw:Xs Wa=some (.text W9):=rfl
@[go_sem] theorem ZF4 (i:Nat):Ms Wa i=false:=rfl
theorem ZoE:Xs VQ=some (.text Jp):=rfl
@[go_sem] theorem ZFl (i:Nat):Ms VQ i=false:=rfl
theorem Zce:Xs JL=some (.text QZ):=rfl
@[go_sem] theorem ZCM (i:Nat):Ms JL i=false:=rfl
theorem ZwA:Xs U9=some (.text ZeO):=rfl
@[go_sem] theorem ZFm (i:Nat):Ms U9 i=false:=rfl
theorem Zrx:Xs Ve=some (.text Yv):=rfl
@[go_sem] theorem ZA1 (i:Nat):Ms Ve i=false:=rfl
theorem WW:Xs JM=some (.text Qi):=rfl
@[go_sem] theorem ZCN (i:Nat):Ms JM i=false:=rfl
theorem ZxS:Xs Zdz=some (.text ZgG):=rfl
@[go_sem] theorem ZF5 (i:Nat):Ms Zdz i=false:=rfl
theorem Zfz:Xs W0=some (.text XU):=rfl
@[go_sem] theorem ZCO (i:Nat):Ms W0 i=false:=rfl
theorem ZuK:Xs JN=some (.text Zco):=rfl
@[go_sem] theorem ZCP (i:Nat):Ms JN i=false:=rfl
theorem Zry:Xs Vf=some (.text Jq):=rfl
@[go_sem] theorem ZA2 (i:Nat):Ms Vf i=false:=rfl
theorem Zst:Xs Yj=some (.text ZaG):=rfl
@[go_sem] theorem ZBI (i:Nat):Ms Yj i=false:=rfl
theorem Zsu:Xs Uu=some (.text ZaH):=rfl
@[go_sem] theorem ZBJ (i:Nat):Ms Uu i=false:=rfl
theorem Zsv:Xs Uv=some (.text ZaI):=rfl
@[go_sem] theorem ZBK (i:Nat):Ms Uv i=false:=rfl
theorem ZuL:Xs W1=some (.text VY):=rfl
@[go_sem] theorem ZCQ (i:Nat):Ms W1 i=false:=rfl
theorem Zsw:Xs XA=some (.text ZaJ):=rfl
@[go_sem] theorem ZBL (i:Nat):Ms XA i=false:=rfl
theorem ZuM:Xs W3=some (.text Zcp):=rfl
@[go_sem] theorem ZCR (i:Nat):Ms W3 i=false:=rfl
theorem Zsx:Xs Wb=some (.text ZaK):=rfl
@[go_sem] theorem ZBM (i:Nat):Ms Wb i=false:=rfl
theorem ZxT:Xs ZdA=some (.text ZgH):=rfl
@[go_sem] theorem ZF6 (i:Nat):Ms ZdA i=false:=rfl
theorem JD:Xs JO=some (.text QA):=rfl
@[go_sem] theorem ZCS (i:Nat):Ms JO i=false:=rfl
theorem Zkb:Xs WQ=some (.text VZ):=rfl
@[go_sem] theorem ZFn (i:Nat):Ms WQ i=false:=rfl
theorem ZuN:Xs JP=some (.text Zcq):=rfl
@[go_sem] theorem ZCT (i:Nat):Ms JP i=false:=rfl
theorem ZxU:Xs ZdB=some (.text ZgI):=rfl
@[go_sem] theorem ZF7 (i:Nat):Ms ZdB i=false:=rfl
theorem Zrz:Xs Wz=some (.text WF):=rfl
@[go_sem] theorem ZA3 (i:Nat):Ms Wz i=false:=rfl
theorem Zjd:Xs Q6=some (.text X4):=rfl
@[go_sem] theorem ZuX (i:Nat):Ms Q6 i=false:=rfl
theorem ZrA:Xs Vg=some (.text Jr):=rfl
@[go_sem] theorem ZA4 (i:Nat):Ms Vg i=false:=rfl
theorem ZwB:Xs Ja=some (.text ZeP):=rfl
@[go_sem] theorem ZFo (i:Nat):Ms Ja i=false:=rfl
theorem ZtH:Xs ZdC=some (.text ZdG):=rfl
@[go_sem] theorem m_s_edges (i:Nat):Ms ZdC i=false:=rfl
theorem ZwC:Xs ZeH=some (.text ZeQ):=rfl
@[go_sem] theorem m_s_part (i:Nat):Ms ZeH i=false:=rfl
theorem Xw:Xs Yk=some (.text ZM):=rfl
@[go_sem] theorem ZBN (i:Nat):Ms Yk i=false:=rfl
theorem ZzD:Xs Zf5=some (.text Zid):=rfl
@[go_sem] theorem m_i_isCut (i:Nat):Ms Zf5 i=false:=rfl
theorem ZfA:Xs Yl=some (.text XV):=rfl
@[go_sem] theorem ZCU (i:Nat):Ms Yl i=false:=rfl
theorem ZrB:Xs WA=some (.text Js):=rfl
@[go_sem] theorem ZA5 (i:Nat):Ms WA i=false:=rfl
theorem ZuO:Xs JQ=some (.text Zcr):=rfl
@[go_sem] theorem ZCV (i:Nat):Ms JQ i=false:=rfl
theorem QD:Xs Yt=some (.text Zs):=rfl
@[go_sem] theorem ZA6 (i:Nat):Ms Yt i=false:=rfl
theorem Zi8:Xs YE=some (.text YF):=rfl
@[go_sem] theorem ZzK (i:Nat):Ms YE i=false:=rfl
theorem Zm6:Xs Z8=some (.prim (Zl4 5 40 Zca)):=rfl
@[go_sem] theorem ZxV:Ms Z8 0=true:=rfl
@[go_sem] theorem ZxW:Ms Z8 1=false:=rfl
@[go_sem] theorem ZxX:Ms Z8 2=false:=rfl
@[go_sem] theorem ZxY:Ms Z8 3=false:=rfl
@[go_sem] theorem ZxZ:Ms Z8 4=false:=rfl
@[go_sem] theorem Zx0:Ms Z8 5=false:=rfl
theorem ZuP:Xs W4=some (.text Zcs):=rfl
@[go_sem] theorem ZCW (i:Nat):Ms W4 i=false:=rfl
theorem ZuQ:Xs JR=some (.text Zct):=rfl
@[go_sem] theorem ZCX (i:Nat):Ms JR i=false:=rfl
theorem ZuR:Xs JS=some (.text Zcu):=rfl
@[go_sem] theorem ZCY (i:Nat):Ms JS i=false:=rfl
theorem ZuS:Xs JT=some (.text Zcv):=rfl
@[go_sem] theorem ZCZ (i:Nat):Ms JT i=false:=rfl
theorem ZfB:Xs JU=some (.text XW):=rfl
@[go_sem] theorem ZC0 (i:Nat):Ms JU i=false:=rfl
theorem ZuT:Xs JV=some (.text Zcw):=rfl
@[go_sem] theorem ZC1 (i:Nat):Ms JV i=false:=rfl
theorem ZzE:Xs ZdD=some (.text Zie):=rfl
@[go_sem] theorem m_s_isCut (i:Nat):Ms ZdD i=false:=rfl
theorem ZdT:Xs Wc=some (.text Xg):=rfl
@[go_sem] theorem ZBO (i:Nat):Ms Wc i=false:=rfl
theorem ZuU:Xs W5=some (.text Zcx):=rfl
@[go_sem] theorem ZC2 (i:Nat):Ms W5 i=false:=rfl
theorem Zsy:Xs Wd=some (.text ZaL):=rfl
@[go_sem] theorem ZBP (i:Nat):Ms Wd i=false:=rfl
theorem ZuV:Xs W6=some (.text Zcy):=rfl
@[go_sem] theorem ZC3 (i:Nat):Ms W6 i=false:=rfl
theorem ZrC:Xs Jb=some (.text Zbw):=rfl
@[go_sem] theorem ZF8 (i:Nat):Ms Jb i=false:=rfl
theorem ZwD:Xs ZbH=some (.text ZeR):=rfl
@[go_sem] theorem ZFp (i:Nat):Ms ZbH i=false:=rfl
theorem ZrD:Xs W7=some (.text Zbx):=rfl
@[go_sem] theorem ZF9 (i:Nat):Ms W7 i=false:=rfl
theorem ZuW:Xs JW=some (.text Zcz):=rfl
@[go_sem] theorem ZC4 (i:Nat):Ms JW i=false:=rfl
theorem ZrE:Xs WB=some (.text Jt):=rfl
@[go_sem] theorem ZA7 (i:Nat):Ms WB i=false:=rfl
theorem Zx1:Xs ZdE=some (.text ZgJ):=rfl
@[go_sem] theorem ZGa (i:Nat):Ms ZdE i=false:=rfl
theorem Zx2:Xs ZdF=some (.text ZgK):=rfl
@[go_sem] theorem ZGb (i:Nat):Ms ZdF i=false:=rfl
theorem Zsz:Xs Uw=some (.text ZaM):=rfl
@[go_sem] theorem ZBQ (i:Nat):Ms Uw i=false:=rfl
theorem XJ:Xs VR=some (.text ZO):=rfl
@[go_sem] theorem ZC5 (i:Nat):Ms VR i=false:=rfl
theorem WX:Xs XP=some (.text Qd):=rfl
@[go_sem] theorem ZC6 (i:Nat):Ms XP i=false:=rfl
theorem ZiS:Xs Vh=some (.text Vn):=rfl
@[go_sem] theorem ZGc (i:Nat):Ms Vh i=false:=rfl
theorem ZrF:Xs WC=some (.text Ju):=rfl
@[go_sem] theorem ZA8 (i:Nat):Ms WC i=false:=rfl
end
end Go.Proofs.YtpobhkoombldlaaGreat
