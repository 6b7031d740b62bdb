/- The functions of this seat,compiled for the abstract semantics. Printed by a program of the prover's. -/
import Derived.Test.YtkdjbefmiiibpaaGreatDoorBCodeA
set_option maxRecDepth 20000
namespace Go.Proofs.YtkdjbefmiiibpaaGreatDoor
open Go Go.Abs Go.Abs.Q
noncomputable section
def tbl:List (Nat×Go.Abs.Fn):=[(Wx,.text Xa),(Yi,.text QQ),(VT,.text X1),(YU,.text Zu),(VH,.text YY),(YC,.text Z5),(Yn,.text Xx),(Wy,.text UX),(YD,.text UY),(Xf,.text Y1),(Ya,.text W7),(Yb,.text W8),(YV,.text W9),(YE,.text Vu),(Jn,.text Zbg),(Wz,.text QZ),(Jo,.text Zbh),(Xr,.text Ua),(WP,.text JC),(QX,.text Vv),(Vc,.text Qn),(Yt,.text Wb),(WQ,.text Xb),(ZaN,.text XB),(YW,.text Ub),(YX,.text Uc),(Vi,.text ZS),(V3,.text Uw),(VU,.text WX),(V4,.text Zx),(Zr,.text QN),(Zaz,.text Q0),(Vq,.text Q1),(V5,.text Yx),(Jp,.text Qg),(VI,.text Ud),(ZF,.prim (Zva TB 5)),(Zn,.prim (ZnL TB 5)),(Z0,.prim (ZnM TB 5)),(XW,.text UZ),(WR,.text Zbi),(YF,.text Qx),(Vd,.text Xo),(Qj,.prim (ZnN)),(XX,.prim (ZnO)),(ZK,.text ZcG),(Yu,.text ZP),(Ve,.text Yy),(Yv,.text Y7),(YG,.text U0),(Z4,.text ZaA),(Jq,.text JD),(Qw,.text Qf),(YH,.text Q2),(Un,.text Qo),(Yo,.text Vw),(YI,.text Zk),(Vf,.text Wc),(ZaO,.text ZcH),(Jr,.text Zbj),(ZaP,.text ZcI),(V6,.text J0),(Uo,.text J1),(UU,.text ZcJ),(WA,.text Vx),(ZaQ,.text VY),(YJ,.text Zs),(Zb4,.text Zg2),(ZO,.prim (Zvd)),(Y6,.text Zv),(VV,.text Zbk),(Yc,.prim (Zve)),(VJ,.text Ue),(XY,.text Ql),(Vg,.text XM),(Js,.text X3),(Up,.text XN),(Jt,.text Zbl),(Uq,.text J2),(XK,.text J3),(XZ,.text U1),(QG,.text YK),(WS,.text Yz),(QM,.text U2),(Ur,.text Z1),(Us,.text J4),(WB,.text U3),(QO,.text Xg),(Qk,.text X4),(Qi,.text XE),(WT,.text VZ),(XL,.text J5),(VX,.text U4),(Yw,.text J6),(WU,.text Zbm),(V7,.text J7),(Zb5,.text ZeF),(Ju,.text QJ),(WJ,.text V0),(Jv,.text Zbn),(Zb6,.text ZeG),(QY,.text U5),(Vr,.text U6),(Jw,.text Zbo),(UV,.text ZcK),(ZdS,.text Zg3),(ZeE,.text Zg4),(V8,.text Wd),(Qz,.text Zy),(Z7,.text ZE),(Z8,.text Xc),(Vs,.text U7),(Jx,.text Zbp),(Jy,.text X5),(Jz,.text Zbq),(V9,.text Xp),(WV,.text Zbr),(Wa,.text J8),(WW,.text Zbs),(Ut,.text J9),(Uu,.text Zaa),(UW,.text ZaB),(ZaR,.text ZcL),(QR,.text X6),(Xw,.text Vy),(QA,.text QB),(ZX,.text ZY),(JA,.text Zbt),(JB,.text Zbu),(Zb7,.text ZeH),(Uv,.text Zab),(X0,.text Qh),(Vt,.text Vz),(WC,.text U8)]
def Xs:Fns:=fun f=>lkp tbl f
def Ms:Zt:=fun _ _=>false
theorem Zb3:Xs Wx=some (.text Xa):=rfl
@[go_sem] theorem Zz2 (i:Nat):Ms Wx i=false:=rfl
theorem ZbD:Xs Yi=some (.text QQ):=rfl
@[go_sem] theorem Zt7 (i:Nat):Ms Yi i=false:=rfl
theorem Zfr:Xs VT=some (.text X1):=rfl
@[go_sem] theorem ZyC (i:Nat):Ms VT i=false:=rfl
theorem Qs:Xs YU=some (.text Zu):=rfl
@[go_sem] theorem Zz6 (i:Nat):Ms YU i=false:=rfl
theorem Zij:Xs VH=some (.text YY):=rfl
@[go_sem] theorem Zz7 (i:Nat):Ms VH i=false:=rfl
theorem Vp:Xs YC=some (.text Z5):=rfl
@[go_sem] theorem ZBI (i:Nat):Ms YC i=false:=rfl
theorem ZeC:Xs Yn=some (.text Xx):=rfl
@[go_sem] theorem ZxB (i:Nat):Ms Yn i=false:=rfl
theorem Zqv:Xs Wy=some (.text UX):=rfl
@[go_sem] theorem ZBJ (i:Nat):Ms Wy i=false:=rfl
theorem Zqw:Xs YD=some (.text UY):=rfl
@[go_sem] theorem ZBK (i:Nat):Ms YD i=false:=rfl
theorem Zj4:Xs Xf=some (.text Y1):=rfl
@[go_sem] theorem Zv1 (i:Nat):Ms Xf i=false:=rfl
theorem Zog:Xs Ya=some (.text W7):=rfl
@[go_sem] theorem Zz8 (i:Nat):Ms Ya i=false:=rfl
theorem Zoh:Xs Yb=some (.text W8):=rfl
@[go_sem] theorem Zz9 (i:Nat):Ms Yb i=false:=rfl
theorem Zoi:Xs YV=some (.text W9):=rfl
@[go_sem] theorem ZAa (i:Nat):Ms YV i=false:=rfl
theorem Zjh:Xs YE=some (.text Vu):=rfl
@[go_sem] theorem ZBL (i:Nat):Ms YE i=false:=rfl
theorem ZtQ:Xs Jn=some (.text Zbg):=rfl
@[go_sem] theorem ZDp (i:Nat):Ms Jn i=false:=rfl
theorem Zbc:Xs Wz=some (.text QZ):=rfl
@[go_sem] theorem ZBM (i:Nat):Ms Wz i=false:=rfl
theorem ZtR:Xs Jo=some (.text Zbh):=rfl
@[go_sem] theorem ZDq (i:Nat):Ms Jo i=false:=rfl
theorem Zoj:Xs Xr=some (.text Ua):=rfl
@[go_sem] theorem ZAb (i:Nat):Ms Xr i=false:=rfl
theorem ZtS:Xs WP=some (.text JC):=rfl
@[go_sem] theorem ZDr (i:Nat):Ms WP i=false:=rfl
theorem Zk3:Xs QX=some (.text Vv):=rfl
@[go_sem] theorem ZxC (i:Nat):Ms QX i=false:=rfl
theorem Ul:Xs Vc=some (.text Qn):=rfl
@[go_sem] theorem ZB9 (i:Nat):Ms Vc i=false:=rfl
theorem Zko:Xs Yt=some (.text Wb):=rfl
@[go_sem] theorem ZCa (i:Nat):Ms Yt i=false:=rfl
theorem ZdJ:Xs WQ=some (.text Xb):=rfl
@[go_sem] theorem ZDs (i:Nat):Ms WQ i=false:=rfl
theorem ZcE:Xs ZaN=some (.text XB):=rfl
@[go_sem] theorem ZFc (i:Nat):Ms ZaN i=false:=rfl
theorem Zok:Xs YW=some (.text Ub):=rfl
@[go_sem] theorem ZAc (i:Nat):Ms YW i=false:=rfl
theorem Zol:Xs YX=some (.text Uc):=rfl
@[go_sem] theorem ZAd (i:Nat):Ms YX i=false:=rfl
theorem Ym:Xs Vi=some (.text ZS):=rfl
@[go_sem] theorem Zz3 (i:Nat):Ms Vi i=false:=rfl
theorem Zrk:Xs V3=some (.text Uw):=rfl
@[go_sem] theorem ZCb (i:Nat):Ms V3 i=false:=rfl
theorem Zmh:Xs VU=some (.text WX):=rfl
@[go_sem] theorem ZDt (i:Nat):Ms VU i=false:=rfl
theorem Zrl:Xs V4=some (.text Zx):=rfl
@[go_sem] theorem ZCc (i:Nat):Ms V4 i=false:=rfl
theorem Zam:Xs Zr=some (.text QN):=rfl
@[go_sem] theorem ZAe (i:Nat):Ms Zr i=false:=rfl
theorem Zay:Xs Zaz=some (.text Q0):=rfl
@[go_sem] theorem ZF1 (i:Nat):Ms Zaz i=false:=rfl
theorem Zbd:Xs Vq=some (.text Q1):=rfl
@[go_sem] theorem ZBN (i:Nat):Ms Vq i=false:=rfl
theorem ZfO:Xs V5=some (.text Yx):=rfl
@[go_sem] theorem ZCd (i:Nat):Ms V5 i=false:=rfl
theorem Jl:Xs Jp=some (.text Qg):=rfl
@[go_sem] theorem ZDu (i:Nat):Ms Jp i=false:=rfl
theorem Zom:Xs VI=some (.text Ud):=rfl
@[go_sem] theorem ZAf (i:Nat):Ms VI i=false:=rfl
theorem ZcF:Xs ZF=some (.prim (Zva TB 5)):=rfl
@[go_sem] theorem ZnY (i:Nat):Ms ZF i=false:=rfl
theorem ZdK:Xs Zn=some (.prim (ZnL TB 5)):=rfl
@[go_sem] theorem ZoD (i:Nat):Ms Zn i=false:=rfl
theorem ZfP:Xs Z0=some (.prim (ZnM TB 5)):=rfl
@[go_sem] theorem Zrm (i:Nat):Ms Z0 i=false:=rfl
theorem Zqx:Xs XW=some (.text UZ):=rfl
@[go_sem] theorem ZBO (i:Nat):Ms XW i=false:=rfl
theorem ZtT:Xs WR=some (.text Zbi):=rfl
@[go_sem] theorem ZDv (i:Nat):Ms WR i=false:=rfl
theorem ZeD:Xs YF=some (.text Qx):=rfl
@[go_sem] theorem ZBP (i:Nat):Ms YF i=false:=rfl
theorem ZfQ:Xs Vd=some (.text Xo):=rfl
@[go_sem] theorem ZCe (i:Nat):Ms Vd i=false:=rfl
theorem Zqy:Xs Qj=some (.prim (ZnN)):=rfl
@[go_sem] theorem ZBQ (i:Nat):Ms Qj i=false:=rfl
theorem Zqz:Xs XX=some (.prim (ZnO)):=rfl
@[go_sem] theorem ZBR (i:Nat):Ms XX i=false:=rfl
theorem ZvU:Xs ZK=some (.text ZcG):=rfl
@[go_sem] theorem ZFd (i:Nat):Ms ZK i=false:=rfl
theorem XT:Xs Yu=some (.text ZP):=rfl
@[go_sem] theorem ZDw (i:Nat):Ms Yu i=false:=rfl
theorem ZfR:Xs Ve=some (.text Yy):=rfl
@[go_sem] theorem ZCf (i:Nat):Ms Ve i=false:=rfl
theorem ZhR:Xs Yv=some (.text Y7):=rfl
@[go_sem] theorem ZDx (i:Nat):Ms Yv i=false:=rfl
theorem ZqA:Xs YG=some (.text U0):=rfl
@[go_sem] theorem ZBS (i:Nat):Ms YG i=false:=rfl
theorem ZqB:Xs Z4=some (.text ZaA):=rfl
@[go_sem] theorem ZF2 (i:Nat):Ms Z4 i=false:=rfl
theorem ZtU:Xs Jq=some (.text JD):=rfl
@[go_sem] theorem ZDy (i:Nat):Ms Jq i=false:=rfl
theorem US:Xs Qw=some (.text Qf):=rfl
@[go_sem] theorem ZqC (i:Nat):Ms Qw i=false:=rfl
theorem Zbe:Xs YH=some (.text Q2):=rfl
@[go_sem] theorem ZBT (i:Nat):Ms YH i=false:=rfl
theorem Um:Xs Un=some (.text Qo):=rfl
@[go_sem] theorem ZCg (i:Nat):Ms Un i=false:=rfl
theorem Zk4:Xs Yo=some (.text Vw):=rfl
@[go_sem] theorem ZxD (i:Nat):Ms Yo i=false:=rfl
theorem ZW:Xs YI=some (.text Zk):=rfl
@[go_sem] theorem ZBU (i:Nat):Ms YI i=false:=rfl
theorem Zkp:Xs Vf=some (.text Wc):=rfl
@[go_sem] theorem ZCh (i:Nat):Ms Vf i=false:=rfl
theorem ZvV:Xs ZaO=some (.text ZcH):=rfl
@[go_sem] theorem ZFe (i:Nat):Ms ZaO i=false:=rfl
theorem ZtV:Xs Jr=some (.text Zbj):=rfl
@[go_sem] theorem ZDz (i:Nat):Ms Jr i=false:=rfl
theorem ZvW:Xs ZaP=some (.text ZcI):=rfl
@[go_sem] theorem ZFf (i:Nat):Ms ZaP i=false:=rfl
theorem Zrn:Xs V6=some (.text J0):=rfl
@[go_sem] theorem ZCi (i:Nat):Ms V6 i=false:=rfl
theorem Zro:Xs Uo=some (.text J1):=rfl
@[go_sem] theorem ZCj (i:Nat):Ms Uo i=false:=rfl
theorem ZvX:Xs UU=some (.text ZcJ):=rfl
@[go_sem] theorem ZFg (i:Nat):Ms UU i=false:=rfl
theorem Zji:Xs WA=some (.text Vx):=rfl
@[go_sem] theorem ZBV (i:Nat):Ms WA i=false:=rfl
theorem ZvY:Xs ZaQ=some (.text VY):=rfl
@[go_sem] theorem ZFh (i:Nat):Ms ZaQ i=false:=rfl
theorem QL:Xs YJ=some (.text Zs):=rfl
@[go_sem] theorem ZBW (i:Nat):Ms YJ i=false:=rfl
theorem Zz4:Xs Zb4=some (.text Zg2):=rfl
@[go_sem] theorem m_s_isCut (i:Nat):Ms Zb4 i=false:=rfl
theorem ZcY:Xs ZO=some (.prim (Zvd)):=rfl
@[go_sem] theorem Zon (i:Nat):Ms ZO i=false:=rfl
theorem Q9:Xs Y6=some (.text Zv):=rfl
@[go_sem] theorem ZDA (i:Nat):Ms Y6 i=false:=rfl
theorem ZyD:Xs VV=some (.text Zbk):=rfl
@[go_sem] theorem ZyE (i:Nat):Ms VV i=false:=rfl
theorem Zoo:Xs Yc=some (.prim (Zve)):=rfl
@[go_sem] theorem ZAg (i:Nat):Ms Yc i=false:=rfl
theorem Zop:Xs VJ=some (.text Ue):=rfl
@[go_sem] theorem ZAh (i:Nat):Ms VJ i=false:=rfl
theorem UT:Xs XY=some (.text Ql):=rfl
@[go_sem] theorem ZBX (i:Nat):Ms XY i=false:=rfl
theorem ZfS:Xs Vg=some (.text XM):=rfl
@[go_sem] theorem ZCk (i:Nat):Ms Vg i=false:=rfl
theorem ZdL:Xs Js=some (.text X3):=rfl
@[go_sem] theorem ZDB (i:Nat):Ms Js i=false:=rfl
theorem Zrp:Xs Up=some (.text XN):=rfl
@[go_sem] theorem ZCl (i:Nat):Ms Up i=false:=rfl
theorem ZtW:Xs Jt=some (.text Zbl):=rfl
@[go_sem] theorem ZDC (i:Nat):Ms Jt i=false:=rfl
theorem Zrq:Xs Uq=some (.text J2):=rfl
@[go_sem] theorem ZCm (i:Nat):Ms Uq i=false:=rfl
theorem Zrr:Xs XK=some (.text J3):=rfl
@[go_sem] theorem ZCn (i:Nat):Ms XK i=false:=rfl
theorem ZqD:Xs XZ=some (.text U1):=rfl
@[go_sem] theorem ZBY (i:Nat):Ms XZ i=false:=rfl
theorem Zfs:Xs QG=some (.text YK):=rfl
@[go_sem] theorem ZFi (i:Nat):Ms QG i=false:=rfl
theorem ZhS:Xs WS=some (.text Yz):=rfl
@[go_sem] theorem ZDD (i:Nat):Ms WS i=false:=rfl
theorem ZqE:Xs QM=some (.text U2):=rfl
@[go_sem] theorem ZBZ (i:Nat):Ms QM i=false:=rfl
theorem Vb:Xs Ur=some (.text Z1):=rfl
@[go_sem] theorem ZCo (i:Nat):Ms Ur i=false:=rfl
theorem Zrs:Xs Us=some (.text J4):=rfl
@[go_sem] theorem ZCp (i:Nat):Ms Us i=false:=rfl
theorem ZqF:Xs WB=some (.text U3):=rfl
@[go_sem] theorem ZB0 (i:Nat):Ms WB i=false:=rfl
theorem Zdu:Xs QO=some (.text Xg):=rfl
@[go_sem] theorem Zv2 (i:Nat):Ms QO i=false:=rfl
theorem Zmi:Xs Qk=some (.text X4):=rfl
@[go_sem] theorem Zmj (i:Nat):Ms Qk i=false:=rfl
theorem Zk8:Xs Qi=some (.text XE):=rfl
@[go_sem] theorem Zk9 (i:Nat):Ms Qi i=false:=rfl
theorem ZtX:Xs WT=some (.text VZ):=rfl
@[go_sem] theorem ZDE (i:Nat):Ms WT i=false:=rfl
theorem Zrt:Xs XL=some (.text J5):=rfl
@[go_sem] theorem ZCq (i:Nat):Ms XL i=false:=rfl
theorem ZnZ:Xs VX=some (.text U4):=rfl
@[go_sem] theorem ZFj (i:Nat):Ms VX i=false:=rfl
theorem Zru:Xs Yw=some (.text J6):=rfl
@[go_sem] theorem ZCr (i:Nat):Ms Yw i=false:=rfl
theorem ZtY:Xs WU=some (.text Zbm):=rfl
@[go_sem] theorem ZDF (i:Nat):Ms WU i=false:=rfl
theorem Zrv:Xs V7=some (.text J7):=rfl
@[go_sem] theorem ZCs (i:Nat):Ms V7 i=false:=rfl
theorem ZxE:Xs Zb5=some (.text ZeF):=rfl
@[go_sem] theorem ZF3 (i:Nat):Ms Zb5 i=false:=rfl
theorem Jm:Xs Ju=some (.text QJ):=rfl
@[go_sem] theorem ZDG (i:Nat):Ms Ju i=false:=rfl
theorem Zjj:Xs WJ=some (.text V0):=rfl
@[go_sem] theorem ZFk (i:Nat):Ms WJ i=false:=rfl
theorem ZtZ:Xs Jv=some (.text Zbn):=rfl
@[go_sem] theorem ZDH (i:Nat):Ms Jv i=false:=rfl
theorem ZxF:Xs Zb6=some (.text ZeG):=rfl
@[go_sem] theorem ZF4 (i:Nat):Ms Zb6 i=false:=rfl
theorem ZqG:Xs QY=some (.text U5):=rfl
@[go_sem] theorem ZB1 (i:Nat):Ms QY i=false:=rfl
theorem ZqH:Xs Vr=some (.text U6):=rfl
@[go_sem] theorem ZB2 (i:Nat):Ms Vr i=false:=rfl
theorem Zt0:Xs Jw=some (.text Zbo):=rfl
@[go_sem] theorem ZDI (i:Nat):Ms Jw i=false:=rfl
theorem ZvZ:Xs UV=some (.text ZcK):=rfl
@[go_sem] theorem ZFl (i:Nat):Ms UV i=false:=rfl
theorem Zz5:Xs ZdS=some (.text Zg3):=rfl
@[go_sem] theorem m_s_edges (i:Nat):Ms ZdS i=false:=rfl
theorem ZB3:Xs ZeE=some (.text Zg4):=rfl
@[go_sem] theorem m_s_part (i:Nat):Ms ZeE i=false:=rfl
theorem Zkq:Xs V8=some (.text Wd):=rfl
@[go_sem] theorem ZCt (i:Nat):Ms V8 i=false:=rfl
theorem XU:Xs Qz=some (.text Zy):=rfl
@[go_sem] theorem ZyF (i:Nat):Ms Qz i=false:=rfl
theorem XV:Xs Z7=some (.text ZE):=rfl
@[go_sem] theorem Zmk (i:Nat):Ms Z7 i=false:=rfl
theorem ZjW:Xs Z8=some (.text Xc):=rfl
@[go_sem] theorem ZjX (i:Nat):Ms Z8 i=false:=rfl
theorem ZqI:Xs Vs=some (.text U7):=rfl
@[go_sem] theorem ZB4 (i:Nat):Ms Vs i=false:=rfl
theorem Zt1:Xs Jx=some (.text Zbp):=rfl
@[go_sem] theorem ZDJ (i:Nat):Ms Jx i=false:=rfl
theorem ZdM:Xs Jy=some (.text X5):=rfl
@[go_sem] theorem ZDK (i:Nat):Ms Jy i=false:=rfl
theorem Zt2:Xs Jz=some (.text Zbq):=rfl
@[go_sem] theorem ZDL (i:Nat):Ms Jz i=false:=rfl
theorem Zcp:Xs V9=some (.text Xp):=rfl
@[go_sem] theorem ZCu (i:Nat):Ms V9 i=false:=rfl
theorem Zt3:Xs WV=some (.text Zbr):=rfl
@[go_sem] theorem ZDM (i:Nat):Ms WV i=false:=rfl
theorem Zrw:Xs Wa=some (.text J8):=rfl
@[go_sem] theorem ZCv (i:Nat):Ms Wa i=false:=rfl
theorem Zt4:Xs WW=some (.text Zbs):=rfl
@[go_sem] theorem ZDN (i:Nat):Ms WW i=false:=rfl
theorem Zrx:Xs Ut=some (.text J9):=rfl
@[go_sem] theorem ZCw (i:Nat):Ms Ut i=false:=rfl
theorem Zry:Xs Uu=some (.text Zaa):=rfl
@[go_sem] theorem ZCx (i:Nat):Ms Uu i=false:=rfl
theorem ZqJ:Xs UW=some (.text ZaB):=rfl
@[go_sem] theorem ZF5 (i:Nat):Ms UW i=false:=rfl
theorem Zv0:Xs ZaR=some (.text ZcL):=rfl
@[go_sem] theorem ZFm (i:Nat):Ms ZaR i=false:=rfl
theorem Zft:Xs QR=some (.text X6):=rfl
@[go_sem] theorem ZyG (i:Nat):Ms QR i=false:=rfl
theorem Zk5:Xs Xw=some (.text Vy):=rfl
@[go_sem] theorem ZxG (i:Nat):Ms Xw i=false:=rfl
theorem Zbf:Xs QA=some (.text QB):=rfl
@[go_sem] theorem ZyH (i:Nat):Ms QA i=false:=rfl
theorem VS:Xs ZX=some (.text ZY):=rfl
@[go_sem] theorem Zml (i:Nat):Ms ZX i=false:=rfl
theorem Zt5:Xs JA=some (.text Zbt):=rfl
@[go_sem] theorem ZDO (i:Nat):Ms JA i=false:=rfl
theorem Zt6:Xs JB=some (.text Zbu):=rfl
@[go_sem] theorem ZDP (i:Nat):Ms JB i=false:=rfl
theorem ZxH:Xs Zb7=some (.text ZeH):=rfl
@[go_sem] theorem ZF6 (i:Nat):Ms Zb7 i=false:=rfl
theorem Zrz:Xs Uv=some (.text Zab):=rfl
@[go_sem] theorem ZCy (i:Nat):Ms Uv i=false:=rfl
theorem WO:Xs X0=some (.text Qh):=rfl
@[go_sem] theorem ZDQ (i:Nat):Ms X0 i=false:=rfl
theorem ZhT:Xs Vt=some (.text Vz):=rfl
@[go_sem] theorem ZF7 (i:Nat):Ms Vt i=false:=rfl
theorem ZqK:Xs WC=some (.text U8):=rfl
@[go_sem] theorem ZB5 (i:Nat):Ms WC i=false:=rfl
end
end Go.Proofs.YtkdjbefmiiibpaaGreatDoor
