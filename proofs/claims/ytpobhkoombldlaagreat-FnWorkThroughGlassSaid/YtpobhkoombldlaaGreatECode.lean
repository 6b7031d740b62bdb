/- The functions of this seat,compiled for the abstract semantics. Printed by a program of the prover's. -/
import Derived.Test.YtpobhkoombldlaaGreatECodeA
set_option maxRecDepth 20000
namespace Go.Proofs.YtpobhkoombldlaaGreat
open Go Go.Abs Go.Abs.Q
noncomputable section
abbrev Zbh:D:=(.agg [(.int .i64 0),(.int .i64 0),(.bool false),(.int .i64 0),(.int .i64 0)])
def tbl:List (Nat×Go.Abs.Fn):=[(VI,.text Z0),(XR,.text ZA),(Qd,.text Zy),(XD,.text J4),(QD,.text Yt),(WT,.text W4),(Zb7,.text ZfP),(V2,.text J5),(Ym,.text J6),(WJ,.text ZcL),(Y6,.text UZ),(US,.text VS),(YX,.text Yu),(VJ,.text Zbl),(Yi,.text QX),(Jp,.text QY),(V3,.text Yv),(Q3,.text YP),(X6,.text QA),(X7,.text Xl),(Xk,.text Uc),(YG,.text Ud),(Uh,.text Uq),(ZaL,.text WL),(Ui,.text Zx),(ZG,.text QB),(Xb,.text U0),(WU,.text Zbm),(ZI,.text Zv),(V4,.text XI),(XS,.text Zm),(Wt,.text WA),(Y7,.text U1),(Xc,.text Vg),(QR,.text Vh),(Uj,.text J7),(XE,.text J8),(Zb8,.text Vi),(UT,.text ZcM),(YY,.text J9),(XF,.text Zaa),(UU,.text VT),(Vu,.text Xm),(Xd,.text QT),(VK,.text ZcN),(Xe,.text WB),(Yn,.text Xf),(V5,.text Zab),(YR,.text JI),(VL,.text Zbn),(ZS,.text ZcO),(WV,.text Zbo),(Xu,.prim (ZpR 5 40)),(VM,.text U2),(Jq,.text Zbp),(YZ,.text Wc),(ZaM,.text ZcP),(Jr,.text Zbq),(WW,.text XX),(UV,.text U3),(Y8,.text Vj),(Js,.text XY),(Y9,.text XZ),(Va,.text Vk),(QS,.text U4),(Vb,.text U5),(Jt,.text Zbr),(XT,.text Qh),(Y0,.text XJ),(Ju,.text X0),(Wu,.text U6),(Yo,.text Zac),(VN,.text Zbs),(Uk,.text Xg),(Xv,.text Yz),(YH,.text Ue),(XU,.text U7),(Ul,.text Zad),(XG,.text Zae),(XV,.text U8),(Qf,.text Qu),(Qw,.text Z5),(V6,.text Ur),(Yp,.text Zbt),(V7,.text XK),(Wv,.text U9),(Um,.text Wd),(Jv,.text Zbu),(VO,.text Z6),(V8,.text W5),(VQ,.text Ja),(Jw,.text QZ),(UW,.text ZcQ),(Vc,.text YA),(Jx,.text Qi),(Zb9,.text Zej),(WX,.text X1),(Jy,.text Zbv),(Vd,.text Jb),(Yq,.text Zaf),(Un,.text Zag),(Uo,.text Zah),(WY,.text VU),(XH,.text Zai),(WZ,.text Zbw),(V9,.text Zaj),(Zca,.text Zek),(Jz,.text Qx),(WK,.text VV),(JA,.text Zbx),(Zcb,.text Zel),(Ww,.text WC),(Q7,.text Yd),(Ve,.text Jc),(UX,.text ZcR),(Zcc,.text Zcg),(ZcK,.text ZcS),(Yr,.text ZO),(ZdK,.text ZfQ),(Ys,.text X2),(Wx,.text Jd),(JB,.text Zby),(Yy,.text Zs),(YI,.text YJ),(Qa,.prim (Zlg 5 40 Zbh)),(W0,.text Zbz),(JC,.text ZbA),(JD,.text ZbB),(JE,.text ZbC),(JF,.text X3),(JG,.text ZbD),(Zcd,.text ZfR),(Wa,.text Xh),(W1,.text ZbE),(Wb,.text Zak),(W2,.text ZbF),(UY,.text ZaF),(ZaN,.text ZcT),(W3,.text ZaG),(JH,.text ZbG),(Wy,.text Je),(Zce,.text Zem),(Zcf,.text Zen),(Up,.text Zal),(VR,.text ZR),(XW,.text Qe),(Vf,.text Vl),(Wz,.text Jf)]
def Xs:Fns:=fun f=>lkp tbl f
def Ms:Zu:=fun f i=>(f==Qw&&i==0) || (f==Qa&&i==0)
theorem VF:Xs VI=some (.text Z0):=rfl
@[go_sem] theorem Zyq (i:Nat):Ms VI i=false:=rfl
theorem QW:Xs XR=some (.text ZA):=rfl
@[go_sem] theorem Zun (i:Nat):Ms XR i=false:=rfl
theorem Qy:Xs Qd=some (.text Zy):=rfl
@[go_sem] theorem ZAG (i:Nat):Ms Qd i=false:=rfl
theorem ZrY:Xs XD=some (.text J4):=rfl
@[go_sem] theorem ZBc (i:Nat):Ms XD i=false:=rfl
theorem ZrZ:Xs QD=some (.text Yt):=rfl
@[go_sem] theorem ZBd (i:Nat):Ms QD i=false:=rfl
theorem Zmh:Xs WT=some (.text W4):=rfl
@[go_sem] theorem ZCv (i:Nat):Ms WT i=false:=rfl
theorem Zzu:Xs Zb7=some (.text ZfP):=rfl
@[go_sem] theorem m_l_count (i:Nat):Ms Zb7 i=false:=rfl
theorem Zr0:Xs V2=some (.text J5):=rfl
@[go_sem] theorem ZBe (i:Nat):Ms V2 i=false:=rfl
theorem Zr1:Xs Ym=some (.text J6):=rfl
@[go_sem] theorem ZBf (i:Nat):Ms Ym i=false:=rfl
theorem Zwj:Xs WJ=some (.text ZcL):=rfl
@[go_sem] theorem ZE4 (i:Nat):Ms WJ i=false:=rfl
theorem Zq2:Xs Y6=some (.text UZ):=rfl
@[go_sem] theorem ZAH (i:Nat):Ms Y6 i=false:=rfl
theorem Zib:Xs US=some (.text VS):=rfl
@[go_sem] theorem ZE5 (i:Nat):Ms US i=false:=rfl
theorem Ze7:Xs YX=some (.text Yu):=rfl
@[go_sem] theorem ZBg (i:Nat):Ms YX i=false:=rfl
theorem Zuo:Xs VJ=some (.text Zbl):=rfl
@[go_sem] theorem ZCw (i:Nat):Ms VJ i=false:=rfl
theorem Zb6:Xs Yi=some (.text QX):=rfl
@[go_sem] theorem Zzv (i:Nat):Ms Yi i=false:=rfl
theorem Zbi:Xs Jp=some (.text QY):=rfl
@[go_sem] theorem ZCx (i:Nat):Ms Jp i=false:=rfl
theorem Ze8:Xs V3=some (.text Yv):=rfl
@[go_sem] theorem ZBh (i:Nat):Ms V3 i=false:=rfl
theorem Zjq:Xs Q3=some (.text YP):=rfl
@[go_sem] theorem Zwu (i:Nat):Ms Q3 i=false:=rfl
theorem Zaw:Xs X6=some (.text QA):=rfl
@[go_sem] theorem Zzz (i:Nat):Ms X6 i=false:=rfl
theorem Zc7:Xs X7=some (.text Xl):=rfl
@[go_sem] theorem ZzA (i:Nat):Ms X7 i=false:=rfl
theorem ZoP:Xs Xk=some (.text Uc):=rfl
@[go_sem] theorem ZzB (i:Nat):Ms Xk i=false:=rfl
theorem ZoQ:Xs YG=some (.text Ud):=rfl
@[go_sem] theorem ZzC (i:Nat):Ms YG i=false:=rfl
theorem Zr2:Xs Uh=some (.text Uq):=rfl
@[go_sem] theorem ZBi (i:Nat):Ms Uh i=false:=rfl
theorem Zwk:Xs ZaL=some (.text WL):=rfl
@[go_sem] theorem ZE6 (i:Nat):Ms ZaL i=false:=rfl
theorem Zr3:Xs Ui=some (.text Zx):=rfl
@[go_sem] theorem ZBj (i:Nat):Ms Ui i=false:=rfl
theorem Zax:Xs ZG=some (.text QB):=rfl
@[go_sem] theorem ZzD (i:Nat):Ms ZG i=false:=rfl
theorem Zq3:Xs Xb=some (.text U0):=rfl
@[go_sem] theorem ZAI (i:Nat):Ms Xb i=false:=rfl
theorem Zup:Xs WU=some (.text Zbm):=rfl
@[go_sem] theorem ZCy (i:Nat):Ms WU i=false:=rfl
theorem Qn:Xs ZI=some (.text Zv):=rfl
@[go_sem] theorem ZAJ (i:Nat):Ms ZI i=false:=rfl
theorem Zr4:Xs V4=some (.text XI):=rfl
@[go_sem] theorem ZBk (i:Nat):Ms V4 i=false:=rfl
theorem ZV:Xs XS=some (.text Zm):=rfl
@[go_sem] theorem ZAK (i:Nat):Ms XS i=false:=rfl
theorem Zq4:Xs Wt=some (.text WA):=rfl
@[go_sem] theorem ZAL (i:Nat):Ms Wt i=false:=rfl
theorem Zq5:Xs Y7=some (.text U1):=rfl
@[go_sem] theorem ZAM (i:Nat):Ms Y7 i=false:=rfl
theorem Zic:Xs Xc=some (.text Vg):=rfl
@[go_sem] theorem ZAN (i:Nat):Ms Xc i=false:=rfl
theorem Zid:Xs QR=some (.text Vh):=rfl
@[go_sem] theorem ZAO (i:Nat):Ms QR i=false:=rfl
theorem Zr5:Xs Uj=some (.text J7):=rfl
@[go_sem] theorem ZBl (i:Nat):Ms Uj i=false:=rfl
theorem Zr6:Xs XE=some (.text J8):=rfl
@[go_sem] theorem ZBm (i:Nat):Ms XE i=false:=rfl
theorem ZgB:Xs Zb8=some (.text Vi):=rfl
@[go_sem] theorem ZFX (i:Nat):Ms Zb8 i=false:=rfl
theorem Zwl:Xs UT=some (.text ZcM):=rfl
@[go_sem] theorem ZE7 (i:Nat):Ms UT i=false:=rfl
theorem Zr7:Xs YY=some (.text J9):=rfl
@[go_sem] theorem ZBn (i:Nat):Ms YY i=false:=rfl
theorem Zr8:Xs XF=some (.text Zaa):=rfl
@[go_sem] theorem ZBo (i:Nat):Ms XF i=false:=rfl
theorem Zie:Xs UU=some (.text VT):=rfl
@[go_sem] theorem ZE8 (i:Nat):Ms UU i=false:=rfl
theorem Zc8:Xs Vu=some (.text Xm):=rfl
@[go_sem] theorem ZzE (i:Nat):Ms Vu i=false:=rfl
theorem Zbj:Xs Xd=some (.text QT):=rfl
@[go_sem] theorem ZAP (i:Nat):Ms Xd i=false:=rfl
theorem Zwm:Xs VK=some (.text ZcN):=rfl
@[go_sem] theorem ZE9 (i:Nat):Ms VK i=false:=rfl
theorem Zq6:Xs Xe=some (.text WB):=rfl
@[go_sem] theorem ZAQ (i:Nat):Ms Xe i=false:=rfl
theorem Zcs:Xs Yn=some (.text Xf):=rfl
@[go_sem] theorem ZBp (i:Nat):Ms Yn i=false:=rfl
theorem Zr9:Xs V5=some (.text Zab):=rfl
@[go_sem] theorem ZBq (i:Nat):Ms V5 i=false:=rfl
theorem Zuq:Xs YR=some (.text JI):=rfl
@[go_sem] theorem ZCz (i:Nat):Ms YR i=false:=rfl
theorem Zur:Xs VL=some (.text Zbn):=rfl
@[go_sem] theorem ZCA (i:Nat):Ms VL i=false:=rfl
theorem Zwn:Xs ZS=some (.text ZcO):=rfl
@[go_sem] theorem ZFa (i:Nat):Ms ZS i=false:=rfl
theorem Zus:Xs WV=some (.text Zbo):=rfl
@[go_sem] theorem ZCB (i:Nat):Ms WV i=false:=rfl
theorem Znt:Xs Xu=some (.prim (ZpR 5 40)):=rfl
@[go_sem] theorem Zzw (i:Nat):Ms Xu i=false:=rfl
theorem Zn5:Xs VM=some (.text U2):=rfl
@[go_sem] theorem ZFb (i:Nat):Ms VM i=false:=rfl
theorem Zut:Xs Jq=some (.text Zbp):=rfl
@[go_sem] theorem ZCC (i:Nat):Ms Jq i=false:=rfl
theorem ZjR:Xs YZ=some (.text Wc):=rfl
@[go_sem] theorem ZBr (i:Nat):Ms YZ i=false:=rfl
theorem Zwo:Xs ZaM=some (.text ZcP):=rfl
@[go_sem] theorem ZFc (i:Nat):Ms ZaM i=false:=rfl
theorem Zuu:Xs Jr=some (.text Zbq):=rfl
@[go_sem] theorem ZCD (i:Nat):Ms Jr i=false:=rfl
theorem Zdv:Xs WW=some (.text XX):=rfl
@[go_sem] theorem ZCE (i:Nat):Ms WW i=false:=rfl
theorem Zn6:Xs UV=some (.text U3):=rfl
@[go_sem] theorem ZFd (i:Nat):Ms UV i=false:=rfl
theorem Zif:Xs Y8=some (.text Vj):=rfl
@[go_sem] theorem ZAR (i:Nat):Ms Y8 i=false:=rfl
theorem Zdw:Xs Js=some (.text XY):=rfl
@[go_sem] theorem ZCF (i:Nat):Ms Js i=false:=rfl
theorem Zei:Xs Y9=some (.text XZ):=rfl
@[go_sem] theorem ZAS (i:Nat):Ms Y9 i=false:=rfl
theorem Zig:Xs Va=some (.text Vk):=rfl
@[go_sem] theorem ZAT (i:Nat):Ms Va i=false:=rfl
theorem Zq7:Xs QS=some (.text U4):=rfl
@[go_sem] theorem ZAU (i:Nat):Ms QS i=false:=rfl
theorem Zq8:Xs Vb=some (.text U5):=rfl
@[go_sem] theorem ZAV (i:Nat):Ms Vb i=false:=rfl
theorem Zuv:Xs Jt=some (.text Zbr):=rfl
@[go_sem] theorem ZCG (i:Nat):Ms Jt i=false:=rfl
theorem UQ:Xs XT=some (.text Qh):=rfl
@[go_sem] theorem ZAW (i:Nat):Ms XT i=false:=rfl
theorem Ze9:Xs Y0=some (.text XJ):=rfl
@[go_sem] theorem ZBs (i:Nat):Ms Y0 i=false:=rfl
theorem Zdx:Xs Ju=some (.text X0):=rfl
@[go_sem] theorem ZCH (i:Nat):Ms Ju i=false:=rfl
theorem Zq9:Xs Wu=some (.text U6):=rfl
@[go_sem] theorem ZAX (i:Nat):Ms Wu i=false:=rfl
theorem Zsa:Xs Yo=some (.text Zac):=rfl
@[go_sem] theorem ZBt (i:Nat):Ms Yo i=false:=rfl
theorem Zuw:Xs VN=some (.text Zbs):=rfl
@[go_sem] theorem ZCI (i:Nat):Ms VN i=false:=rfl
theorem Zct:Xs Uk=some (.text Xg):=rfl
@[go_sem] theorem ZBu (i:Nat):Ms Uk i=false:=rfl
theorem Zih:Xs Xv=some (.text Yz):=rfl
@[go_sem] theorem Zwp (i:Nat):Ms Xv i=false:=rfl
theorem ZoR:Xs YH=some (.text Ue):=rfl
@[go_sem] theorem ZzF (i:Nat):Ms YH i=false:=rfl
theorem Zra:Xs XU=some (.text U7):=rfl
@[go_sem] theorem ZAY (i:Nat):Ms XU i=false:=rfl
theorem Zsb:Xs Ul=some (.text Zad):=rfl
@[go_sem] theorem ZBv (i:Nat):Ms Ul i=false:=rfl
theorem Zsc:Xs XG=some (.text Zae):=rfl
@[go_sem] theorem ZBw (i:Nat):Ms XG i=false:=rfl
theorem Zrb:Xs XV=some (.text U8):=rfl
@[go_sem] theorem ZAZ (i:Nat):Ms XV i=false:=rfl
theorem UR:Xs Qf=some (.text Qu):=rfl
@[go_sem] theorem ZFe (i:Nat):Ms Qf i=false:=rfl
theorem VG:Xs Qw=some (.text Z5):=rfl
@[go_sem] theorem ZBx:Ms Qw 0=true:=rfl
@[go_sem] theorem ZBy:Ms Qw 1=false:=rfl
@[go_sem] theorem ZBz:Ms Qw 2=false:=rfl
@[go_sem] theorem ZBA:Ms Qw 3=false:=rfl
@[go_sem] theorem ZBB:Ms Qw 4=false:=rfl
@[go_sem] theorem ZBC:Ms Qw 5=false:=rfl
theorem Zsd:Xs V6=some (.text Ur):=rfl
@[go_sem] theorem ZBD (i:Nat):Ms V6 i=false:=rfl
theorem Zux:Xs Yp=some (.text Zbt):=rfl
@[go_sem] theorem ZCJ (i:Nat):Ms Yp i=false:=rfl
theorem Zfa:Xs V7=some (.text XK):=rfl
@[go_sem] theorem ZBE (i:Nat):Ms V7 i=false:=rfl
theorem Zrc:Xs Wv=some (.text U9):=rfl
@[go_sem] theorem ZA0 (i:Nat):Ms Wv i=false:=rfl
theorem ZjS:Xs Um=some (.text Wd):=rfl
@[go_sem] theorem ZBF (i:Nat):Ms Um i=false:=rfl
theorem Zuy:Xs Jv=some (.text Zbu):=rfl
@[go_sem] theorem ZCK (i:Nat):Ms Jv i=false:=rfl
theorem VH:Xs VO=some (.text Z6):=rfl
@[go_sem] theorem ZCL (i:Nat):Ms VO i=false:=rfl
theorem Zrd:Xs V8=some (.text W5):=rfl
@[go_sem] theorem ZFY (i:Nat):Ms V8 i=false:=rfl
theorem Zn7:Xs VQ=some (.text Ja):=rfl
@[go_sem] theorem ZFf (i:Nat):Ms VQ i=false:=rfl
theorem Zbk:Xs Jw=some (.text QZ):=rfl
@[go_sem] theorem ZCM (i:Nat):Ms Jw i=false:=rfl
theorem Zwq:Xs UW=some (.text ZcQ):=rfl
@[go_sem] theorem ZFg (i:Nat):Ms UW i=false:=rfl
theorem Zre:Xs Vc=some (.text YA):=rfl
@[go_sem] theorem ZA1 (i:Nat):Ms Vc i=false:=rfl
theorem WR:Xs Jx=some (.text Qi):=rfl
@[go_sem] theorem ZCN (i:Nat):Ms Jx i=false:=rfl
theorem ZxJ:Xs Zb9=some (.text Zej):=rfl
@[go_sem] theorem ZFZ (i:Nat):Ms Zb9 i=false:=rfl
theorem Zdy:Xs WX=some (.text X1):=rfl
@[go_sem] theorem ZCO (i:Nat):Ms WX i=false:=rfl
theorem Zuz:Xs Jy=some (.text Zbv):=rfl
@[go_sem] theorem ZCP (i:Nat):Ms Jy i=false:=rfl
theorem Zrf:Xs Vd=some (.text Jb):=rfl
@[go_sem] theorem ZA2 (i:Nat):Ms Vd i=false:=rfl
theorem Zse:Xs Yq=some (.text Zaf):=rfl
@[go_sem] theorem ZBG (i:Nat):Ms Yq i=false:=rfl
theorem Zsf:Xs Un=some (.text Zag):=rfl
@[go_sem] theorem ZBH (i:Nat):Ms Un i=false:=rfl
theorem Zsg:Xs Uo=some (.text Zah):=rfl
@[go_sem] theorem ZBI (i:Nat):Ms Uo i=false:=rfl
theorem ZuA:Xs WY=some (.text VU):=rfl
@[go_sem] theorem ZCQ (i:Nat):Ms WY i=false:=rfl
theorem Zsh:Xs XH=some (.text Zai):=rfl
@[go_sem] theorem ZBJ (i:Nat):Ms XH i=false:=rfl
theorem ZuB:Xs WZ=some (.text Zbw):=rfl
@[go_sem] theorem ZCR (i:Nat):Ms WZ i=false:=rfl
theorem Zsi:Xs V9=some (.text Zaj):=rfl
@[go_sem] theorem ZBK (i:Nat):Ms V9 i=false:=rfl
theorem ZxK:Xs Zca=some (.text Zek):=rfl
@[go_sem] theorem ZF0 (i:Nat):Ms Zca i=false:=rfl
theorem Jo:Xs Jz=some (.text Qx):=rfl
@[go_sem] theorem ZCS (i:Nat):Ms Jz i=false:=rfl
theorem Zii:Xs WK=some (.text VV):=rfl
@[go_sem] theorem ZFh (i:Nat):Ms WK i=false:=rfl
theorem ZuC:Xs JA=some (.text Zbx):=rfl
@[go_sem] theorem ZCT (i:Nat):Ms JA i=false:=rfl
theorem ZxL:Xs Zcb=some (.text Zel):=rfl
@[go_sem] theorem ZF1 (i:Nat):Ms Zcb i=false:=rfl
theorem Zrg:Xs Ww=some (.text WC):=rfl
@[go_sem] theorem ZA3 (i:Nat):Ms Ww i=false:=rfl
theorem Zhm:Xs Q7=some (.text Yd):=rfl
@[go_sem] theorem ZuM (i:Nat):Ms Q7 i=false:=rfl
theorem Zrh:Xs Ve=some (.text Jc):=rfl
@[go_sem] theorem ZA4 (i:Nat):Ms Ve i=false:=rfl
theorem Zwr:Xs UX=some (.text ZcR):=rfl
@[go_sem] theorem ZFi (i:Nat):Ms UX i=false:=rfl
theorem Ztu:Xs Zcc=some (.text Zcg):=rfl
@[go_sem] theorem m_s_edges (i:Nat):Ms Zcc i=false:=rfl
theorem Zws:Xs ZcK=some (.text ZcS):=rfl
@[go_sem] theorem m_s_part (i:Nat):Ms ZcK i=false:=rfl
theorem XC:Xs Yr=some (.text ZO):=rfl
@[go_sem] theorem ZBL (i:Nat):Ms Yr i=false:=rfl
theorem Zzx:Xs ZdK=some (.text ZfQ):=rfl
@[go_sem] theorem m_i_isCut (i:Nat):Ms ZdK i=false:=rfl
theorem Zdz:Xs Ys=some (.text X2):=rfl
@[go_sem] theorem ZCU (i:Nat):Ms Ys i=false:=rfl
theorem Zri:Xs Wx=some (.text Jd):=rfl
@[go_sem] theorem ZA5 (i:Nat):Ms Wx i=false:=rfl
theorem ZuD:Xs JB=some (.text Zby):=rfl
@[go_sem] theorem ZCV (i:Nat):Ms JB i=false:=rfl
theorem Qz:Xs Yy=some (.text Zs):=rfl
@[go_sem] theorem ZA6 (i:Nat):Ms Yy i=false:=rfl
theorem ZgO:Xs YI=some (.text YJ):=rfl
@[go_sem] theorem ZzG (i:Nat):Ms YI i=false:=rfl
theorem Zmi:Xs Qa=some (.prim (Zlg 5 40 Zbh)):=rfl
@[go_sem] theorem ZxM:Ms Qa 0=true:=rfl
@[go_sem] theorem ZxN:Ms Qa 1=false:=rfl
@[go_sem] theorem ZxO:Ms Qa 2=false:=rfl
@[go_sem] theorem ZxP:Ms Qa 3=false:=rfl
@[go_sem] theorem ZxQ:Ms Qa 4=false:=rfl
@[go_sem] theorem ZxR:Ms Qa 5=false:=rfl
theorem ZuE:Xs W0=some (.text Zbz):=rfl
@[go_sem] theorem ZCW (i:Nat):Ms W0 i=false:=rfl
theorem ZuF:Xs JC=some (.text ZbA):=rfl
@[go_sem] theorem ZCX (i:Nat):Ms JC i=false:=rfl
theorem ZuG:Xs JD=some (.text ZbB):=rfl
@[go_sem] theorem ZCY (i:Nat):Ms JD i=false:=rfl
theorem ZuH:Xs JE=some (.text ZbC):=rfl
@[go_sem] theorem ZCZ (i:Nat):Ms JE i=false:=rfl
theorem ZdA:Xs JF=some (.text X3):=rfl
@[go_sem] theorem ZC0 (i:Nat):Ms JF i=false:=rfl
theorem ZuI:Xs JG=some (.text ZbD):=rfl
@[go_sem] theorem ZC1 (i:Nat):Ms JG i=false:=rfl
theorem Zzy:Xs Zcd=some (.text ZfR):=rfl
@[go_sem] theorem m_s_isCut (i:Nat):Ms Zcd i=false:=rfl
theorem Zcu:Xs Wa=some (.text Xh):=rfl
@[go_sem] theorem ZBM (i:Nat):Ms Wa i=false:=rfl
theorem ZuJ:Xs W1=some (.text ZbE):=rfl
@[go_sem] theorem ZC2 (i:Nat):Ms W1 i=false:=rfl
theorem Zsj:Xs Wb=some (.text Zak):=rfl
@[go_sem] theorem ZBN (i:Nat):Ms Wb i=false:=rfl
theorem ZuK:Xs W2=some (.text ZbF):=rfl
@[go_sem] theorem ZC3 (i:Nat):Ms W2 i=false:=rfl
theorem Zrj:Xs UY=some (.text ZaF):=rfl
@[go_sem] theorem ZF2 (i:Nat):Ms UY i=false:=rfl
theorem Zwt:Xs ZaN=some (.text ZcT):=rfl
@[go_sem] theorem ZFj (i:Nat):Ms ZaN i=false:=rfl
theorem Zrk:Xs W3=some (.text ZaG):=rfl
@[go_sem] theorem ZF3 (i:Nat):Ms W3 i=false:=rfl
theorem ZuL:Xs JH=some (.text ZbG):=rfl
@[go_sem] theorem ZC4 (i:Nat):Ms JH i=false:=rfl
theorem Zrl:Xs Wy=some (.text Je):=rfl
@[go_sem] theorem ZA7 (i:Nat):Ms Wy i=false:=rfl
theorem ZxS:Xs Zce=some (.text Zem):=rfl
@[go_sem] theorem ZF4 (i:Nat):Ms Zce i=false:=rfl
theorem ZxT:Xs Zcf=some (.text Zen):=rfl
@[go_sem] theorem ZF5 (i:Nat):Ms Zcf i=false:=rfl
theorem Zsk:Xs Up=some (.text Zal):=rfl
@[go_sem] theorem ZBO (i:Nat):Ms Up i=false:=rfl
theorem XQ:Xs VR=some (.text ZR):=rfl
@[go_sem] theorem ZC5 (i:Nat):Ms VR i=false:=rfl
theorem WS:Xs XW=some (.text Qe):=rfl
@[go_sem] theorem ZC6 (i:Nat):Ms XW i=false:=rfl
theorem ZgC:Xs Vf=some (.text Vl):=rfl
@[go_sem] theorem ZF6 (i:Nat):Ms Vf i=false:=rfl
theorem Zrm:Xs Wz=some (.text Jf):=rfl
@[go_sem] theorem ZA8 (i:Nat):Ms Wz i=false:=rfl
end
end Go.Proofs.YtpobhkoombldlaaGreat
