/- Own text. -/
import Derived.Test.YthgciclhiaoecaaGreatACodeA
set_option maxRecDepth 20000
namespace Go.Proofs.YthgciclhiaoecaaGreat
open Go Go.Abs Go.Abs.Q
noncomputable section
abbrev Jl:D:=(.agg [(.int .i64 0),(.int .i64 0),(.bool false),(.int .i64 0),(.int .i64 0)])
def tbl:List (Nat×Go.Abs.Fn):=[(Yf,.text Xn),(Q4,.text Q8),(Zar,.text Zat),(Za2,.text Za8),(XO,.text Zkl),(Yu,.text Zdh),(Vd,.text ZgX),(Vj,.text Zkm),(Z8,.text ZbF),(Qb,.text ZaP),(VF,.text ZdI),(Yp,.text Vy),(XP,.text Ys),(Vk,.text ZeX),(Z1,.text JI),(WG,.text ZeY),(YW,.text Zct),(Jm,.text ZbG),(UR,.text Zdi),(YG,.text X7),(US,.text ZgY),(Jn,.text ZeZ),(UT,.text ZgZ),(Xt,.text YL),(Uf,.text ZdJ),(Xu,.text ZdK),(Zcg,.text YM),(ZbV,.text Zm7),(Zas,.text Zkn),(We,.text Zko),(Jo,.text Ze0),(UU,.text Zg0),(Z2,.text JJ),(Qc,.text ZdL),(Qt,.text ZbH),(Jp,.text Ze1),(ZI,.text Zg1),(WH,.text Ze2),(YX,.text Wp),(WI,.text Ze3),(Z9,.text Z4),(ZQ,.text ZaQ),(Wf,.text Zcu),(VG,.text ZdM),(Xv,.text ZdN),(Za3,.text Zdj),(XD,.text Zcv),(YY,.text Zcw),(Jq,.text Ze4),(Ug,.text ZdO),(X3,.text ZdP),(XE,.text Zcx),(Z3,.text Yw),(Za4,.text Zg2),(Zch,.text Zkp),(Q5,.text JK),(Yg,.text JL),(Uh,.text ZdQ),(Ui,.text ZdR),(X4,.text ZdS),(Uj,.text VM),(XF,.text Wq),(Yq,.text Zbp),(UV,.text Za9),(XG,.text Zcy),(Ya,.text Yb),(Zci,.text Zkq),(Za5,.text Zg3),(Za6,.text Zg4),(QE,.text Ze5),(Wg,.text Zdk),(Jr,.text WO),(YH,.text ZdT),(ZB,.text ZX),(Js,.text Ze6),(Zcj,.text Ze7),(Wh,.text Zcz),(YI,.text ZdU),(Uk,.text ZdV),(Ul,.text ZdW),(UW,.text Zg5),(ZbW,.text Ziz),(Zck,.text Zg6),(X5,.text QD),(Zcl,.text Zkr),(Zcm,.text Zks),(Q6,.text JM),(Vl,.text Ze8),(VH,.text ZdX),(Vx,.text Vz),(Q7,.text Yi),(Ve,.text Zg7),(Zcn,.text Zkt),(Um,.text ZdY),(Jt,.text Ze9),(Un,.text ZdZ),(Zco,.text Zku),(Ju,.text Yx),(Wi,.text Zba),(Jv,.text Zfa),(Zcp,.text Zkv),(Xw,.text Zd0),(WJ,.text WP),(UX,.text Zdl),(YZ,.text JN),(Jw,.text WQ),(Y0,.text Wr),(Y1,.text JO),(Jx,.text Zfb),(Jy,.text Zfc),(UH,.text Zfd),(Za7,.text Zg8),(Zep,.text Zm8),(XX,.text Zfe),(Vm,.text Zff),(Yv,.text ZbI),(Xg,.text VV),(Y2,.text ZcA),(Vn,.text Zau),(VI,.text ZaR),(VJ,.text VN),(Wj,.text ZcB),(Uo,.text ZaS),(Jz,.text WR),(JA,.text Zfg),(Up,.text ZaT),(ZbX,.text Zm9),(VK,.text VO),(WK,.text Zfh),(VL,.text Zd1),(WL,.text Zfi),(JB,.text Vr),(UY,.text Zg9),(Y3,.text Y4),(Wk,.text Zdm),(JC,.text XZ),(Vo,.text Zfj),(Zcq,.text Zkw),(WM,.text WS),(JD,.text Zfk),(YJ,.text Ur),(Wl,.text ZcC),(JE,.text Zfl),(XY,.text WT),(Zcr,.text Zkx),(Uq,.text Zd2),(Vp,.text QF),(Xx,.text Xy),(YK,.text Zav),(Xm,.prim (ZqT 5 40)),(JF,.text Vs),(Yr,.text UC),(UZ,.text Zbb),(X6,.text VQ),(ZO,.prim (Zl1 5 40 Jl)),(WN,.text Zfm),(Wm,.text Zfn),(JG,.text Zfo),(Wn,.text ZcD),(Wo,.text ZcE),(Zcs,.text Zky),(Qh,.text Xz),(JH,.text Zfp),(Vq,.text XA),(Zeq,.text Zna),(Yh,.text ZL)]
def Xs:Fns:=fun f=>lkp tbl f
def Ms:Zm:=fun f i=>(f==Qh&&i==0) || (f==ZO&&i==0) || (f==Z2&&i==0) || (f==Z2&&i==99) || (f==QE&&i==0) || (f==QE&&i==99) || (f==Qc&&i==0) || (f==Qc&&i==99) || (f==ZQ&&i==0) || (f==ZQ&&i==99) || (f==Qt&&i==0) || (f==Qt&&i==99) || (f==Z1&&i==0) || (f==Z1&&i==99) || (f==Qb&&i==0) || (f==Qb&&i==99) || (f==Z8&&i==0) || (f==Z8&&i==99)
@[go_sem] theorem ms_all:(∀ i:Nat,Ms Yf i=false)∧(∀ i:Nat,Ms Q4 i=false)∧(∀ i:Nat,Ms Zar i=false)∧(∀ i:Nat,Ms Za2 i=false)∧(∀ i:Nat,Ms XO i=false)∧(∀ i:Nat,Ms Yu i=false)∧(∀ i:Nat,Ms Vd i=false)∧(∀ i:Nat,Ms Vj i=false)∧(∀ i:Nat,Ms VF i=false)∧(∀ i:Nat,Ms Yp i=false)∧(∀ i:Nat,Ms XP i=false)∧(∀ i:Nat,Ms Vk i=false)∧(∀ i:Nat,Ms WG i=false)∧(∀ i:Nat,Ms YW i=false)∧(∀ i:Nat,Ms Jm i=false)∧(∀ i:Nat,Ms UR i=false)∧(∀ i:Nat,Ms YG i=false)∧(∀ i:Nat,Ms US i=false)∧(∀ i:Nat,Ms Jn i=false)∧(∀ i:Nat,Ms UT i=false)∧(∀ i:Nat,Ms Xt i=false)∧(∀ i:Nat,Ms Uf i=false)∧(∀ i:Nat,Ms Xu i=false)∧(∀ i:Nat,Ms Zcg i=false)∧(∀ i:Nat,Ms ZbV i=false)∧(∀ i:Nat,Ms Zas i=false)∧(∀ i:Nat,Ms We i=false)∧(∀ i:Nat,Ms Jo i=false)∧(∀ i:Nat,Ms UU i=false)∧(∀ i:Nat,Ms Jp i=false)∧(∀ i:Nat,Ms ZI i=false)∧(∀ i:Nat,Ms WH i=false)∧(∀ i:Nat,Ms YX i=false)∧(∀ i:Nat,Ms WI i=false)∧(∀ i:Nat,Ms Z9 i=false)∧(∀ i:Nat,Ms Wf i=false)∧(∀ i:Nat,Ms VG i=false)∧(∀ i:Nat,Ms Xv i=false)∧(∀ i:Nat,Ms Za3 i=false)∧(∀ i:Nat,Ms XD i=false)∧(∀ i:Nat,Ms YY i=false)∧(∀ i:Nat,Ms Jq i=false)∧(∀ i:Nat,Ms Ug i=false)∧(∀ i:Nat,Ms X3 i=false)∧(∀ i:Nat,Ms XE i=false)∧(∀ i:Nat,Ms Z3 i=false)∧(∀ i:Nat,Ms Za4 i=false)∧(∀ i:Nat,Ms Zch i=false)∧(∀ i:Nat,Ms Q5 i=false)∧(∀ i:Nat,Ms Yg i=false)∧(∀ i:Nat,Ms Uh i=false)∧(∀ i:Nat,Ms Ui i=false)∧(∀ i:Nat,Ms X4 i=false)∧(∀ i:Nat,Ms Uj i=false)∧(∀ i:Nat,Ms XF i=false)∧(∀ i:Nat,Ms Yq i=false)∧(∀ i:Nat,Ms UV i=false)∧(∀ i:Nat,Ms XG i=false)∧(∀ i:Nat,Ms Ya i=false)∧(∀ i:Nat,Ms Zci i=false)∧(∀ i:Nat,Ms Za5 i=false)∧(∀ i:Nat,Ms Za6 i=false)∧(∀ i:Nat,Ms Wg i=false)∧(∀ i:Nat,Ms Jr i=false)∧(∀ i:Nat,Ms YH i=false)∧(∀ i:Nat,Ms ZB i=false)∧(∀ i:Nat,Ms Js i=false)∧(∀ i:Nat,Ms Zcj i=false)∧(∀ i:Nat,Ms Wh i=false)∧(∀ i:Nat,Ms YI i=false)∧(∀ i:Nat,Ms Uk i=false)∧(∀ i:Nat,Ms Ul i=false)∧(∀ i:Nat,Ms UW i=false)∧(∀ i:Nat,Ms ZbW i=false)∧(∀ i:Nat,Ms Zck i=false)∧(∀ i:Nat,Ms X5 i=false)∧(∀ i:Nat,Ms Zcl i=false)∧(∀ i:Nat,Ms Zcm i=false)∧(∀ i:Nat,Ms Q6 i=false)∧(∀ i:Nat,Ms Vl i=false)∧(∀ i:Nat,Ms VH i=false)∧(∀ i:Nat,Ms Vx i=false)∧(∀ i:Nat,Ms Q7 i=false)∧(∀ i:Nat,Ms Ve i=false)∧(∀ i:Nat,Ms Zcn i=false)∧(∀ i:Nat,Ms Um i=false)∧(∀ i:Nat,Ms Jt i=false)∧(∀ i:Nat,Ms Un i=false)∧(∀ i:Nat,Ms Zco i=false)∧(∀ i:Nat,Ms Ju i=false)∧(∀ i:Nat,Ms Wi i=false)∧(∀ i:Nat,Ms Jv i=false)∧(∀ i:Nat,Ms Zcp i=false)∧(∀ i:Nat,Ms Xw i=false)∧(∀ i:Nat,Ms WJ i=false)∧(∀ i:Nat,Ms UX i=false)∧(∀ i:Nat,Ms YZ i=false)∧(∀ i:Nat,Ms Jw i=false)∧(∀ i:Nat,Ms Y0 i=false)∧(∀ i:Nat,Ms Y1 i=false)∧(∀ i:Nat,Ms Jx i=false)∧(∀ i:Nat,Ms Jy i=false)∧(∀ i:Nat,Ms UH i=false)∧(∀ i:Nat,Ms Za7 i=false)∧(∀ i:Nat,Ms Zep i=false)∧(∀ i:Nat,Ms XX i=false)∧(∀ i:Nat,Ms Vm i=false)∧(∀ i:Nat,Ms Yv i=false)∧(∀ i:Nat,Ms Xg i=false)∧(∀ i:Nat,Ms Y2 i=false)∧(∀ i:Nat,Ms Vn i=false)∧(∀ i:Nat,Ms VI i=false)∧(∀ i:Nat,Ms VJ i=false)∧(∀ i:Nat,Ms Wj i=false)∧(∀ i:Nat,Ms Uo i=false)∧(∀ i:Nat,Ms Jz i=false)∧(∀ i:Nat,Ms JA i=false)∧(∀ i:Nat,Ms Up i=false)∧(∀ i:Nat,Ms ZbX i=false)∧(∀ i:Nat,Ms VK i=false)∧(∀ i:Nat,Ms WK i=false)∧(∀ i:Nat,Ms VL i=false)∧(∀ i:Nat,Ms WL i=false)∧(∀ i:Nat,Ms JB i=false)∧(∀ i:Nat,Ms UY i=false)∧(∀ i:Nat,Ms Y3 i=false)∧(∀ i:Nat,Ms Wk i=false)∧(∀ i:Nat,Ms JC i=false)∧(∀ i:Nat,Ms Vo i=false)∧(∀ i:Nat,Ms Zcq i=false)∧(∀ i:Nat,Ms WM i=false)∧(∀ i:Nat,Ms JD i=false)∧(∀ i:Nat,Ms YJ i=false)∧(∀ i:Nat,Ms Wl i=false)∧(∀ i:Nat,Ms JE i=false)∧(∀ i:Nat,Ms XY i=false)∧(∀ i:Nat,Ms Zcr i=false)∧(∀ i:Nat,Ms Uq i=false)∧(∀ i:Nat,Ms Vp i=false)∧(∀ i:Nat,Ms Xx i=false)∧(∀ i:Nat,Ms YK i=false)∧(∀ i:Nat,Ms Xm i=false)∧(∀ i:Nat,Ms JF i=false)∧(∀ i:Nat,Ms Yr i=false)∧(∀ i:Nat,Ms UZ i=false)∧(∀ i:Nat,Ms X6 i=false)∧(∀ i:Nat,Ms WN i=false)∧(∀ i:Nat,Ms Wm i=false)∧(∀ i:Nat,Ms JG i=false)∧(∀ i:Nat,Ms Wn i=false)∧(∀ i:Nat,Ms Wo i=false)∧(∀ i:Nat,Ms Zcs i=false)∧(∀ i:Nat,Ms JH i=false)∧(∀ i:Nat,Ms Vq i=false)∧(∀ i:Nat,Ms Zeq i=false)∧(∀ i:Nat,Ms Yh i=false):=⟨fun _=>rfl,fun _=>rfl,fun _=>rfl,fun _=>rfl,fun _=>rfl,fun _=>rfl,fun _=>rfl,fun _=>rfl,fun _=>rfl,fun _=>rfl,fun _=>rfl,fun _=>rfl,fun _=>rfl,fun _=>rfl,fun _=>rfl,fun _=>rfl,fun _=>rfl,fun _=>rfl,fun _=>rfl,fun _=>rfl,fun _=>rfl,fun _=>rfl,fun _=>rfl,fun _=>rfl,fun _=>rfl,fun _=>rfl,fun _=>rfl,fun _=>rfl,fun _=>rfl,fun _=>rfl,fun _=>rfl,fun _=>rfl,fun _=>rfl,fun _=>rfl,fun _=>rfl,fun _=>rfl,fun _=>rfl,fun _=>rfl,fun _=>rfl,fun _=>rfl,fun _=>rfl,fun _=>rfl,fun _=>rfl,fun _=>rfl,fun _=>rfl,fun _=>rfl,fun _=>rfl,fun _=>rfl,fun _=>rfl,fun _=>rfl,fun _=>rfl,fun _=>rfl,fun _=>rfl,fun _=>rfl,fun _=>rfl,fun _=>rfl,fun _=>rfl,fun _=>rfl,fun _=>rfl,fun _=>rfl,fun _=>rfl,fun _=>rfl,fun _=>rfl,fun _=>rfl,fun _=>rfl,fun _=>rfl,fun _=>rfl,fun _=>rfl,fun _=>rfl,fun _=>rfl,fun _=>rfl,fun _=>rfl,fun _=>rfl,fun _=>rfl,fun _=>rfl,fun _=>rfl,fun _=>rfl,fun _=>rfl,fun _=>rfl,fun _=>rfl,fun _=>rfl,fun _=>rfl,fun _=>rfl,fun _=>rfl,fun _=>rfl,fun _=>rfl,fun _=>rfl,fun _=>rfl,fun _=>rfl,fun _=>rfl,fun _=>rfl,fun _=>rfl,fun _=>rfl,fun _=>rfl,fun _=>rfl,fun _=>rfl,fun _=>rfl,fun _=>rfl,fun _=>rfl,fun _=>rfl,fun _=>rfl,fun _=>rfl,fun _=>rfl,fun _=>rfl,fun _=>rfl,fun _=>rfl,fun _=>rfl,fun _=>rfl,fun _=>rfl,fun _=>rfl,fun _=>rfl,fun _=>rfl,fun _=>rfl,fun _=>rfl,fun _=>rfl,fun _=>rfl,fun _=>rfl,fun _=>rfl,fun _=>rfl,fun _=>rfl,fun _=>rfl,fun _=>rfl,fun _=>rfl,fun _=>rfl,fun _=>rfl,fun _=>rfl,fun _=>rfl,fun _=>rfl,fun _=>rfl,fun _=>rfl,fun _=>rfl,fun _=>rfl,fun _=>rfl,fun _=>rfl,fun _=>rfl,fun _=>rfl,fun _=>rfl,fun _=>rfl,fun _=>rfl,fun _=>rfl,fun _=>rfl,fun _=>rfl,fun _=>rfl,fun _=>rfl,fun _=>rfl,fun _=>rfl,fun _=>rfl,fun _=>rfl,fun _=>rfl,fun _=>rfl,fun _=>rfl,fun _=>rfl,fun _=>rfl,fun _=>rfl,fun _=>rfl,fun _=>rfl⟩
@[go_sem] theorem ZBL:Ms Z8 0=true:=rfl
@[go_sem] theorem ZBM:Ms Z8 1=false:=rfl
@[go_sem] theorem ZBN:Ms Z8 2=false:=rfl
@[go_sem] theorem ZBO:Ms Z8 3=false:=rfl
@[go_sem] theorem ZBP:Ms Z8 4=false:=rfl
@[go_sem] theorem ZBQ:Ms Z8 5=false:=rfl
@[go_sem] theorem ZAA:Ms Z8 99=true:=rfl
@[go_sem] theorem ZAB:Ms Qb 0=true:=rfl
@[go_sem] theorem ZAC:Ms Qb 1=false:=rfl
@[go_sem] theorem ZAD:Ms Qb 2=false:=rfl
@[go_sem] theorem ZAE:Ms Qb 3=false:=rfl
@[go_sem] theorem ZAF:Ms Qb 4=false:=rfl
@[go_sem] theorem ZAG:Ms Qb 5=false:=rfl
@[go_sem] theorem ZAe:Ms Qb 99=true:=rfl
@[go_sem] theorem ZAf:Ms Z1 0=true:=rfl
@[go_sem] theorem ZAg:Ms Z1 1=false:=rfl
@[go_sem] theorem ZAh:Ms Z1 2=false:=rfl
@[go_sem] theorem ZAi:Ms Z1 3=false:=rfl
@[go_sem] theorem ZAj:Ms Z1 4=false:=rfl
@[go_sem] theorem ZAk:Ms Z1 5=false:=rfl
@[go_sem] theorem Zzd:Ms Z1 99=true:=rfl
@[go_sem] theorem ZAl:Ms Z2 0=true:=rfl
@[go_sem] theorem ZAm:Ms Z2 1=false:=rfl
@[go_sem] theorem ZAn:Ms Z2 2=false:=rfl
@[go_sem] theorem ZAo:Ms Z2 3=false:=rfl
@[go_sem] theorem ZAp:Ms Z2 4=false:=rfl
@[go_sem] theorem ZAq:Ms Z2 5=false:=rfl
@[go_sem] theorem Zze:Ms Z2 99=true:=rfl
@[go_sem] theorem ZAH:Ms Qc 0=true:=rfl
@[go_sem] theorem ZAI:Ms Qc 1=false:=rfl
@[go_sem] theorem ZAJ:Ms Qc 2=false:=rfl
@[go_sem] theorem ZAK:Ms Qc 3=false:=rfl
@[go_sem] theorem ZAL:Ms Qc 4=false:=rfl
@[go_sem] theorem ZAM:Ms Qc 5=false:=rfl
@[go_sem] theorem ZAr:Ms Qc 99=true:=rfl
@[go_sem] theorem ZBR:Ms Qt 0=true:=rfl
@[go_sem] theorem ZBS:Ms Qt 1=false:=rfl
@[go_sem] theorem ZBT:Ms Qt 2=false:=rfl
@[go_sem] theorem ZBU:Ms Qt 3=false:=rfl
@[go_sem] theorem ZBV:Ms Qt 4=false:=rfl
@[go_sem] theorem ZBW:Ms Qt 5=false:=rfl
@[go_sem] theorem ZAN:Ms Qt 99=true:=rfl
@[go_sem] theorem ZAO:Ms ZQ 0=true:=rfl
@[go_sem] theorem ZAP:Ms ZQ 1=false:=rfl
@[go_sem] theorem ZAQ:Ms ZQ 2=false:=rfl
@[go_sem] theorem ZAR:Ms ZQ 3=false:=rfl
@[go_sem] theorem ZAS:Ms ZQ 4=false:=rfl
@[go_sem] theorem ZAT:Ms ZQ 5=false:=rfl
@[go_sem] theorem ZAs:Ms ZQ 99=true:=rfl
@[go_sem] theorem ZBX:Ms QE 0=true:=rfl
@[go_sem] theorem ZBY:Ms QE 1=false:=rfl
@[go_sem] theorem ZBZ:Ms QE 2=false:=rfl
@[go_sem] theorem ZB0:Ms QE 3=false:=rfl
@[go_sem] theorem ZB1:Ms QE 4=false:=rfl
@[go_sem] theorem ZB2:Ms QE 5=false:=rfl
@[go_sem] theorem ZAU:Ms QE 99=true:=rfl
theorem Zm6:Xs Xm=some (.prim (ZqT 5 40)):=rfl
theorem Zlv:Xs ZO=some (.prim (Zl1 5 40 Jl)):=rfl
@[go_sem] theorem Zxd:Ms ZO 0=true:=rfl
@[go_sem] theorem Zxe:Ms ZO 1=false:=rfl
@[go_sem] theorem Zxf:Ms ZO 2=false:=rfl
@[go_sem] theorem Zxg:Ms ZO 3=false:=rfl
@[go_sem] theorem Zxh:Ms ZO 4=false:=rfl
@[go_sem] theorem Zxi:Ms ZO 5=false:=rfl
@[go_sem] theorem ZwW:Ms ZO 99=false:=rfl
@[go_sem] theorem ZB3:Ms Qh 0=true:=rfl
@[go_sem] theorem ZB4:Ms Qh 1=false:=rfl
@[go_sem] theorem ZB5:Ms Qh 2=false:=rfl
@[go_sem] theorem ZB6:Ms Qh 3=false:=rfl
@[go_sem] theorem ZB7:Ms Qh 4=false:=rfl
@[go_sem] theorem ZB8:Ms Qh 5=false:=rfl
@[go_sem] theorem ZAV:Ms Qh 99=false:=rfl
end
end Go.Proofs.YthgciclhiaoecaaGreat
