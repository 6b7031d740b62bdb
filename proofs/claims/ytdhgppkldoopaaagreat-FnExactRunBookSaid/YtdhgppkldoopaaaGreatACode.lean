/- Own text. -/
import Derived.Test.YtdhgppkldoopaaaGreatACodeA
set_option maxRecDepth 20000
namespace Go.Proofs.YtdhgppkldoopaaaGreat
open Go Go.Abs Go.Abs.Q
noncomputable section
abbrev UJ:D:=(.agg [(.int .i64 0),(.int .i64 0),(.bool false),(.int .i64 0),(.int .i64 0)])
def tbl:List (Nat×Go.Abs.Fn):=[(XY,.text Xc),(Q6,.text QG),(UK,.text ZaU),(Zaj,.text Zat),(Yc,.text Zd3),(Ul,.text Zce),(XZ,.text ZiY),(UM,.text Zd4),(Z6,.text ZbC),(Z0,.text U8),(Yd,.text Zd5),(Zbr,.text JQ),(Um,.text Zcf),(VS,.text V4),(VT,.text ZiZ),(Ye,.text ZfP),(Z1,.text Z3),(Un,.text ZfQ),(Qh,.text ZcJ),(Zak,.text ZfR),(UN,.text Zd6),(Uo,.text ZfS),(ZV,.text ZcK),(Z2,.text U9),(Z9,.text ZcL),(VU,.text ZbD),(Vi,.text ZcM),(UO,.text ZaV),(Up,.text Zcg),(VV,.text Zd7),(Vj,.text XS),(Xr,.text Zu),(UP,.text Zd8),(Uq,.text ZfT),(Zba,.text Zlx),(JO,.text Zi0),(VX,.text Zi1),(Yn,.text Yu),(UQ,.text Zd9),(ZB,.text ZX),(Zbb,.text Zly),(JP,.text Zi2),(VY,.text Zi3),(Qv,.text Zea),(Zal,.text ZfU),(Qw,.text Zeb),(UR,.text Zec),(Zam,.text Zch),(Zan,.text Zci),(QT,.text ZbE),(YG,.text ZbF),(ZL,.text ZfV),(US,.text Zed),(QU,.text QV),(Yo,.text Vn),(UT,.text Ws),(UU,.text Zee),(Zao,.text ZfW),(Zbs,.text Zi4),(Zap,.text ZfX),(Xt,.text Ja),(X0,.text Jb),(WQ,.text ZcN),(WR,.text ZcO),(Yp,.text ZcP),(Wk,.text Wt),(Ur,.text Zcj),(YH,.text Jc),(UV,.text Wu),(YI,.text V5),(YJ,.text Jd),(Zbt,.text Zi5),(Zaq,.text ZfY),(Zbu,.text Zi6),(Zbv,.text Zef),(YK,.text ZbG),(Yq,.text ZcQ),(WS,.text ZcR),(WT,.text ZcS),(XP,.text ZcT),(Wl,.text Wv),(Xh,.text ZcU),(YS,.text Zck),(Wm,.text Zeg),(Vk,.text ZcV),(Zbw,.text Zi7),(UW,.text Yf),(VZ,.text Zau),(UX,.text Zeh),(Zbx,.text Zi8),(Zby,.text Zi9),(Xu,.text Je),(Yr,.text ZcW),(YV,.text Zei),(Xi,.text ZcX),(UY,.text Y2),(Us,.text ZfZ),(XQ,.text ZcY),(YL,.text YN),(V0,.text Zcl),(Zar,.text Zav),(UZ,.text XL),(YW,.text Zej),(Zbz,.text Zja),(Wn,.text Ww),(U0,.text Zek),(Ys,.text WZ),(U1,.text Zel),(U2,.text Zem),(U3,.text Zen),(U4,.text Wx),(U5,.text Zeo),(WU,.text Zab),(Zbc,.text Zlz),(Vl,.text Vo),(Wo,.text Zep),(Vm,.text ZcZ),(Wp,.text Zeq),(YX,.text Zer),(YY,.text Zes),(Wq,.text ZaW),(Q7,.text Vv),(YM,.text ZbH),(Xv,.text V6),(X9,.text ZaF),(Xb,.prim (ZoW 5 40)),(U6,.text Y3),(Ya,.text W6),(Ut,.text Zaw),(XR,.text Vp),(ZP,.prim (ZkA 5 40 UJ)),(Wr,.text Zet),(Zas,.text Zf0),(ZbA,.text Zjb),(WV,.text Zc0),(YZ,.text Qx),(Xj,.text Xk),(Yt,.text JR),(V1,.text JS),(WW,.text Zc1),(V2,.text ZbI),(ZbB,.text Zjc),(Qe,.text Xl),(Uu,.text Zf1),(WX,.text Zac),(U7,.text Zeu),(Y0,.text Xm),(Uc,.text Zev),(V3,.text ZbJ),(Zdu,.text ZlA),(Y1,.text ZaX),(X1,.text ZN),(WY,.text Vq)]
def Xs:Fns:=fun f=>lkp tbl f
def Ms:Zm:=fun f i=>(f==Qe&&i==0) || (f==ZP&&i==0) || (f==Z2&&i==0) || (f==Z2&&i==99) || (f==Qw&&i==0) || (f==Qw&&i==99) || (f==Z9&&i==0) || (f==Z9&&i==99) || (f==ZV&&i==0) || (f==ZV&&i==99) || (f==Qv&&i==0) || (f==Qv&&i==99) || (f==Z6&&i==0) || (f==Z6&&i==99) || (f==Qh&&i==0) || (f==Qh&&i==99) || (f==Z0&&i==0) || (f==Z0&&i==99)
@[go_sem] theorem ms_all:(∀ i:Nat,Ms XY i=false)∧(∀ i:Nat,Ms Q6 i=false)∧(∀ i:Nat,Ms UK i=false)∧(∀ i:Nat,Ms Zaj i=false)∧(∀ i:Nat,Ms Yc i=false)∧(∀ i:Nat,Ms Ul i=false)∧(∀ i:Nat,Ms XZ i=false)∧(∀ i:Nat,Ms UM i=false)∧(∀ i:Nat,Ms Yd i=false)∧(∀ i:Nat,Ms Zbr i=false)∧(∀ i:Nat,Ms Um i=false)∧(∀ i:Nat,Ms VS i=false)∧(∀ i:Nat,Ms VT i=false)∧(∀ i:Nat,Ms Ye i=false)∧(∀ i:Nat,Ms Z1 i=false)∧(∀ i:Nat,Ms Un i=false)∧(∀ i:Nat,Ms Zak i=false)∧(∀ i:Nat,Ms UN i=false)∧(∀ i:Nat,Ms Uo i=false)∧(∀ i:Nat,Ms VU i=false)∧(∀ i:Nat,Ms Vi i=false)∧(∀ i:Nat,Ms UO i=false)∧(∀ i:Nat,Ms Up i=false)∧(∀ i:Nat,Ms VV i=false)∧(∀ i:Nat,Ms Vj i=false)∧(∀ i:Nat,Ms Xr i=false)∧(∀ i:Nat,Ms UP i=false)∧(∀ i:Nat,Ms Uq i=false)∧(∀ i:Nat,Ms Zba i=false)∧(∀ i:Nat,Ms JO i=false)∧(∀ i:Nat,Ms VX i=false)∧(∀ i:Nat,Ms Yn i=false)∧(∀ i:Nat,Ms UQ i=false)∧(∀ i:Nat,Ms ZB i=false)∧(∀ i:Nat,Ms Zbb i=false)∧(∀ i:Nat,Ms JP i=false)∧(∀ i:Nat,Ms VY i=false)∧(∀ i:Nat,Ms Zal i=false)∧(∀ i:Nat,Ms UR i=false)∧(∀ i:Nat,Ms Zam i=false)∧(∀ i:Nat,Ms Zan i=false)∧(∀ i:Nat,Ms QT i=false)∧(∀ i:Nat,Ms YG i=false)∧(∀ i:Nat,Ms ZL i=false)∧(∀ i:Nat,Ms US i=false)∧(∀ i:Nat,Ms QU i=false)∧(∀ i:Nat,Ms Yo i=false)∧(∀ i:Nat,Ms UT i=false)∧(∀ i:Nat,Ms UU i=false)∧(∀ i:Nat,Ms Zao i=false)∧(∀ i:Nat,Ms Zbs i=false)∧(∀ i:Nat,Ms Zap i=false)∧(∀ i:Nat,Ms Xt i=false)∧(∀ i:Nat,Ms X0 i=false)∧(∀ i:Nat,Ms WQ i=false)∧(∀ i:Nat,Ms WR i=false)∧(∀ i:Nat,Ms Yp i=false)∧(∀ i:Nat,Ms Wk i=false)∧(∀ i:Nat,Ms Ur i=false)∧(∀ i:Nat,Ms YH i=false)∧(∀ i:Nat,Ms UV i=false)∧(∀ i:Nat,Ms YI i=false)∧(∀ i:Nat,Ms YJ i=false)∧(∀ i:Nat,Ms Zbt i=false)∧(∀ i:Nat,Ms Zaq i=false)∧(∀ i:Nat,Ms Zbu i=false)∧(∀ i:Nat,Ms Zbv i=false)∧(∀ i:Nat,Ms YK i=false)∧(∀ i:Nat,Ms Yq i=false)∧(∀ i:Nat,Ms WS i=false)∧(∀ i:Nat,Ms WT i=false)∧(∀ i:Nat,Ms XP i=false)∧(∀ i:Nat,Ms Wl i=false)∧(∀ i:Nat,Ms Xh i=false)∧(∀ i:Nat,Ms YS i=false)∧(∀ i:Nat,Ms Wm i=false)∧(∀ i:Nat,Ms Vk i=false)∧(∀ i:Nat,Ms Zbw i=false)∧(∀ i:Nat,Ms UW i=false)∧(∀ i:Nat,Ms VZ i=false)∧(∀ i:Nat,Ms UX i=false)∧(∀ i:Nat,Ms Zbx i=false)∧(∀ i:Nat,Ms Zby i=false)∧(∀ i:Nat,Ms Xu i=false)∧(∀ i:Nat,Ms Yr i=false)∧(∀ i:Nat,Ms YV i=false)∧(∀ i:Nat,Ms Xi i=false)∧(∀ i:Nat,Ms UY i=false)∧(∀ i:Nat,Ms Us i=false)∧(∀ i:Nat,Ms XQ i=false)∧(∀ i:Nat,Ms YL i=false)∧(∀ i:Nat,Ms V0 i=false)∧(∀ i:Nat,Ms Zar i=false)∧(∀ i:Nat,Ms UZ i=false)∧(∀ i:Nat,Ms YW i=false)∧(∀ i:Nat,Ms Zbz i=false)∧(∀ i:Nat,Ms Wn i=false)∧(∀ i:Nat,Ms U0 i=false)∧(∀ i:Nat,Ms Ys i=false)∧(∀ i:Nat,Ms U1 i=false)∧(∀ i:Nat,Ms U2 i=false)∧(∀ i:Nat,Ms U3 i=false)∧(∀ i:Nat,Ms U4 i=false)∧(∀ i:Nat,Ms U5 i=false)∧(∀ i:Nat,Ms WU i=false)∧(∀ i:Nat,Ms Zbc i=false)∧(∀ i:Nat,Ms Vl i=false)∧(∀ i:Nat,Ms Wo i=false)∧(∀ i:Nat,Ms Vm i=false)∧(∀ i:Nat,Ms Wp i=false)∧(∀ i:Nat,Ms YX i=false)∧(∀ i:Nat,Ms YY i=false)∧(∀ i:Nat,Ms Wq i=false)∧(∀ i:Nat,Ms Q7 i=false)∧(∀ i:Nat,Ms YM i=false)∧(∀ i:Nat,Ms Xv i=false)∧(∀ i:Nat,Ms X9 i=false)∧(∀ i:Nat,Ms Xb i=false)∧(∀ i:Nat,Ms U6 i=false)∧(∀ i:Nat,Ms Ya i=false)∧(∀ i:Nat,Ms Ut i=false)∧(∀ i:Nat,Ms XR i=false)∧(∀ i:Nat,Ms Wr i=false)∧(∀ i:Nat,Ms Zas i=false)∧(∀ i:Nat,Ms ZbA i=false)∧(∀ i:Nat,Ms WV i=false)∧(∀ i:Nat,Ms YZ i=false)∧(∀ i:Nat,Ms Xj i=false)∧(∀ i:Nat,Ms Yt i=false)∧(∀ i:Nat,Ms V1 i=false)∧(∀ i:Nat,Ms WW i=false)∧(∀ i:Nat,Ms V2 i=false)∧(∀ i:Nat,Ms ZbB i=false)∧(∀ i:Nat,Ms Uu i=false)∧(∀ i:Nat,Ms WX i=false)∧(∀ i:Nat,Ms U7 i=false)∧(∀ i:Nat,Ms Y0 i=false)∧(∀ i:Nat,Ms Uc i=false)∧(∀ i:Nat,Ms V3 i=false)∧(∀ i:Nat,Ms Zdu i=false)∧(∀ i:Nat,Ms Y1 i=false)∧(∀ i:Nat,Ms X1 i=false)∧(∀ i:Nat,Ms WY i=false):=⟨fun _=>rfl,fun _=>rfl,fun _=>rfl,fun _=>rfl,fun _=>rfl,fun _=>rfl,fun _=>rfl,fun _=>rfl,fun _=>rfl,fun _=>rfl,fun _=>rfl,fun _=>rfl,fun _=>rfl,fun _=>rfl,fun _=>rfl,fun _=>rfl,fun _=>rfl,fun _=>rfl,fun _=>rfl,fun _=>rfl,fun _=>rfl,fun _=>rfl,fun _=>rfl,fun _=>rfl,fun _=>rfl,fun _=>rfl,fun _=>rfl,fun _=>rfl,fun _=>rfl,fun _=>rfl,fun _=>rfl,fun _=>rfl,fun _=>rfl,fun _=>rfl,fun _=>rfl,fun _=>rfl,fun _=>rfl,fun _=>rfl,fun _=>rfl,fun _=>rfl,fun _=>rfl,fun _=>rfl,fun _=>rfl,fun _=>rfl,fun _=>rfl,fun _=>rfl,fun _=>rfl,fun _=>rfl,fun _=>rfl,fun _=>rfl,fun _=>rfl,fun _=>rfl,fun _=>rfl,fun _=>rfl,fun _=>rfl,fun _=>rfl,fun _=>rfl,fun _=>rfl,fun _=>rfl,fun _=>rfl,fun _=>rfl,fun _=>rfl,fun _=>rfl,fun _=>rfl,fun _=>rfl,fun _=>rfl,fun _=>rfl,fun _=>rfl,fun _=>rfl,fun _=>rfl,fun _=>rfl,fun _=>rfl,fun _=>rfl,fun _=>rfl,fun _=>rfl,fun _=>rfl,fun _=>rfl,fun _=>rfl,fun _=>rfl,fun _=>rfl,fun _=>rfl,fun _=>rfl,fun _=>rfl,fun _=>rfl,fun _=>rfl,fun _=>rfl,fun _=>rfl,fun _=>rfl,fun _=>rfl,fun _=>rfl,fun _=>rfl,fun _=>rfl,fun _=>rfl,fun _=>rfl,fun _=>rfl,fun _=>rfl,fun _=>rfl,fun _=>rfl,fun _=>rfl,fun _=>rfl,fun _=>rfl,fun _=>rfl,fun _=>rfl,fun _=>rfl,fun _=>rfl,fun _=>rfl,fun _=>rfl,fun _=>rfl,fun _=>rfl,fun _=>rfl,fun _=>rfl,fun _=>rfl,fun _=>rfl,fun _=>rfl,fun _=>rfl,fun _=>rfl,fun _=>rfl,fun _=>rfl,fun _=>rfl,fun _=>rfl,fun _=>rfl,fun _=>rfl,fun _=>rfl,fun _=>rfl,fun _=>rfl,fun _=>rfl,fun _=>rfl,fun _=>rfl,fun _=>rfl,fun _=>rfl,fun _=>rfl,fun _=>rfl,fun _=>rfl,fun _=>rfl,fun _=>rfl,fun _=>rfl,fun _=>rfl,fun _=>rfl,fun _=>rfl,fun _=>rfl,fun _=>rfl,fun _=>rfl,fun _=>rfl⟩
@[go_sem] theorem ZxP:Ms Z6 0=true:=rfl
@[go_sem] theorem ZxQ:Ms Z6 1=false:=rfl
@[go_sem] theorem ZxR:Ms Z6 2=false:=rfl
@[go_sem] theorem ZxS:Ms Z6 3=false:=rfl
@[go_sem] theorem ZxT:Ms Z6 4=false:=rfl
@[go_sem] theorem ZxU:Ms Z6 5=false:=rfl
@[go_sem] theorem ZwO:Ms Z6 99=true:=rfl
@[go_sem] theorem Zzm:Ms Z0 0=true:=rfl
@[go_sem] theorem Zzn:Ms Z0 1=false:=rfl
@[go_sem] theorem Zzo:Ms Z0 2=false:=rfl
@[go_sem] theorem Zzp:Ms Z0 3=false:=rfl
@[go_sem] theorem Zzq:Ms Z0 4=false:=rfl
@[go_sem] theorem Zzr:Ms Z0 5=false:=rfl
@[go_sem] theorem Zyb:Ms Z0 99=true:=rfl
@[go_sem] theorem Zyc:Ms Qh 0=true:=rfl
@[go_sem] theorem Zyd:Ms Qh 1=false:=rfl
@[go_sem] theorem Zye:Ms Qh 2=false:=rfl
@[go_sem] theorem Zyf:Ms Qh 3=false:=rfl
@[go_sem] theorem Zyg:Ms Qh 4=false:=rfl
@[go_sem] theorem Zyh:Ms Qh 5=false:=rfl
@[go_sem] theorem ZxV:Ms Qh 99=true:=rfl
@[go_sem] theorem Zyi:Ms ZV 0=true:=rfl
@[go_sem] theorem Zyj:Ms ZV 1=false:=rfl
@[go_sem] theorem Zyk:Ms ZV 2=false:=rfl
@[go_sem] theorem Zyl:Ms ZV 3=false:=rfl
@[go_sem] theorem Zym:Ms ZV 4=false:=rfl
@[go_sem] theorem Zyn:Ms ZV 5=false:=rfl
@[go_sem] theorem ZxW:Ms ZV 99=true:=rfl
@[go_sem] theorem ZxX:Ms Z2 0=true:=rfl
@[go_sem] theorem ZxY:Ms Z2 1=false:=rfl
@[go_sem] theorem ZxZ:Ms Z2 2=false:=rfl
@[go_sem] theorem Zx0:Ms Z2 3=false:=rfl
@[go_sem] theorem Zx1:Ms Z2 4=false:=rfl
@[go_sem] theorem Zx2:Ms Z2 5=false:=rfl
@[go_sem] theorem ZwP:Ms Z2 99=true:=rfl
@[go_sem] theorem Zyo:Ms Z9 0=true:=rfl
@[go_sem] theorem Zyp:Ms Z9 1=false:=rfl
@[go_sem] theorem Zyq:Ms Z9 2=false:=rfl
@[go_sem] theorem Zyr:Ms Z9 3=false:=rfl
@[go_sem] theorem Zys:Ms Z9 4=false:=rfl
@[go_sem] theorem Zyt:Ms Z9 5=false:=rfl
@[go_sem] theorem Zx3:Ms Z9 99=true:=rfl
@[go_sem] theorem Zzs:Ms Qv 0=true:=rfl
@[go_sem] theorem Zzt:Ms Qv 1=false:=rfl
@[go_sem] theorem Zzu:Ms Qv 2=false:=rfl
@[go_sem] theorem Zzv:Ms Qv 3=false:=rfl
@[go_sem] theorem Zzw:Ms Qv 4=false:=rfl
@[go_sem] theorem Zzx:Ms Qv 5=false:=rfl
@[go_sem] theorem Zyu:Ms Qv 99=true:=rfl
@[go_sem] theorem Zzy:Ms Qw 0=true:=rfl
@[go_sem] theorem Zzz:Ms Qw 1=false:=rfl
@[go_sem] theorem ZzA:Ms Qw 2=false:=rfl
@[go_sem] theorem ZzB:Ms Qw 3=false:=rfl
@[go_sem] theorem ZzC:Ms Qw 4=false:=rfl
@[go_sem] theorem ZzD:Ms Qw 5=false:=rfl
@[go_sem] theorem Zyv:Ms Qw 99=true:=rfl
theorem Zlw:Xs Xb=some (.prim (ZoW 5 40)):=rfl
theorem Zj2:Xs ZP=some (.prim (ZkA 5 40 UJ)):=rfl
@[go_sem] theorem ZuY:Ms ZP 0=true:=rfl
@[go_sem] theorem ZuZ:Ms ZP 1=false:=rfl
@[go_sem] theorem Zu0:Ms ZP 2=false:=rfl
@[go_sem] theorem Zu1:Ms ZP 3=false:=rfl
@[go_sem] theorem Zu2:Ms ZP 4=false:=rfl
@[go_sem] theorem Zu3:Ms ZP 5=false:=rfl
@[go_sem] theorem ZuN:Ms ZP 99=false:=rfl
@[go_sem] theorem ZzE:Ms Qe 0=true:=rfl
@[go_sem] theorem ZzF:Ms Qe 1=false:=rfl
@[go_sem] theorem ZzG:Ms Qe 2=false:=rfl
@[go_sem] theorem ZzH:Ms Qe 3=false:=rfl
@[go_sem] theorem ZzI:Ms Qe 4=false:=rfl
@[go_sem] theorem ZzJ:Ms Qe 5=false:=rfl
@[go_sem] theorem Zyw:Ms Qe 99=false:=rfl
end
end Go.Proofs.YtdhgppkldoopaaaGreat
