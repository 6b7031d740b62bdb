/- Own text. -/
import Derived.Test.YtnachaiejoflhaaBCodeA
set_option maxRecDepth 20000
namespace Go.Proofs.Ytnachaiejoflhaa
open Go Go.Abs Go.Abs.Q
noncomputable section
def tbl:List (Nat×Go.Abs.Fn):=[(QK,.text Z6),(UX,.text Zdx),(Qk,.text ZaV),(UY,.text ZaW),(YA,.text ZaX),(YB,.text Zdy),(Xa,.text Zdz),(UZ,.text ZdA),(YC,.text ZdB),(Ql,.text ZaY),(Z9,.text ZaZ),(V1,.text Za0),(WT,.text Js),(YD,.text Xc),(XK,.text Zb8),(XE,.text XH),(XP,.text Za1),(VC,.text Zb9),(Z0,.text JI),(ZO,.text Wc),(XF,.text U6),(WU,.text Zca),(Z1,.text JJ),(WV,.text Jt),(WW,.text Ju),(Y8,.text X5),(WX,.text Zcb),(WY,.text Zcc),(VD,.text W1),(XQ,.text Um),(Zac,.text Zfi),(WZ,.text Zcd),(ZN,.text JK),(VE,.text Zce),(U0,.text Za2),(YE,.text U7),(V2,.text YQ),(ZH,.text Zcf),(V3,.text Za3),(U1,.text ZdC),(V4,.text XV),(Xh,.text Vk),(U2,.text ZdD),(Y9,.text JL),(XR,.text Qm),(QP,.text QQ),(Zad,.text Zfj),(U3,.text ZdE),(X4,.text X6),(ZW,.text QR),(V5,.text Za4),(V6,.text Za5),(V7,.text Za6),(Zae,.text Zfk),(Va,.text WK),(XS,.text Za7),(YP,.text Un),(Vb,.text X7),(V8,.text Za8),(W0,.text Zcg),(V9,.text Za9),(Vc,.text JM),(U4,.text ZdF),(XG,.text Wd),(Wa,.text Zba),(Vd,.text JN),(YF,.text U8),(U5,.text ZdG),(Ve,.text JO),(Vf,.text JP),(YG,.text U9),(XT,.text QS),(Zaf,.text Zfl),(Xb,.text Zy),(Vr,.text Zbb),(YH,.text WC),(Xq,.text WD),(XU,.text Zbc),(Wb,.text Zbd)]
def Xs:Fns:=fun f=>lkp tbl f
def Ms:Zh:=fun f i=>(f==ZW&&i==0) || (f==ZO&&i==0) || (f==ZO&&i==99) || (f==Z0&&i==0) || (f==Z0&&i==99) || (f==Z9&&i==0) || (f==Z9&&i==99) || (f==Z1&&i==0) || (f==Z1&&i==99) || (f==ZN&&i==0) || (f==ZN&&i==99) || (f==Ql&&i==0) || (f==Ql&&i==99) || (f==Qk&&i==0) || (f==Qk&&i==99)
@[go_sem] theorem ms_all:(∀ i:Nat,Ms QK i=false)∧(∀ i:Nat,Ms UX i=false)∧(∀ i:Nat,Ms UY i=false)∧(∀ i:Nat,Ms YA i=false)∧(∀ i:Nat,Ms YB i=false)∧(∀ i:Nat,Ms Xa i=false)∧(∀ i:Nat,Ms UZ i=false)∧(∀ i:Nat,Ms YC i=false)∧(∀ i:Nat,Ms V1 i=false)∧(∀ i:Nat,Ms WT i=false)∧(∀ i:Nat,Ms YD i=false)∧(∀ i:Nat,Ms XK i=false)∧(∀ i:Nat,Ms XE i=false)∧(∀ i:Nat,Ms XP i=false)∧(∀ i:Nat,Ms VC i=false)∧(∀ i:Nat,Ms XF i=false)∧(∀ i:Nat,Ms WU i=false)∧(∀ i:Nat,Ms WV i=false)∧(∀ i:Nat,Ms WW i=false)∧(∀ i:Nat,Ms Y8 i=false)∧(∀ i:Nat,Ms WX i=false)∧(∀ i:Nat,Ms WY i=false)∧(∀ i:Nat,Ms VD i=false)∧(∀ i:Nat,Ms XQ i=false)∧(∀ i:Nat,Ms Zac i=false)∧(∀ i:Nat,Ms WZ i=false)∧(∀ i:Nat,Ms VE i=false)∧(∀ i:Nat,Ms U0 i=false)∧(∀ i:Nat,Ms YE i=false)∧(∀ i:Nat,Ms V2 i=false)∧(∀ i:Nat,Ms ZH i=false)∧(∀ i:Nat,Ms V3 i=false)∧(∀ i:Nat,Ms U1 i=false)∧(∀ i:Nat,Ms V4 i=false)∧(∀ i:Nat,Ms Xh i=false)∧(∀ i:Nat,Ms U2 i=false)∧(∀ i:Nat,Ms Y9 i=false)∧(∀ i:Nat,Ms XR i=false)∧(∀ i:Nat,Ms QP i=false)∧(∀ i:Nat,Ms Zad i=false)∧(∀ i:Nat,Ms U3 i=false)∧(∀ i:Nat,Ms X4 i=false)∧(∀ i:Nat,Ms V5 i=false)∧(∀ i:Nat,Ms V6 i=false)∧(∀ i:Nat,Ms V7 i=false)∧(∀ i:Nat,Ms Zae i=false)∧(∀ i:Nat,Ms Va i=false)∧(∀ i:Nat,Ms XS i=false)∧(∀ i:Nat,Ms YP i=false)∧(∀ i:Nat,Ms Vb i=false)∧(∀ i:Nat,Ms V8 i=false)∧(∀ i:Nat,Ms W0 i=false)∧(∀ i:Nat,Ms V9 i=false)∧(∀ i:Nat,Ms Vc i=false)∧(∀ i:Nat,Ms U4 i=false)∧(∀ i:Nat,Ms XG i=false)∧(∀ i:Nat,Ms Wa i=false)∧(∀ i:Nat,Ms Vd i=false)∧(∀ i:Nat,Ms YF i=false)∧(∀ i:Nat,Ms U5 i=false)∧(∀ i:Nat,Ms Ve i=false)∧(∀ i:Nat,Ms Vf i=false)∧(∀ i:Nat,Ms YG i=false)∧(∀ i:Nat,Ms XT i=false)∧(∀ i:Nat,Ms Zaf i=false)∧(∀ i:Nat,Ms Xb i=false)∧(∀ i:Nat,Ms Vr i=false)∧(∀ i:Nat,Ms YH i=false)∧(∀ i:Nat,Ms Xq i=false)∧(∀ i:Nat,Ms XU i=false)∧(∀ i:Nat,Ms Wb i=false):=⟨fun _=>rfl,fun _=>rfl,fun _=>rfl,fun _=>rfl,fun _=>rfl,fun _=>rfl,fun _=>rfl,fun _=>rfl,fun _=>rfl,fun _=>rfl,fun _=>rfl,fun _=>rfl,fun _=>rfl,fun _=>rfl,fun _=>rfl,fun _=>rfl,fun _=>rfl,fun _=>rfl,fun _=>rfl,fun _=>rfl,fun _=>rfl,fun _=>rfl,fun _=>rfl,fun _=>rfl,fun _=>rfl,fun _=>rfl,fun _=>rfl,fun _=>rfl,fun _=>rfl,fun _=>rfl,fun _=>rfl,fun _=>rfl,fun _=>rfl,fun _=>rfl,fun _=>rfl,fun _=>rfl,fun _=>rfl,fun _=>rfl,fun _=>rfl,fun _=>rfl,fun _=>rfl,fun _=>rfl,fun _=>rfl,fun _=>rfl,fun _=>rfl,fun _=>rfl,fun _=>rfl,fun _=>rfl,fun _=>rfl,fun _=>rfl,fun _=>rfl,fun _=>rfl,fun _=>rfl,fun _=>rfl,fun _=>rfl,fun _=>rfl,fun _=>rfl,fun _=>rfl,fun _=>rfl,fun _=>rfl,fun _=>rfl,fun _=>rfl,fun _=>rfl,fun _=>rfl,fun _=>rfl,fun _=>rfl,fun _=>rfl,fun _=>rfl,fun _=>rfl,fun _=>rfl,fun _=>rfl⟩
@[go_sem] theorem Zrn:Ms Qk 0=true:=rfl
@[go_sem] theorem Zro:Ms Qk 1=false:=rfl
@[go_sem] theorem Zrp:Ms Qk 2=false:=rfl
@[go_sem] theorem Zrq:Ms Qk 3=false:=rfl
@[go_sem] theorem Zrr:Ms Qk 4=false:=rfl
@[go_sem] theorem Zrs:Ms Qk 5=false:=rfl
@[go_sem] theorem ZqY:Ms Qk 99=true:=rfl
@[go_sem] theorem Zrt:Ms Ql 0=true:=rfl
@[go_sem] theorem Zru:Ms Ql 1=false:=rfl
@[go_sem] theorem Zrv:Ms Ql 2=false:=rfl
@[go_sem] theorem Zrw:Ms Ql 3=false:=rfl
@[go_sem] theorem Zrx:Ms Ql 4=false:=rfl
@[go_sem] theorem Zry:Ms Ql 5=false:=rfl
@[go_sem] theorem ZqZ:Ms Ql 99=true:=rfl
@[go_sem] theorem Zrz:Ms Z9 0=true:=rfl
@[go_sem] theorem ZrA:Ms Z9 1=false:=rfl
@[go_sem] theorem ZrB:Ms Z9 2=false:=rfl
@[go_sem] theorem ZrC:Ms Z9 3=false:=rfl
@[go_sem] theorem ZrD:Ms Z9 4=false:=rfl
@[go_sem] theorem ZrE:Ms Z9 5=false:=rfl
@[go_sem] theorem Zq0:Ms Z9 99=true:=rfl
@[go_sem] theorem Zq1:Ms Z0 0=true:=rfl
@[go_sem] theorem Zq2:Ms Z0 1=false:=rfl
@[go_sem] theorem Zq3:Ms Z0 2=false:=rfl
@[go_sem] theorem Zq4:Ms Z0 3=false:=rfl
@[go_sem] theorem Zq5:Ms Z0 4=false:=rfl
@[go_sem] theorem Zq6:Ms Z0 5=false:=rfl
@[go_sem] theorem ZpX:Ms Z0 99=true:=rfl
@[go_sem] theorem ZpY:Ms ZO 0=true:=rfl
@[go_sem] theorem ZpZ:Ms ZO 1=false:=rfl
@[go_sem] theorem Zp0:Ms ZO 2=false:=rfl
@[go_sem] theorem Zp1:Ms ZO 3=false:=rfl
@[go_sem] theorem Zp2:Ms ZO 4=false:=rfl
@[go_sem] theorem Zp3:Ms ZO 5=false:=rfl
@[go_sem] theorem ZpV:Ms ZO 99=true:=rfl
@[go_sem] theorem Zq7:Ms Z1 0=true:=rfl
@[go_sem] theorem Zq8:Ms Z1 1=false:=rfl
@[go_sem] theorem Zq9:Ms Z1 2=false:=rfl
@[go_sem] theorem Zra:Ms Z1 3=false:=rfl
@[go_sem] theorem Zrb:Ms Z1 4=false:=rfl
@[go_sem] theorem Zrc:Ms Z1 5=false:=rfl
@[go_sem] theorem Zp4:Ms Z1 99=true:=rfl
@[go_sem] theorem Zrd:Ms ZN 0=true:=rfl
@[go_sem] theorem Zre:Ms ZN 1=false:=rfl
@[go_sem] theorem Zrf:Ms ZN 2=false:=rfl
@[go_sem] theorem Zrg:Ms ZN 3=false:=rfl
@[go_sem] theorem Zrh:Ms ZN 4=false:=rfl
@[go_sem] theorem Zri:Ms ZN 5=false:=rfl
@[go_sem] theorem Zp5:Ms ZN 99=true:=rfl
@[go_sem] theorem ZrF:Ms ZW 0=true:=rfl
@[go_sem] theorem ZrG:Ms ZW 1=false:=rfl
@[go_sem] theorem ZrH:Ms ZW 2=false:=rfl
@[go_sem] theorem ZrI:Ms ZW 3=false:=rfl
@[go_sem] theorem ZrJ:Ms ZW 4=false:=rfl
@[go_sem] theorem ZrK:Ms ZW 5=false:=rfl
@[go_sem] theorem Zrj:Ms ZW 99=false:=rfl
end
end Go.Proofs.Ytnachaiejoflhaa
