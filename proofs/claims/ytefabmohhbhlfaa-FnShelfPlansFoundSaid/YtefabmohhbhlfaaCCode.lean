/- Own text. -/
import Derived.Test.YtefabmohhbhlfaaCCodeA
set_option maxRecDepth 20000
namespace Go.Proofs.Ytefabmohhbhlfaa
open Go Go.Abs Go.Abs.Q
noncomputable section
def tbl:List (Nat×Go.Abs.Fn):=[(Xk,.text Ql),(YS,.text Wp),(Xh,.text X4),(XP,.text U6),(XQ,.text Y0),(X2,.text ZaR),(ZbI,.text Zio),(W8,.text ZbJ),(XR,.text Q7),(YT,.text U7),(Yg,.text Vu),(Vn,.text WT),(Q6,.text Z3),(QS,.text U8),(ZQ,.text Xn),(Vo,.text WU),(VQ,.text ZbK),(Yh,.text Vv),(XB,.text Yj),(Vp,.text JM),(Zab,.text ZeW),(YU,.text U9),(W9,.text Ub),(Yb,.text Yc),(Qz,.text Xj),(XU,.text ZbL),(Wk,.text ZaS),(Wl,.text ZaT),(Q4,.text Y9),(Q5,.text WV),(XC,.text WW),(Xw,.text ZbM),(Vq,.text JN),(QM,.text JO),(VR,.text XV),(X3,.text QN),(YV,.text Ja),(Ua,.text ZbN),(VS,.text Y1),(ZX,.text QO),(Xx,.text ZaU),(Y8,.text Ux),(Yi,.text Yk),(YW,.text Jb),(Vr,.text WX),(Xi,.text Zy),(Zac,.text ZeX),(Vs,.text JP),(Zk,.text Xm),(Vt,.text JQ),(Wm,.text ZaV),(UC,.text Va),(VE,.text WO),(YX,.text Jc),(Wn,.text ZaW),(Zm,.text XD),(YY,.text ZaX),(Wo,.text ZaY),(Ze,.text Qa)]
def Xs:Fns:=fun f=>lkp tbl f
def Ms:Zg:=fun f i=>(f==ZX&&i==0) || (f==Zk&&i==0) || (f==Zk&&i==99) || (f==Zm&&i==0) || (f==Zm&&i==99) || (f==Ze&&i==0) || (f==Ze&&i==99)
@[go_sem] theorem ms_all:(∀ i:Nat,Ms Xk i=false)∧(∀ i:Nat,Ms YS i=false)∧(∀ i:Nat,Ms Xh i=false)∧(∀ i:Nat,Ms XP i=false)∧(∀ i:Nat,Ms XQ i=false)∧(∀ i:Nat,Ms X2 i=false)∧(∀ i:Nat,Ms ZbI i=false)∧(∀ i:Nat,Ms W8 i=false)∧(∀ i:Nat,Ms XR i=false)∧(∀ i:Nat,Ms YT i=false)∧(∀ i:Nat,Ms Yg i=false)∧(∀ i:Nat,Ms Vn i=false)∧(∀ i:Nat,Ms Q6 i=false)∧(∀ i:Nat,Ms QS i=false)∧(∀ i:Nat,Ms ZQ i=false)∧(∀ i:Nat,Ms Vo i=false)∧(∀ i:Nat,Ms VQ i=false)∧(∀ i:Nat,Ms Yh i=false)∧(∀ i:Nat,Ms XB i=false)∧(∀ i:Nat,Ms Vp i=false)∧(∀ i:Nat,Ms Zab i=false)∧(∀ i:Nat,Ms YU i=false)∧(∀ i:Nat,Ms W9 i=false)∧(∀ i:Nat,Ms Yb i=false)∧(∀ i:Nat,Ms Qz i=false)∧(∀ i:Nat,Ms XU i=false)∧(∀ i:Nat,Ms Wk i=false)∧(∀ i:Nat,Ms Wl i=false)∧(∀ i:Nat,Ms Q4 i=false)∧(∀ i:Nat,Ms Q5 i=false)∧(∀ i:Nat,Ms XC i=false)∧(∀ i:Nat,Ms Xw i=false)∧(∀ i:Nat,Ms Vq i=false)∧(∀ i:Nat,Ms QM i=false)∧(∀ i:Nat,Ms VR i=false)∧(∀ i:Nat,Ms X3 i=false)∧(∀ i:Nat,Ms YV i=false)∧(∀ i:Nat,Ms Ua i=false)∧(∀ i:Nat,Ms VS i=false)∧(∀ i:Nat,Ms Xx i=false)∧(∀ i:Nat,Ms Y8 i=false)∧(∀ i:Nat,Ms Yi i=false)∧(∀ i:Nat,Ms YW i=false)∧(∀ i:Nat,Ms Vr i=false)∧(∀ i:Nat,Ms Xi i=false)∧(∀ i:Nat,Ms Zac i=false)∧(∀ i:Nat,Ms Vs i=false)∧(∀ i:Nat,Ms Vt i=false)∧(∀ i:Nat,Ms Wm i=false)∧(∀ i:Nat,Ms UC i=false)∧(∀ i:Nat,Ms VE i=false)∧(∀ i:Nat,Ms YX i=false)∧(∀ i:Nat,Ms Wn i=false)∧(∀ i:Nat,Ms YY i=false)∧(∀ i:Nat,Ms Wo i=false):=⟨fun _=>rfl,fun _=>rfl,fun _=>rfl,fun _=>rfl,fun _=>rfl,fun _=>rfl,fun _=>rfl,fun _=>rfl,fun _=>rfl,fun _=>rfl,fun _=>rfl,fun _=>rfl,fun _=>rfl,fun _=>rfl,fun _=>rfl,fun _=>rfl,fun _=>rfl,fun _=>rfl,fun _=>rfl,fun _=>rfl,fun _=>rfl,fun _=>rfl,fun _=>rfl,fun _=>rfl,fun _=>rfl,fun _=>rfl,fun _=>rfl,fun _=>rfl,fun _=>rfl,fun _=>rfl,fun _=>rfl,fun _=>rfl,fun _=>rfl,fun _=>rfl,fun _=>rfl,fun _=>rfl,fun _=>rfl,fun _=>rfl,fun _=>rfl,fun _=>rfl,fun _=>rfl,fun _=>rfl,fun _=>rfl,fun _=>rfl,fun _=>rfl,fun _=>rfl,fun _=>rfl,fun _=>rfl,fun _=>rfl,fun _=>rfl,fun _=>rfl,fun _=>rfl,fun _=>rfl,fun _=>rfl,fun _=>rfl⟩
@[go_sem] theorem Zrv:Ms ZX 0=true:=rfl
@[go_sem] theorem Zrw:Ms ZX 1=false:=rfl
@[go_sem] theorem Zrx:Ms ZX 2=false:=rfl
@[go_sem] theorem Zry:Ms ZX 3=false:=rfl
@[go_sem] theorem Zrz:Ms ZX 4=false:=rfl
@[go_sem] theorem ZrA:Ms ZX 5=false:=rfl
@[go_sem] theorem Zrr:Ms ZX 99=false:=rfl
@[go_sem] theorem Zih:Ms Zk 0=true:=rfl
@[go_sem] theorem Zii:Ms Zk 1=false:=rfl
@[go_sem] theorem Zij:Ms Zk 2=false:=rfl
@[go_sem] theorem Zik:Ms Zk 3=false:=rfl
@[go_sem] theorem Zil:Ms Zk 4=false:=rfl
@[go_sem] theorem Zim:Ms Zk 5=false:=rfl
@[go_sem] theorem Zgh:Ms Zk 99=true:=rfl
@[go_sem] theorem ZiD:Ms Zm 0=true:=rfl
@[go_sem] theorem ZiE:Ms Zm 1=false:=rfl
@[go_sem] theorem ZiF:Ms Zm 2=false:=rfl
@[go_sem] theorem ZiG:Ms Zm 3=false:=rfl
@[go_sem] theorem ZiH:Ms Zm 4=false:=rfl
@[go_sem] theorem ZiI:Ms Zm 5=false:=rfl
@[go_sem] theorem Zin:Ms Zm 99=true:=rfl
@[go_sem] theorem Zd6:Ms Ze 0=true:=rfl
@[go_sem] theorem Zd7:Ms Ze 1=false:=rfl
@[go_sem] theorem Zd8:Ms Ze 2=false:=rfl
@[go_sem] theorem Zd9:Ms Ze 3=false:=rfl
@[go_sem] theorem Zea:Ms Ze 4=false:=rfl
@[go_sem] theorem Zeb:Ms Ze 5=false:=rfl
@[go_sem] theorem ZcZ:Ms Ze 99=true:=rfl
end
end Go.Proofs.Ytefabmohhbhlfaa
