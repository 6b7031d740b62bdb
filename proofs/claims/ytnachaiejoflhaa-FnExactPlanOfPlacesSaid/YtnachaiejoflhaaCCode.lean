/- Own text. -/
import Derived.Test.YtnachaiejoflhaaCCodeA
set_option maxRecDepth 20000
namespace Go.Proofs.Ytnachaiejoflhaa
open Go Go.Abs Go.Abs.Q
noncomputable section
def tbl:List (Nat×Go.Abs.Fn):=[(Qo,.text Z1),(Uj,.text Zcq),(Qa,.text J5),(Uk,.text J6),(Yl,.text Zcr),(Xk,.text Zcs),(Z0,.text WJ),(Vt,.text WK),(Xy,.text Xz),(Xf,.text J7),(Q0,.text Q1),(Vu,.text J8),(ZJ,.text Un),(Yx,.text J9),(Wh,.text ZaZ),(ZS,.text UU),(Wi,.text UH),(Wj,.text Za0),(Wk,.text Za1),(Vv,.text WL),(Jm,.text Zd5),(Wl,.text Za2),(ZA,.text V6),(XK,.text Wv),(Xg,.text Wo),(Wm,.text Za3),(XL,.text XM),(Qw,.text Q7),(Vb,.text Za4),(Wn,.text Za5),(QY,.text UV),(ZT,.text Za6),(Ul,.text Zct),(YL,.text UW),(QK,.text QL),(Um,.text Zcu),(Vw,.text Zaa),(Vx,.text Zab),(Jn,.text Zd6),(Jo,.text Zd7),(Jp,.text Zhc),(XQ,.text Qr),(Jq,.text Zd8),(YM,.text V7),(Xh,.text Zac),(Yy,.text WM),(YN,.text XR),(Ym,.text Uo),(YO,.text V8),(YP,.text UX),(YQ,.text UY),(Yn,.text Up),(V0,.text Zad),(Y1,.text V1),(Yo,.text Uq),(Vy,.text Zae),(Yp,.text Zaf),(Vz,.text Zag)]
def Xs:Fns:=fun f=>lkp tbl f
def Ms:Zf:=fun f i=>(f==ZS&&i==0) || (f==ZS&&i==99) || (f==ZJ&&i==0) || (f==ZJ&&i==99) || (f==ZA&&i==0) || (f==ZA&&i==99) || (f==Z0&&i==0) || (f==Z0&&i==99) || (f==Qa&&i==0) || (f==Qa&&i==99)
@[go_sem] theorem ms_all:(∀ i:Nat,Ms Qo i=false)∧(∀ i:Nat,Ms Uj i=false)∧(∀ i:Nat,Ms Uk i=false)∧(∀ i:Nat,Ms Yl i=false)∧(∀ i:Nat,Ms Xk i=false)∧(∀ i:Nat,Ms Vt i=false)∧(∀ i:Nat,Ms Xy i=false)∧(∀ i:Nat,Ms Xf i=false)∧(∀ i:Nat,Ms Q0 i=false)∧(∀ i:Nat,Ms Vu i=false)∧(∀ i:Nat,Ms Yx i=false)∧(∀ i:Nat,Ms Wh i=false)∧(∀ i:Nat,Ms Wi i=false)∧(∀ i:Nat,Ms Wj i=false)∧(∀ i:Nat,Ms Wk i=false)∧(∀ i:Nat,Ms Vv i=false)∧(∀ i:Nat,Ms Jm i=false)∧(∀ i:Nat,Ms Wl i=false)∧(∀ i:Nat,Ms XK i=false)∧(∀ i:Nat,Ms Xg i=false)∧(∀ i:Nat,Ms Wm i=false)∧(∀ i:Nat,Ms XL i=false)∧(∀ i:Nat,Ms Qw i=false)∧(∀ i:Nat,Ms Vb i=false)∧(∀ i:Nat,Ms Wn i=false)∧(∀ i:Nat,Ms QY i=false)∧(∀ i:Nat,Ms ZT i=false)∧(∀ i:Nat,Ms Ul i=false)∧(∀ i:Nat,Ms YL i=false)∧(∀ i:Nat,Ms QK i=false)∧(∀ i:Nat,Ms Um i=false)∧(∀ i:Nat,Ms Vw i=false)∧(∀ i:Nat,Ms Vx i=false)∧(∀ i:Nat,Ms Jn i=false)∧(∀ i:Nat,Ms Jo i=false)∧(∀ i:Nat,Ms Jp i=false)∧(∀ i:Nat,Ms XQ i=false)∧(∀ i:Nat,Ms Jq i=false)∧(∀ i:Nat,Ms YM i=false)∧(∀ i:Nat,Ms Xh i=false)∧(∀ i:Nat,Ms Yy i=false)∧(∀ i:Nat,Ms YN i=false)∧(∀ i:Nat,Ms Ym i=false)∧(∀ i:Nat,Ms YO i=false)∧(∀ i:Nat,Ms YP i=false)∧(∀ i:Nat,Ms YQ i=false)∧(∀ i:Nat,Ms Yn i=false)∧(∀ i:Nat,Ms V0 i=false)∧(∀ i:Nat,Ms Y1 i=false)∧(∀ i:Nat,Ms Yo i=false)∧(∀ i:Nat,Ms Vy i=false)∧(∀ i:Nat,Ms Yp i=false)∧(∀ i:Nat,Ms Vz i=false):=⟨fun _=>rfl,fun _=>rfl,fun _=>rfl,fun _=>rfl,fun _=>rfl,fun _=>rfl,fun _=>rfl,fun _=>rfl,fun _=>rfl,fun _=>rfl,fun _=>rfl,fun _=>rfl,fun _=>rfl,fun _=>rfl,fun _=>rfl,fun _=>rfl,fun _=>rfl,fun _=>rfl,fun _=>rfl,fun _=>rfl,fun _=>rfl,fun _=>rfl,fun _=>rfl,fun _=>rfl,fun _=>rfl,fun _=>rfl,fun _=>rfl,fun _=>rfl,fun _=>rfl,fun _=>rfl,fun _=>rfl,fun _=>rfl,fun _=>rfl,fun _=>rfl,fun _=>rfl,fun _=>rfl,fun _=>rfl,fun _=>rfl,fun _=>rfl,fun _=>rfl,fun _=>rfl,fun _=>rfl,fun _=>rfl,fun _=>rfl,fun _=>rfl,fun _=>rfl,fun _=>rfl,fun _=>rfl,fun _=>rfl,fun _=>rfl,fun _=>rfl,fun _=>rfl,fun _=>rfl⟩
@[go_sem] theorem Zqc:Ms Qa 0=true:=rfl
@[go_sem] theorem Zqd:Ms Qa 1=false:=rfl
@[go_sem] theorem Zqe:Ms Qa 2=false:=rfl
@[go_sem] theorem Zqf:Ms Qa 3=false:=rfl
@[go_sem] theorem Zqg:Ms Qa 4=false:=rfl
@[go_sem] theorem Zqh:Ms Qa 5=false:=rfl
@[go_sem] theorem ZpV:Ms Qa 99=true:=rfl
@[go_sem] theorem Zqi:Ms Z0 0=true:=rfl
@[go_sem] theorem Zqj:Ms Z0 1=false:=rfl
@[go_sem] theorem Zqk:Ms Z0 2=false:=rfl
@[go_sem] theorem Zql:Ms Z0 3=false:=rfl
@[go_sem] theorem Zqm:Ms Z0 4=false:=rfl
@[go_sem] theorem Zqn:Ms Z0 5=false:=rfl
@[go_sem] theorem ZpW:Ms Z0 99=true:=rfl
@[go_sem] theorem ZoM:Ms ZJ 0=true:=rfl
@[go_sem] theorem ZoN:Ms ZJ 1=false:=rfl
@[go_sem] theorem ZoO:Ms ZJ 2=false:=rfl
@[go_sem] theorem ZoP:Ms ZJ 3=false:=rfl
@[go_sem] theorem ZoQ:Ms ZJ 4=false:=rfl
@[go_sem] theorem ZoR:Ms ZJ 5=false:=rfl
@[go_sem] theorem ZoJ:Ms ZJ 99=true:=rfl
@[go_sem] theorem ZpX:Ms ZS 0=true:=rfl
@[go_sem] theorem ZpY:Ms ZS 1=false:=rfl
@[go_sem] theorem ZpZ:Ms ZS 2=false:=rfl
@[go_sem] theorem Zp0:Ms ZS 3=false:=rfl
@[go_sem] theorem Zp1:Ms ZS 4=false:=rfl
@[go_sem] theorem Zp2:Ms ZS 5=false:=rfl
@[go_sem] theorem ZoS:Ms ZS 99=true:=rfl
@[go_sem] theorem Zp3:Ms ZA 0=true:=rfl
@[go_sem] theorem Zp4:Ms ZA 1=false:=rfl
@[go_sem] theorem Zp5:Ms ZA 2=false:=rfl
@[go_sem] theorem Zp6:Ms ZA 3=false:=rfl
@[go_sem] theorem Zp7:Ms ZA 4=false:=rfl
@[go_sem] theorem Zp8:Ms ZA 5=false:=rfl
@[go_sem] theorem ZoT:Ms ZA 99=true:=rfl
end
end Go.Proofs.Ytnachaiejoflhaa
