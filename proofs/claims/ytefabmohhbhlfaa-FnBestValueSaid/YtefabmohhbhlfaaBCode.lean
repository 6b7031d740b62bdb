/- Own text. -/
import Derived.Test.YtefabmohhbhlfaaBCodeA
set_option maxRecDepth 20000
namespace Go.Proofs.Ytefabmohhbhlfaa
open Go Go.Abs Go.Abs.Q
noncomputable section
def tbl:List (Nat×Go.Abs.Fn):=[(Va,.text XT),(QS,.text VY),(YY,.text Wr),(XX,.text Ws),(YB,.text VZ),(Xk,.text Wt),(YC,.text V0),(VT,.text Zag),(YZ,.text Wu),(Xy,.text QZ),(Qj,.text Ux),(ZF,.text Xc),(YN,.text Xg),(VU,.text Zah),(XS,.text WO),(YD,.text Uy),(Y0,.text Wv),(Vp,.text Za7),(XY,.text Y6),(XZ,.text X2),(Y1,.text Ja),(WE,.text WF),(Vq,.text Za8),(VV,.text Zai),(XK,.text W1),(X0,.text Jb),(Xl,.text Ww),(VX,.text Zaj),(Qr,.text Za9),(Y2,.text Jc),(Y3,.text Jd),(QK,.text Je),(Vr,.text XC),(XL,.text QL),(YE,.text Uz),(ZT,.text QM),(X1,.text X3),(Q9,.text Zy),(JC,.text Zef),(Y4,.text Jf),(QY,.text V1),(Zj,.text Xb),(Y5,.text Jg),(Zl,.text Xm),(Ze,.text Z6)]
def Xs:Fns:=fun f=>lkp tbl f
def Ms:Zg:=fun f i=>(f==ZT&&i==0) || (f==Zj&&i==0) || (f==Zj&&i==99) || (f==Zl&&i==0) || (f==Zl&&i==99) || (f==Ze&&i==0) || (f==Ze&&i==99)
@[go_sem] theorem ms_all:(∀ i:Nat,Ms Va i=false)∧(∀ i:Nat,Ms QS i=false)∧(∀ i:Nat,Ms YY i=false)∧(∀ i:Nat,Ms XX i=false)∧(∀ i:Nat,Ms YB i=false)∧(∀ i:Nat,Ms Xk i=false)∧(∀ i:Nat,Ms YC i=false)∧(∀ i:Nat,Ms VT i=false)∧(∀ i:Nat,Ms YZ i=false)∧(∀ i:Nat,Ms Xy i=false)∧(∀ i:Nat,Ms Qj i=false)∧(∀ i:Nat,Ms ZF i=false)∧(∀ i:Nat,Ms YN i=false)∧(∀ i:Nat,Ms VU i=false)∧(∀ i:Nat,Ms XS i=false)∧(∀ i:Nat,Ms YD i=false)∧(∀ i:Nat,Ms Y0 i=false)∧(∀ i:Nat,Ms Vp i=false)∧(∀ i:Nat,Ms XY i=false)∧(∀ i:Nat,Ms XZ i=false)∧(∀ i:Nat,Ms Y1 i=false)∧(∀ i:Nat,Ms WE i=false)∧(∀ i:Nat,Ms Vq i=false)∧(∀ i:Nat,Ms VV i=false)∧(∀ i:Nat,Ms XK i=false)∧(∀ i:Nat,Ms X0 i=false)∧(∀ i:Nat,Ms Xl i=false)∧(∀ i:Nat,Ms VX i=false)∧(∀ i:Nat,Ms Qr i=false)∧(∀ i:Nat,Ms Y2 i=false)∧(∀ i:Nat,Ms Y3 i=false)∧(∀ i:Nat,Ms QK i=false)∧(∀ i:Nat,Ms Vr i=false)∧(∀ i:Nat,Ms XL i=false)∧(∀ i:Nat,Ms YE i=false)∧(∀ i:Nat,Ms X1 i=false)∧(∀ i:Nat,Ms Q9 i=false)∧(∀ i:Nat,Ms JC i=false)∧(∀ i:Nat,Ms Y4 i=false)∧(∀ i:Nat,Ms QY i=false)∧(∀ i:Nat,Ms Y5 i=false):=⟨fun _=>rfl,fun _=>rfl,fun _=>rfl,fun _=>rfl,fun _=>rfl,fun _=>rfl,fun _=>rfl,fun _=>rfl,fun _=>rfl,fun _=>rfl,fun _=>rfl,fun _=>rfl,fun _=>rfl,fun _=>rfl,fun _=>rfl,fun _=>rfl,fun _=>rfl,fun _=>rfl,fun _=>rfl,fun _=>rfl,fun _=>rfl,fun _=>rfl,fun _=>rfl,fun _=>rfl,fun _=>rfl,fun _=>rfl,fun _=>rfl,fun _=>rfl,fun _=>rfl,fun _=>rfl,fun _=>rfl,fun _=>rfl,fun _=>rfl,fun _=>rfl,fun _=>rfl,fun _=>rfl,fun _=>rfl,fun _=>rfl,fun _=>rfl,fun _=>rfl,fun _=>rfl⟩
@[go_sem] theorem ZpX:Ms ZT 0=true:=rfl
@[go_sem] theorem ZpY:Ms ZT 1=false:=rfl
@[go_sem] theorem ZpZ:Ms ZT 2=false:=rfl
@[go_sem] theorem Zp0:Ms ZT 3=false:=rfl
@[go_sem] theorem Zp1:Ms ZT 4=false:=rfl
@[go_sem] theorem Zp2:Ms ZT 5=false:=rfl
@[go_sem] theorem ZpT:Ms ZT 99=false:=rfl
@[go_sem] theorem Zhm:Ms Zj 0=true:=rfl
@[go_sem] theorem Zhn:Ms Zj 1=false:=rfl
@[go_sem] theorem Zho:Ms Zj 2=false:=rfl
@[go_sem] theorem Zhp:Ms Zj 3=false:=rfl
@[go_sem] theorem Zhq:Ms Zj 4=false:=rfl
@[go_sem] theorem Zhr:Ms Zj 5=false:=rfl
@[go_sem] theorem Zfs:Ms Zj 99=true:=rfl
@[go_sem] theorem ZhJ:Ms Zl 0=true:=rfl
@[go_sem] theorem ZhK:Ms Zl 1=false:=rfl
@[go_sem] theorem ZhL:Ms Zl 2=false:=rfl
@[go_sem] theorem ZhM:Ms Zl 3=false:=rfl
@[go_sem] theorem ZhN:Ms Zl 4=false:=rfl
@[go_sem] theorem ZhO:Ms Zl 5=false:=rfl
@[go_sem] theorem Zhs:Ms Zl 99=true:=rfl
@[go_sem] theorem Zdr:Ms Ze 0=true:=rfl
@[go_sem] theorem Zds:Ms Ze 1=false:=rfl
@[go_sem] theorem Zdt:Ms Ze 2=false:=rfl
@[go_sem] theorem Zdu:Ms Ze 3=false:=rfl
@[go_sem] theorem Zdv:Ms Ze 4=false:=rfl
@[go_sem] theorem Zdw:Ms Ze 5=false:=rfl
@[go_sem] theorem Zcs:Ms Ze 99=true:=rfl
end
end Go.Proofs.Ytefabmohhbhlfaa
