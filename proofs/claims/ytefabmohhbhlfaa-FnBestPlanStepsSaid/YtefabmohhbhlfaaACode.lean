/- Own text. -/
import Derived.Test.YtefabmohhbhlfaaACodeA
set_option maxRecDepth 20000
namespace Go.Proofs.Ytefabmohhbhlfaa
open Go Go.Abs Go.Abs.Q
noncomputable section
abbrev Wh:D:=(.agg [(.int .i64 0),(.int .i64 0),(.int .i64 0),(.int .i64 0)])
def tbl:List (Nat×Go.Abs.Fn):=[(X1,.text QL),(Xe,.text WI),(VX,.text Uz),(VY,.text Zat),(Vw,.text Zbl),(X7,.text Xq),(X8,.text Ui),(WD,.text WJ),(WE,.text WK),(XT,.text V7),(Vx,.text WL),(YF,.text Zau),(VZ,.text Zav),(V0,.text Zaw),(UM,.text Zci),(V1,.text Zax),(Y6,.text Jy),(V2,.text UA),(X9,.text Xr),(Qu,.text Jz),(ZI,.text XJ),(Vy,.text XM),(Vz,.text Zbm),(Yr,.text UX),(Y7,.text JA),(YG,.text YJ),(V3,.text Zay),(Wn,.text UN),(Ys,.text Yt),(QG,.text Xv),(Yg,.text Zcj),(Ql,.text Yu),(Q3,.text Zbn),(Q4,.text WM),(Yj,.text Qm),(Yh,.text UO),(XI,.text UY),(Ya,.text Uj),(ZC,.prim (ZeX 4 32 Wh)),(QH,.text VD),(Z0,.text ZK),(Y8,.text Vd),(Xm,.text VE),(YH,.text Zaz),(XU,.text UB),(VA,.text Zbo),(QB,.text Zck),(YI,.text ZaA),(Yk,.text Q5),(Y9,.text JB),(Z2,.text Q6),(XL,.text Zbp),(VC,.text Jd),(XV,.text YK),(Va,.text JC),(V4,.text UC),(Xu,.text ZB),(ZaZ,.text ZfQ),(Z3,.text Qc),(WF,.text Zbq),(Wo,.text ZfR),(V5,.text ZaB),(Xn,.text WN),(V6,.text ZaC),(Wi,.text Uk),(Vb,.text JD),(WG,.text Zbr),(QT,.text YO),(Yb,.text JE),(Vc,.text Zbs),(WH,.text Zbt)]
def Xs:Fns:=fun f=>lkp tbl f
def Ms:Zf:=fun f i=>(f==Z2&&i==0) || (f==ZC&&i==0) || (f==Z3&&i==0) || (f==Z0&&i==0)
@[go_sem] theorem ms_all:(∀ i:Nat,Ms X1 i=false)∧(∀ i:Nat,Ms Xe i=false)∧(∀ i:Nat,Ms VX i=false)∧(∀ i:Nat,Ms VY i=false)∧(∀ i:Nat,Ms Vw i=false)∧(∀ i:Nat,Ms X7 i=false)∧(∀ i:Nat,Ms X8 i=false)∧(∀ i:Nat,Ms WD i=false)∧(∀ i:Nat,Ms WE i=false)∧(∀ i:Nat,Ms XT i=false)∧(∀ i:Nat,Ms Vx i=false)∧(∀ i:Nat,Ms YF i=false)∧(∀ i:Nat,Ms VZ i=false)∧(∀ i:Nat,Ms V0 i=false)∧(∀ i:Nat,Ms UM i=false)∧(∀ i:Nat,Ms V1 i=false)∧(∀ i:Nat,Ms Y6 i=false)∧(∀ i:Nat,Ms V2 i=false)∧(∀ i:Nat,Ms X9 i=false)∧(∀ i:Nat,Ms Qu i=false)∧(∀ i:Nat,Ms ZI i=false)∧(∀ i:Nat,Ms Vy i=false)∧(∀ i:Nat,Ms Vz i=false)∧(∀ i:Nat,Ms Yr i=false)∧(∀ i:Nat,Ms Y7 i=false)∧(∀ i:Nat,Ms YG i=false)∧(∀ i:Nat,Ms V3 i=false)∧(∀ i:Nat,Ms Wn i=false)∧(∀ i:Nat,Ms Ys i=false)∧(∀ i:Nat,Ms QG i=false)∧(∀ i:Nat,Ms Yg i=false)∧(∀ i:Nat,Ms Ql i=false)∧(∀ i:Nat,Ms Q3 i=false)∧(∀ i:Nat,Ms Q4 i=false)∧(∀ i:Nat,Ms Yj i=false)∧(∀ i:Nat,Ms Yh i=false)∧(∀ i:Nat,Ms XI i=false)∧(∀ i:Nat,Ms Ya i=false)∧(∀ i:Nat,Ms QH i=false)∧(∀ i:Nat,Ms Y8 i=false)∧(∀ i:Nat,Ms Xm i=false)∧(∀ i:Nat,Ms YH i=false)∧(∀ i:Nat,Ms XU i=false)∧(∀ i:Nat,Ms VA i=false)∧(∀ i:Nat,Ms QB i=false)∧(∀ i:Nat,Ms YI i=false)∧(∀ i:Nat,Ms Yk i=false)∧(∀ i:Nat,Ms Y9 i=false)∧(∀ i:Nat,Ms XL i=false)∧(∀ i:Nat,Ms VC i=false)∧(∀ i:Nat,Ms XV i=false)∧(∀ i:Nat,Ms Va i=false)∧(∀ i:Nat,Ms V4 i=false)∧(∀ i:Nat,Ms Xu i=false)∧(∀ i:Nat,Ms ZaZ i=false)∧(∀ i:Nat,Ms WF i=false)∧(∀ i:Nat,Ms Wo i=false)∧(∀ i:Nat,Ms V5 i=false)∧(∀ i:Nat,Ms Xn i=false)∧(∀ i:Nat,Ms V6 i=false)∧(∀ i:Nat,Ms Wi i=false)∧(∀ i:Nat,Ms Vb i=false)∧(∀ i:Nat,Ms WG i=false)∧(∀ i:Nat,Ms QT i=false)∧(∀ i:Nat,Ms Yb i=false)∧(∀ i:Nat,Ms Vc i=false)∧(∀ i:Nat,Ms WH i=false):=⟨fun _=>rfl,fun _=>rfl,fun _=>rfl,fun _=>rfl,fun _=>rfl,fun _=>rfl,fun _=>rfl,fun _=>rfl,fun _=>rfl,fun _=>rfl,fun _=>rfl,fun _=>rfl,fun _=>rfl,fun _=>rfl,fun _=>rfl,fun _=>rfl,fun _=>rfl,fun _=>rfl,fun _=>rfl,fun _=>rfl,fun _=>rfl,fun _=>rfl,fun _=>rfl,fun _=>rfl,fun _=>rfl,fun _=>rfl,fun _=>rfl,fun _=>rfl,fun _=>rfl,fun _=>rfl,fun _=>rfl,fun _=>rfl,fun _=>rfl,fun _=>rfl,fun _=>rfl,fun _=>rfl,fun _=>rfl,fun _=>rfl,fun _=>rfl,fun _=>rfl,fun _=>rfl,fun _=>rfl,fun _=>rfl,fun _=>rfl,fun _=>rfl,fun _=>rfl,fun _=>rfl,fun _=>rfl,fun _=>rfl,fun _=>rfl,fun _=>rfl,fun _=>rfl,fun _=>rfl,fun _=>rfl,fun _=>rfl,fun _=>rfl,fun _=>rfl,fun _=>rfl,fun _=>rfl,fun _=>rfl,fun _=>rfl,fun _=>rfl,fun _=>rfl,fun _=>rfl,fun _=>rfl,fun _=>rfl,fun _=>rfl⟩
theorem Zd4:Xs ZC=some (.prim (ZeX 4 32 Wh)):=rfl
@[go_sem] theorem Zoo:Ms ZC 0=true:=rfl
@[go_sem] theorem Zop:Ms ZC 1=false:=rfl
@[go_sem] theorem Zoq:Ms ZC 2=false:=rfl
@[go_sem] theorem Zor:Ms ZC 3=false:=rfl
@[go_sem] theorem Zos:Ms ZC 4=false:=rfl
@[go_sem] theorem Zot:Ms ZC 5=false:=rfl
@[go_sem] theorem Zne:Ms ZC 99=false:=rfl
@[go_sem] theorem ZtQ:Ms Z0 0=true:=rfl
@[go_sem] theorem ZtR:Ms Z0 1=false:=rfl
@[go_sem] theorem ZtS:Ms Z0 2=false:=rfl
@[go_sem] theorem ZtT:Ms Z0 3=false:=rfl
@[go_sem] theorem ZtU:Ms Z0 4=false:=rfl
@[go_sem] theorem ZtV:Ms Z0 5=false:=rfl
@[go_sem] theorem Ztl:Ms Z0 99=false:=rfl
@[go_sem] theorem Ztm:Ms Z2 0=true:=rfl
@[go_sem] theorem Ztn:Ms Z2 1=false:=rfl
@[go_sem] theorem Zto:Ms Z2 2=false:=rfl
@[go_sem] theorem Ztp:Ms Z2 3=false:=rfl
@[go_sem] theorem Ztq:Ms Z2 4=false:=rfl
@[go_sem] theorem Ztr:Ms Z2 5=false:=rfl
@[go_sem] theorem Zsn:Ms Z2 99=false:=rfl
@[go_sem] theorem Zts:Ms Z3 0=true:=rfl
@[go_sem] theorem Ztt:Ms Z3 1=false:=rfl
@[go_sem] theorem Ztu:Ms Z3 2=false:=rfl
@[go_sem] theorem Ztv:Ms Z3 3=false:=rfl
@[go_sem] theorem Ztw:Ms Z3 4=false:=rfl
@[go_sem] theorem Ztx:Ms Z3 5=false:=rfl
@[go_sem] theorem Zso:Ms Z3 99=false:=rfl
end
end Go.Proofs.Ytefabmohhbhlfaa
