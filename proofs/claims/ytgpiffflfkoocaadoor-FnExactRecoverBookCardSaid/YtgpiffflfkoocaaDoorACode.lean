/- Own text. -/
import Derived.Test.YtgpiffflfkoocaaDoorACodeA
set_option maxRecDepth 20000
namespace Go.Proofs.YtgpiffflfkoocaaDoor
open Go Go.Abs Go.Abs.Q
noncomputable section
def tbl:List (Nat×Go.Abs.Fn):=[(QJ,.text Xl),(Ym,.text W9),(XG,.text Ua),(Y9,.text ZaF),(ZS,.text UY),(X1,.text UZ),(Yn,.text Ub),(Xo,.text WR),(X2,.text QK),(WY,.text Zbz),(ZN,.text JK),(Xp,.text JL),(VX,.text ZbA),(YQ,.text X5),(Qc,.text QL),(Va,.text XP),(WZ,.text YT),(XH,.text Uc),(XI,.text Ud),(X3,.text Qj),(Zad,.text Ze7),(UW,.text Zdj),(YR,.text Zdk),(Vr,.text JM),(Xu,.text VL),(Vs,.text Xq),(ZD,.prim (ZqV)),(Xv,.text X6),(Vt,.text Qv),(Xw,.text VM),(UX,.text Zdl),(W0,.text ZbB),(Xx,.text U0),(Vb,.text Vc),(Qd,.text U1),(Vu,.text QH),(Vv,.text JN),(Ye,.text ZbC),(XN,.text Qk),(XU,.text Vw),(Xk,.text Wd),(ZE,.text ZaG),(Wb,.text Ut),(XO,.text Zz),(Wc,.text ZaH),(X4,.text QM),(XJ,.prim (ZqW)),(Yo,.text Ue),(Z6,.text ZC),(Zae,.text Ze8),(YS,.text U2),(Qq,.text XZ),(Xy,.text Zx),(Qs,.text YD),(QZ,.text VN),(Z7,.text Q8),(ZO,.text ZP),(ZB,.text Z8)]
def Xs:Fns:=fun f=>lkp tbl f
def Ms:Zh:=fun f i=>(f==ZN&&i==0) || (f==ZN&&i==99) || (f==ZS&&i==0) || (f==ZS&&i==99)
@[go_sem] theorem ms_all:(∀ i:Nat,Ms QJ i=false)∧(∀ i:Nat,Ms Ym i=false)∧(∀ i:Nat,Ms XG i=false)∧(∀ i:Nat,Ms Y9 i=false)∧(∀ i:Nat,Ms X1 i=false)∧(∀ i:Nat,Ms Yn i=false)∧(∀ i:Nat,Ms Xo i=false)∧(∀ i:Nat,Ms X2 i=false)∧(∀ i:Nat,Ms WY i=false)∧(∀ i:Nat,Ms Xp i=false)∧(∀ i:Nat,Ms VX i=false)∧(∀ i:Nat,Ms YQ i=false)∧(∀ i:Nat,Ms Qc i=false)∧(∀ i:Nat,Ms Va i=false)∧(∀ i:Nat,Ms WZ i=false)∧(∀ i:Nat,Ms XH i=false)∧(∀ i:Nat,Ms XI i=false)∧(∀ i:Nat,Ms X3 i=false)∧(∀ i:Nat,Ms Zad i=false)∧(∀ i:Nat,Ms UW i=false)∧(∀ i:Nat,Ms YR i=false)∧(∀ i:Nat,Ms Vr i=false)∧(∀ i:Nat,Ms Xu i=false)∧(∀ i:Nat,Ms Vs i=false)∧(∀ i:Nat,Ms ZD i=false)∧(∀ i:Nat,Ms Xv i=false)∧(∀ i:Nat,Ms Vt i=false)∧(∀ i:Nat,Ms Xw i=false)∧(∀ i:Nat,Ms UX i=false)∧(∀ i:Nat,Ms W0 i=false)∧(∀ i:Nat,Ms Xx i=false)∧(∀ i:Nat,Ms Vb i=false)∧(∀ i:Nat,Ms Qd i=false)∧(∀ i:Nat,Ms Vu i=false)∧(∀ i:Nat,Ms Vv i=false)∧(∀ i:Nat,Ms Ye i=false)∧(∀ i:Nat,Ms XN i=false)∧(∀ i:Nat,Ms XU i=false)∧(∀ i:Nat,Ms Xk i=false)∧(∀ i:Nat,Ms ZE i=false)∧(∀ i:Nat,Ms Wb i=false)∧(∀ i:Nat,Ms XO i=false)∧(∀ i:Nat,Ms Wc i=false)∧(∀ i:Nat,Ms X4 i=false)∧(∀ i:Nat,Ms XJ i=false)∧(∀ i:Nat,Ms Yo i=false)∧(∀ i:Nat,Ms Z6 i=false)∧(∀ i:Nat,Ms Zae i=false)∧(∀ i:Nat,Ms YS i=false)∧(∀ i:Nat,Ms Qq i=false)∧(∀ i:Nat,Ms Xy i=false)∧(∀ i:Nat,Ms Qs i=false)∧(∀ i:Nat,Ms QZ i=false)∧(∀ i:Nat,Ms Z7 i=false)∧(∀ i:Nat,Ms ZO i=false)∧(∀ i:Nat,Ms ZB i=false):=⟨fun _=>rfl,fun _=>rfl,fun _=>rfl,fun _=>rfl,fun _=>rfl,fun _=>rfl,fun _=>rfl,fun _=>rfl,fun _=>rfl,fun _=>rfl,fun _=>rfl,fun _=>rfl,fun _=>rfl,fun _=>rfl,fun _=>rfl,fun _=>rfl,fun _=>rfl,fun _=>rfl,fun _=>rfl,fun _=>rfl,fun _=>rfl,fun _=>rfl,fun _=>rfl,fun _=>rfl,fun _=>rfl,fun _=>rfl,fun _=>rfl,fun _=>rfl,fun _=>rfl,fun _=>rfl,fun _=>rfl,fun _=>rfl,fun _=>rfl,fun _=>rfl,fun _=>rfl,fun _=>rfl,fun _=>rfl,fun _=>rfl,fun _=>rfl,fun _=>rfl,fun _=>rfl,fun _=>rfl,fun _=>rfl,fun _=>rfl,fun _=>rfl,fun _=>rfl,fun _=>rfl,fun _=>rfl,fun _=>rfl,fun _=>rfl,fun _=>rfl,fun _=>rfl,fun _=>rfl,fun _=>rfl,fun _=>rfl,fun _=>rfl⟩
@[go_sem] theorem ZqX:Ms ZS 0=true:=rfl
@[go_sem] theorem ZqY:Ms ZS 1=false:=rfl
@[go_sem] theorem ZqZ:Ms ZS 2=false:=rfl
@[go_sem] theorem Zq0:Ms ZS 3=false:=rfl
@[go_sem] theorem Zq1:Ms ZS 4=false:=rfl
@[go_sem] theorem Zq2:Ms ZS 5=false:=rfl
@[go_sem] theorem ZpS:Ms ZS 99=true:=rfl
@[go_sem] theorem Zrm:Ms ZN 0=true:=rfl
@[go_sem] theorem Zrn:Ms ZN 1=false:=rfl
@[go_sem] theorem Zro:Ms ZN 2=false:=rfl
@[go_sem] theorem Zrp:Ms ZN 3=false:=rfl
@[go_sem] theorem Zrq:Ms ZN 4=false:=rfl
@[go_sem] theorem Zrr:Ms ZN 5=false:=rfl
@[go_sem] theorem Zq3:Ms ZN 99=true:=rfl
theorem W8:Xs ZD=some (.prim (ZqV)):=rfl
theorem ZgK:Xs XJ=some (.prim (ZqW)):=rfl
end
end Go.Proofs.YtgpiffflfkoocaaDoor
