/- Own text. -/
import Derived.Test.YtnachaiejoflhaaDoorACodeA
set_option maxRecDepth 20000
namespace Go.Proofs.YtnachaiejoflhaaDoor
open Go Go.Abs Go.Abs.Q
noncomputable section
def tbl:List (Nat×Go.Abs.Fn):=[(QR,.text QS),(YM,.text UR),(Xq,.text QI),(VR,.text Zbo),(ZS,.text WO),(Yr,.text JB),(YN,.text X2),(XS,.text WP),(Y5,.text XN),(WW,.text YQ),(XF,.text W7),(XG,.text W8),(X0,.text Qj),(J1,.text ZeR),(UP,.text Zda),(YO,.text Zdb),(Z5,.text Uo),(V6,.text Zau),(Vn,.text JC),(WX,.text Zbp),(Xr,.text VH),(Vo,.text Xn),(Qc,.text QJ),(Xt,.text X3),(Vp,.text Qv),(Xu,.text VI),(UQ,.text Zdc),(WY,.text Zbq),(ZI,.text WQ),(Xm,.text JD),(Xv,.text US),(Y6,.text Y7),(Qd,.text UT),(Vq,.text QH),(Vr,.text JE),(Yb,.text Zbr),(XL,.text Qk),(XT,.text Vs),(Xk,.text V9),(ZC,.text Zav),(V7,.text Up),(ZD,.prim (Zqz)),(XM,.text Zx),(V8,.text Zaw),(X1,.text QK),(XH,.prim (ZqA)),(Yj,.text W9),(Z6,.text ZB),(J2,.text ZeS),(YP,.text UU),(Qq,.text XY),(Xw,.text Zv),(Qs,.text Yz),(QZ,.text VJ),(Z7,.text Q9),(ZM,.text ZN),(ZA,.text Z8)]
def Xs:Fns:=fun f=>lkp tbl f
def Ms:Zh:=fun f i=>(f==ZI&&i==0) || (f==ZI&&i==99) || (f==Z5&&i==0) || (f==Z5&&i==99) || (f==ZS&&i==0) || (f==ZS&&i==99)
@[go_sem] theorem ms_all:(∀ i:Nat,Ms QR i=false)∧(∀ i:Nat,Ms YM i=false)∧(∀ i:Nat,Ms Xq i=false)∧(∀ i:Nat,Ms VR i=false)∧(∀ i:Nat,Ms Yr i=false)∧(∀ i:Nat,Ms YN i=false)∧(∀ i:Nat,Ms XS i=false)∧(∀ i:Nat,Ms Y5 i=false)∧(∀ i:Nat,Ms WW i=false)∧(∀ i:Nat,Ms XF i=false)∧(∀ i:Nat,Ms XG i=false)∧(∀ i:Nat,Ms X0 i=false)∧(∀ i:Nat,Ms J1 i=false)∧(∀ i:Nat,Ms UP i=false)∧(∀ i:Nat,Ms YO i=false)∧(∀ i:Nat,Ms V6 i=false)∧(∀ i:Nat,Ms Vn i=false)∧(∀ i:Nat,Ms WX i=false)∧(∀ i:Nat,Ms Xr i=false)∧(∀ i:Nat,Ms Vo i=false)∧(∀ i:Nat,Ms Qc i=false)∧(∀ i:Nat,Ms Xt i=false)∧(∀ i:Nat,Ms Vp i=false)∧(∀ i:Nat,Ms Xu i=false)∧(∀ i:Nat,Ms UQ i=false)∧(∀ i:Nat,Ms WY i=false)∧(∀ i:Nat,Ms Xm i=false)∧(∀ i:Nat,Ms Xv i=false)∧(∀ i:Nat,Ms Y6 i=false)∧(∀ i:Nat,Ms Qd i=false)∧(∀ i:Nat,Ms Vq i=false)∧(∀ i:Nat,Ms Vr i=false)∧(∀ i:Nat,Ms Yb i=false)∧(∀ i:Nat,Ms XL i=false)∧(∀ i:Nat,Ms XT i=false)∧(∀ i:Nat,Ms Xk i=false)∧(∀ i:Nat,Ms ZC i=false)∧(∀ i:Nat,Ms V7 i=false)∧(∀ i:Nat,Ms ZD i=false)∧(∀ i:Nat,Ms XM i=false)∧(∀ i:Nat,Ms V8 i=false)∧(∀ i:Nat,Ms X1 i=false)∧(∀ i:Nat,Ms XH i=false)∧(∀ i:Nat,Ms Yj i=false)∧(∀ i:Nat,Ms Z6 i=false)∧(∀ i:Nat,Ms J2 i=false)∧(∀ i:Nat,Ms YP i=false)∧(∀ i:Nat,Ms Qq i=false)∧(∀ i:Nat,Ms Xw i=false)∧(∀ i:Nat,Ms Qs i=false)∧(∀ i:Nat,Ms QZ i=false)∧(∀ i:Nat,Ms Z7 i=false)∧(∀ i:Nat,Ms ZM i=false)∧(∀ i:Nat,Ms ZA i=false):=⟨fun _=>rfl,fun _=>rfl,fun _=>rfl,fun _=>rfl,fun _=>rfl,fun _=>rfl,fun _=>rfl,fun _=>rfl,fun _=>rfl,fun _=>rfl,fun _=>rfl,fun _=>rfl,fun _=>rfl,fun _=>rfl,fun _=>rfl,fun _=>rfl,fun _=>rfl,fun _=>rfl,fun _=>rfl,fun _=>rfl,fun _=>rfl,fun _=>rfl,fun _=>rfl,fun _=>rfl,fun _=>rfl,fun _=>rfl,fun _=>rfl,fun _=>rfl,fun _=>rfl,fun _=>rfl,fun _=>rfl,fun _=>rfl,fun _=>rfl,fun _=>rfl,fun _=>rfl,fun _=>rfl,fun _=>rfl,fun _=>rfl,fun _=>rfl,fun _=>rfl,fun _=>rfl,fun _=>rfl,fun _=>rfl,fun _=>rfl,fun _=>rfl,fun _=>rfl,fun _=>rfl,fun _=>rfl,fun _=>rfl,fun _=>rfl,fun _=>rfl,fun _=>rfl,fun _=>rfl,fun _=>rfl⟩
@[go_sem] theorem ZqW:Ms ZS 0=true:=rfl
@[go_sem] theorem ZqX:Ms ZS 1=false:=rfl
@[go_sem] theorem ZqY:Ms ZS 2=false:=rfl
@[go_sem] theorem ZqZ:Ms ZS 3=false:=rfl
@[go_sem] theorem Zq0:Ms ZS 4=false:=rfl
@[go_sem] theorem Zq1:Ms ZS 5=false:=rfl
@[go_sem] theorem ZqB:Ms ZS 99=true:=rfl
@[go_sem] theorem Zsa:Ms Z5 0=true:=rfl
@[go_sem] theorem Zsb:Ms Z5 1=false:=rfl
@[go_sem] theorem Zsc:Ms Z5 2=false:=rfl
@[go_sem] theorem Zsd:Ms Z5 3=false:=rfl
@[go_sem] theorem Zse:Ms Z5 4=false:=rfl
@[go_sem] theorem Zsf:Ms Z5 5=false:=rfl
@[go_sem] theorem Zq2:Ms Z5 99=true:=rfl
@[go_sem] theorem Zq3:Ms ZI 0=true:=rfl
@[go_sem] theorem Zq4:Ms ZI 1=false:=rfl
@[go_sem] theorem Zq5:Ms ZI 2=false:=rfl
@[go_sem] theorem Zq6:Ms ZI 3=false:=rfl
@[go_sem] theorem Zq7:Ms ZI 4=false:=rfl
@[go_sem] theorem Zq8:Ms ZI 5=false:=rfl
@[go_sem] theorem ZqC:Ms ZI 99=true:=rfl
theorem W6:Xs ZD=some (.prim (Zqz)):=rfl
theorem Zgq:Xs XH=some (.prim (ZqA)):=rfl
end
end Go.Proofs.YtnachaiejoflhaaDoor
