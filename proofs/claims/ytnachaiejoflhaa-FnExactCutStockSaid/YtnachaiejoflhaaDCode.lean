/- Own text. -/
import Derived.Test.YtnachaiejoflhaaDCodeA
set_option maxRecDepth 20000
namespace Go.Proofs.Ytnachaiejoflhaa
open Go Go.Abs Go.Abs.Q
noncomputable section
def tbl:List (Nat×Go.Abs.Fn):=[(Q4,.text Qo),(Jn,.text Zef),(Qh,.text Zbo),(Jo,.text Zbp),(YJ,.text Zbq),(YK,.text Zeg),(Xc,.text Zeh),(Jp,.text Zei),(YL,.text Zej),(Qi,.text Zbr),(Qj,.text Zbs),(Wi,.text Zbt),(Ub,.text JS),(Uc,.text ZcH),(Xt,.text Zbu),(Ud,.text ZcI),(ZN,.text Wv),(XI,.text Jw),(Wj,.text UK),(Wk,.text Xv),(Xu,.text Zbv),(YZ,.text Q6),(X6,.text Zab),(Vh,.text Zac),(Ue,.text ZcJ),(Z2,.text Zad),(Uf,.text JT),(Ug,.text JU),(Vi,.text Yb),(Uh,.text ZcK),(Ui,.text ZcL),(VT,.text Um),(XR,.text UL),(ZaH,.text Zf2),(Uj,.text ZcM),(ZQ,.text Zae),(VU,.text ZcN),(Jq,.text Zbw),(YM,.text Jx),(Wl,.text Y1),(ZP,.text ZcO),(Wm,.text Zbx),(Jr,.text Zek),(Wn,.text XW),(Xk,.text Vy),(XJ,.text Jy),(Uk,.text ZcP),(Vj,.text W2),(X7,.text Vs),(YN,.text Ww),(QU,.text YR),(Xl,.text Uv),(Js,.text Zel),(Vk,.text Zaf),(XS,.text Qk),(QO,.text QP),(ZaI,.text Zf3),(Jt,.text Zem),(X8,.text Yc),(ZY,.text QQ),(Wo,.text Zby),(Wp,.text Zbz),(Wq,.text ZbA),(ZaJ,.text Zf4),(Vl,.text W3),(XT,.text ZbB),(Y0,.text UM),(Vm,.text Yd),(Wr,.text ZbC),(Ul,.text ZcQ),(Ws,.text ZbD),(Vn,.text Zag),(Ju,.text Zen),(Xd,.text Wx),(Wt,.text ZbE),(Vo,.text Zah),(YO,.text Jz),(Jv,.text Zeo),(Vp,.text Zai),(X9,.text Zaj),(Ya,.text Zak),(Vq,.text Zal),(Vr,.text Zam),(YP,.text JA),(XU,.text QR),(ZaK,.text Zf5),(Xe,.text ZB),(VH,.text ZbF),(YQ,.text WW),(Xy,.text WX),(XV,.text ZbG),(Wu,.text ZbH)]
def Xs:Fns:=fun f=>lkp tbl f
def Ms:Zj:=fun f i=>(f==ZY&&i==0) || (f==ZN&&i==0) || (f==ZN&&i==99) || (f==Qj&&i==0) || (f==Qj&&i==99) || (f==Z2&&i==0) || (f==Z2&&i==99) || (f==ZQ&&i==0) || (f==ZQ&&i==99) || (f==Qi&&i==0) || (f==Qi&&i==99) || (f==Qh&&i==0) || (f==Qh&&i==99)
@[go_sem] theorem ms_all:(∀ i:Nat,Ms Q4 i=false)∧(∀ i:Nat,Ms Jn i=false)∧(∀ i:Nat,Ms Jo i=false)∧(∀ i:Nat,Ms YJ i=false)∧(∀ i:Nat,Ms YK i=false)∧(∀ i:Nat,Ms Xc i=false)∧(∀ i:Nat,Ms Jp i=false)∧(∀ i:Nat,Ms YL i=false)∧(∀ i:Nat,Ms Wi i=false)∧(∀ i:Nat,Ms Ub i=false)∧(∀ i:Nat,Ms Uc i=false)∧(∀ i:Nat,Ms Xt i=false)∧(∀ i:Nat,Ms Ud i=false)∧(∀ i:Nat,Ms XI i=false)∧(∀ i:Nat,Ms Wj i=false)∧(∀ i:Nat,Ms Wk i=false)∧(∀ i:Nat,Ms Xu i=false)∧(∀ i:Nat,Ms YZ i=false)∧(∀ i:Nat,Ms X6 i=false)∧(∀ i:Nat,Ms Vh i=false)∧(∀ i:Nat,Ms Ue i=false)∧(∀ i:Nat,Ms Uf i=false)∧(∀ i:Nat,Ms Ug i=false)∧(∀ i:Nat,Ms Vi i=false)∧(∀ i:Nat,Ms Uh i=false)∧(∀ i:Nat,Ms Ui i=false)∧(∀ i:Nat,Ms VT i=false)∧(∀ i:Nat,Ms XR i=false)∧(∀ i:Nat,Ms ZaH i=false)∧(∀ i:Nat,Ms Uj i=false)∧(∀ i:Nat,Ms VU i=false)∧(∀ i:Nat,Ms Jq i=false)∧(∀ i:Nat,Ms YM i=false)∧(∀ i:Nat,Ms Wl i=false)∧(∀ i:Nat,Ms ZP i=false)∧(∀ i:Nat,Ms Wm i=false)∧(∀ i:Nat,Ms Jr i=false)∧(∀ i:Nat,Ms Wn i=false)∧(∀ i:Nat,Ms Xk i=false)∧(∀ i:Nat,Ms XJ i=false)∧(∀ i:Nat,Ms Uk i=false)∧(∀ i:Nat,Ms Vj i=false)∧(∀ i:Nat,Ms X7 i=false)∧(∀ i:Nat,Ms YN i=false)∧(∀ i:Nat,Ms QU i=false)∧(∀ i:Nat,Ms Xl i=false)∧(∀ i:Nat,Ms Js i=false)∧(∀ i:Nat,Ms Vk i=false)∧(∀ i:Nat,Ms XS i=false)∧(∀ i:Nat,Ms QO i=false)∧(∀ i:Nat,Ms ZaI i=false)∧(∀ i:Nat,Ms Jt i=false)∧(∀ i:Nat,Ms X8 i=false)∧(∀ i:Nat,Ms Wo i=false)∧(∀ i:Nat,Ms Wp i=false)∧(∀ i:Nat,Ms Wq i=false)∧(∀ i:Nat,Ms ZaJ i=false)∧(∀ i:Nat,Ms Vl i=false)∧(∀ i:Nat,Ms XT i=false)∧(∀ i:Nat,Ms Y0 i=false)∧(∀ i:Nat,Ms Vm i=false)∧(∀ i:Nat,Ms Wr i=false)∧(∀ i:Nat,Ms Ul i=false)∧(∀ i:Nat,Ms Ws i=false)∧(∀ i:Nat,Ms Vn i=false)∧(∀ i:Nat,Ms Ju i=false)∧(∀ i:Nat,Ms Xd i=false)∧(∀ i:Nat,Ms Wt i=false)∧(∀ i:Nat,Ms Vo i=false)∧(∀ i:Nat,Ms YO i=false)∧(∀ i:Nat,Ms Jv i=false)∧(∀ i:Nat,Ms Vp i=false)∧(∀ i:Nat,Ms X9 i=false)∧(∀ i:Nat,Ms Ya i=false)∧(∀ i:Nat,Ms Vq i=false)∧(∀ i:Nat,Ms Vr i=false)∧(∀ i:Nat,Ms YP i=false)∧(∀ i:Nat,Ms XU i=false)∧(∀ i:Nat,Ms ZaK i=false)∧(∀ i:Nat,Ms Xe i=false)∧(∀ i:Nat,Ms VH i=false)∧(∀ i:Nat,Ms YQ i=false)∧(∀ i:Nat,Ms Xy i=false)∧(∀ i:Nat,Ms XV i=false)∧(∀ i:Nat,Ms Wu i=false):=⟨fun _=>rfl,fun _=>rfl,fun _=>rfl,fun _=>rfl,fun _=>rfl,fun _=>rfl,fun _=>rfl,fun _=>rfl,fun _=>rfl,fun _=>rfl,fun _=>rfl,fun _=>rfl,fun _=>rfl,fun _=>rfl,fun _=>rfl,fun _=>rfl,fun _=>rfl,fun _=>rfl,fun _=>rfl,fun _=>rfl,fun _=>rfl,fun _=>rfl,fun _=>rfl,fun _=>rfl,fun _=>rfl,fun _=>rfl,fun _=>rfl,fun _=>rfl,fun _=>rfl,fun _=>rfl,fun _=>rfl,fun _=>rfl,fun _=>rfl,fun _=>rfl,fun _=>rfl,fun _=>rfl,fun _=>rfl,fun _=>rfl,fun _=>rfl,fun _=>rfl,fun _=>rfl,fun _=>rfl,fun _=>rfl,fun _=>rfl,fun _=>rfl,fun _=>rfl,fun _=>rfl,fun _=>rfl,fun _=>rfl,fun _=>rfl,fun _=>rfl,fun _=>rfl,fun _=>rfl,fun _=>rfl,fun _=>rfl,fun _=>rfl,fun _=>rfl,fun _=>rfl,fun _=>rfl,fun _=>rfl,fun _=>rfl,fun _=>rfl,fun _=>rfl,fun _=>rfl,fun _=>rfl,fun _=>rfl,fun _=>rfl,fun _=>rfl,fun _=>rfl,fun _=>rfl,fun _=>rfl,fun _=>rfl,fun _=>rfl,fun _=>rfl,fun _=>rfl,fun _=>rfl,fun _=>rfl,fun _=>rfl,fun _=>rfl,fun _=>rfl,fun _=>rfl,fun _=>rfl,fun _=>rfl,fun _=>rfl,fun _=>rfl⟩
@[go_sem] theorem ZsC:Ms Qh 0=true:=rfl
@[go_sem] theorem ZsD:Ms Qh 1=false:=rfl
@[go_sem] theorem ZsE:Ms Qh 2=false:=rfl
@[go_sem] theorem ZsF:Ms Qh 3=false:=rfl
@[go_sem] theorem ZsG:Ms Qh 4=false:=rfl
@[go_sem] theorem ZsH:Ms Qh 5=false:=rfl
@[go_sem] theorem Zsj:Ms Qh 99=true:=rfl
@[go_sem] theorem ZsI:Ms Qi 0=true:=rfl
@[go_sem] theorem ZsJ:Ms Qi 1=false:=rfl
@[go_sem] theorem ZsK:Ms Qi 2=false:=rfl
@[go_sem] theorem ZsL:Ms Qi 3=false:=rfl
@[go_sem] theorem ZsM:Ms Qi 4=false:=rfl
@[go_sem] theorem ZsN:Ms Qi 5=false:=rfl
@[go_sem] theorem Zsk:Ms Qi 99=true:=rfl
@[go_sem] theorem ZsO:Ms Qj 0=true:=rfl
@[go_sem] theorem ZsP:Ms Qj 1=false:=rfl
@[go_sem] theorem ZsQ:Ms Qj 2=false:=rfl
@[go_sem] theorem ZsR:Ms Qj 3=false:=rfl
@[go_sem] theorem ZsS:Ms Qj 4=false:=rfl
@[go_sem] theorem ZsT:Ms Qj 5=false:=rfl
@[go_sem] theorem Zsl:Ms Qj 99=true:=rfl
@[go_sem] theorem Zrj:Ms ZN 0=true:=rfl
@[go_sem] theorem Zrk:Ms ZN 1=false:=rfl
@[go_sem] theorem Zrl:Ms ZN 2=false:=rfl
@[go_sem] theorem Zrm:Ms ZN 3=false:=rfl
@[go_sem] theorem Zrn:Ms ZN 4=false:=rfl
@[go_sem] theorem Zro:Ms ZN 5=false:=rfl
@[go_sem] theorem Zrh:Ms ZN 99=true:=rfl
@[go_sem] theorem Zsm:Ms Z2 0=true:=rfl
@[go_sem] theorem Zsn:Ms Z2 1=false:=rfl
@[go_sem] theorem Zso:Ms Z2 2=false:=rfl
@[go_sem] theorem Zsp:Ms Z2 3=false:=rfl
@[go_sem] theorem Zsq:Ms Z2 4=false:=rfl
@[go_sem] theorem Zsr:Ms Z2 5=false:=rfl
@[go_sem] theorem Zrp:Ms Z2 99=true:=rfl
@[go_sem] theorem Zss:Ms ZQ 0=true:=rfl
@[go_sem] theorem Zst:Ms ZQ 1=false:=rfl
@[go_sem] theorem Zsu:Ms ZQ 2=false:=rfl
@[go_sem] theorem Zsv:Ms ZQ 3=false:=rfl
@[go_sem] theorem Zsw:Ms ZQ 4=false:=rfl
@[go_sem] theorem Zsx:Ms ZQ 5=false:=rfl
@[go_sem] theorem Zrq:Ms ZQ 99=true:=rfl
@[go_sem] theorem ZsU:Ms ZY 0=true:=rfl
@[go_sem] theorem ZsV:Ms ZY 1=false:=rfl
@[go_sem] theorem ZsW:Ms ZY 2=false:=rfl
@[go_sem] theorem ZsX:Ms ZY 3=false:=rfl
@[go_sem] theorem ZsY:Ms ZY 4=false:=rfl
@[go_sem] theorem ZsZ:Ms ZY 5=false:=rfl
@[go_sem] theorem Zsy:Ms ZY 99=false:=rfl
end
end Go.Proofs.Ytnachaiejoflhaa
