/- Own text. -/
import Derived.Test.YtnachaiejoflhaaACodeA
set_option maxRecDepth 20000
namespace Go.Proofs.Ytnachaiejoflhaa
open Go Go.Abs Go.Abs.Q
noncomputable section
def tbl:List (Nat×Go.Abs.Fn):=[(QS,.text QU),(WR,.text VL),(V9,.text We),(XQ,.text Zb3),(YR,.text Wf),(YK,.text Zb4),(WS,.text Zb5),(Z9,.text Jv),(Qa,.text Jw),(Ya,.text Jx),(WT,.text Zb6),(Qb,.text Jy),(Wa,.text Uw),(Wb,.text Zaw),(Y5,.text Jz),(Wc,.text Zax),(ZJ,.text W0),(Y6,.text WB),(Y7,.text JA),(YS,.text Ux),(Yr,.text QR),(XA,.text UL),(WU,.text Zb7),(YT,.text Zay),(Ys,.text Q7),(Yt,.text UM),(Wd,.text Zaz),(YU,.text ZaA),(ZM,.text UN),(ZT,.text UO),(Yu,.text UP),(U8,.text ZdC),(WV,.text JB),(XR,.text W1),(ZR,.text ZaB),(WW,.text Zb8),(XS,.text W2),(Xf,.text W3),(Y8,.text JC),(WX,.text Zb9),(Xg,.text Vd),(QT,.text Ve),(Yv,.text UQ),(Yw,.text UR),(QH,.text XU),(Q1,.text Wp),(VJ,.text Zca),(WY,.text Zcb),(WZ,.text Zcc),(Y9,.text JD),(Va,.text JE),(U9,.text ZdD),(Xp,.text JF),(Vb,.text WC),(XT,.text Vf),(Yx,.text US),(Yy,.text UT),(Yz,.text UU),(YA,.text UV),(Vc,.text JG),(VK,.text VM),(Yb,.text JH),(Qz,.text XD),(Xh,.text W4)]
def Xs:Fns:=fun f=>lkp tbl f
def Ms:Zf:=fun f i=>(f==ZJ&&i==0) || (f==ZJ&&i==99) || (f==Qb&&i==0) || (f==Qb&&i==99) || (f==ZM&&i==0) || (f==ZM&&i==99) || (f==ZT&&i==0) || (f==ZT&&i==99) || (f==Z9&&i==0) || (f==Z9&&i==99) || (f==Qa&&i==0) || (f==Qa&&i==99)
@[go_sem] theorem ms_all:(∀ i:Nat,Ms QS i=false)∧(∀ i:Nat,Ms WR i=false)∧(∀ i:Nat,Ms V9 i=false)∧(∀ i:Nat,Ms XQ i=false)∧(∀ i:Nat,Ms YR i=false)∧(∀ i:Nat,Ms YK i=false)∧(∀ i:Nat,Ms WS i=false)∧(∀ i:Nat,Ms Ya i=false)∧(∀ i:Nat,Ms WT i=false)∧(∀ i:Nat,Ms Wa i=false)∧(∀ i:Nat,Ms Wb i=false)∧(∀ i:Nat,Ms Y5 i=false)∧(∀ i:Nat,Ms Wc i=false)∧(∀ i:Nat,Ms Y6 i=false)∧(∀ i:Nat,Ms Y7 i=false)∧(∀ i:Nat,Ms YS i=false)∧(∀ i:Nat,Ms Yr i=false)∧(∀ i:Nat,Ms XA i=false)∧(∀ i:Nat,Ms WU i=false)∧(∀ i:Nat,Ms YT i=false)∧(∀ i:Nat,Ms Ys i=false)∧(∀ i:Nat,Ms Yt i=false)∧(∀ i:Nat,Ms Wd i=false)∧(∀ i:Nat,Ms YU i=false)∧(∀ i:Nat,Ms Yu i=false)∧(∀ i:Nat,Ms U8 i=false)∧(∀ i:Nat,Ms WV i=false)∧(∀ i:Nat,Ms XR i=false)∧(∀ i:Nat,Ms ZR i=false)∧(∀ i:Nat,Ms WW i=false)∧(∀ i:Nat,Ms XS i=false)∧(∀ i:Nat,Ms Xf i=false)∧(∀ i:Nat,Ms Y8 i=false)∧(∀ i:Nat,Ms WX i=false)∧(∀ i:Nat,Ms Xg i=false)∧(∀ i:Nat,Ms QT i=false)∧(∀ i:Nat,Ms Yv i=false)∧(∀ i:Nat,Ms Yw i=false)∧(∀ i:Nat,Ms QH i=false)∧(∀ i:Nat,Ms Q1 i=false)∧(∀ i:Nat,Ms VJ i=false)∧(∀ i:Nat,Ms WY i=false)∧(∀ i:Nat,Ms WZ i=false)∧(∀ i:Nat,Ms Y9 i=false)∧(∀ i:Nat,Ms Va i=false)∧(∀ i:Nat,Ms U9 i=false)∧(∀ i:Nat,Ms Xp i=false)∧(∀ i:Nat,Ms Vb i=false)∧(∀ i:Nat,Ms XT i=false)∧(∀ i:Nat,Ms Yx i=false)∧(∀ i:Nat,Ms Yy i=false)∧(∀ i:Nat,Ms Yz i=false)∧(∀ i:Nat,Ms YA i=false)∧(∀ i:Nat,Ms Vc i=false)∧(∀ i:Nat,Ms VK i=false)∧(∀ i:Nat,Ms Yb i=false)∧(∀ i:Nat,Ms Qz i=false)∧(∀ i:Nat,Ms Xh i=false):=⟨fun _=>rfl,fun _=>rfl,fun _=>rfl,fun _=>rfl,fun _=>rfl,fun _=>rfl,fun _=>rfl,fun _=>rfl,fun _=>rfl,fun _=>rfl,fun _=>rfl,fun _=>rfl,fun _=>rfl,fun _=>rfl,fun _=>rfl,fun _=>rfl,fun _=>rfl,fun _=>rfl,fun _=>rfl,fun _=>rfl,fun _=>rfl,fun _=>rfl,fun _=>rfl,fun _=>rfl,fun _=>rfl,fun _=>rfl,fun _=>rfl,fun _=>rfl,fun _=>rfl,fun _=>rfl,fun _=>rfl,fun _=>rfl,fun _=>rfl,fun _=>rfl,fun _=>rfl,fun _=>rfl,fun _=>rfl,fun _=>rfl,fun _=>rfl,fun _=>rfl,fun _=>rfl,fun _=>rfl,fun _=>rfl,fun _=>rfl,fun _=>rfl,fun _=>rfl,fun _=>rfl,fun _=>rfl,fun _=>rfl,fun _=>rfl,fun _=>rfl,fun _=>rfl,fun _=>rfl,fun _=>rfl,fun _=>rfl,fun _=>rfl,fun _=>rfl,fun _=>rfl⟩
@[go_sem] theorem Zqd:Ms Z9 0=true:=rfl
@[go_sem] theorem Zqe:Ms Z9 1=false:=rfl
@[go_sem] theorem Zqf:Ms Z9 2=false:=rfl
@[go_sem] theorem Zqg:Ms Z9 3=false:=rfl
@[go_sem] theorem Zqh:Ms Z9 4=false:=rfl
@[go_sem] theorem Zqi:Ms Z9 5=false:=rfl
@[go_sem] theorem Zo2:Ms Z9 99=true:=rfl
@[go_sem] theorem Zqj:Ms Qa 0=true:=rfl
@[go_sem] theorem Zqk:Ms Qa 1=false:=rfl
@[go_sem] theorem Zql:Ms Qa 2=false:=rfl
@[go_sem] theorem Zqm:Ms Qa 3=false:=rfl
@[go_sem] theorem Zqn:Ms Qa 4=false:=rfl
@[go_sem] theorem Zqo:Ms Qa 5=false:=rfl
@[go_sem] theorem Zo3:Ms Qa 99=true:=rfl
@[go_sem] theorem Zqp:Ms Qb 0=true:=rfl
@[go_sem] theorem Zqq:Ms Qb 1=false:=rfl
@[go_sem] theorem Zqr:Ms Qb 2=false:=rfl
@[go_sem] theorem Zqs:Ms Qb 3=false:=rfl
@[go_sem] theorem Zqt:Ms Qb 4=false:=rfl
@[go_sem] theorem Zqu:Ms Qb 5=false:=rfl
@[go_sem] theorem Zo4:Ms Qb 99=true:=rfl
@[go_sem] theorem ZoQ:Ms ZJ 0=true:=rfl
@[go_sem] theorem ZoR:Ms ZJ 1=false:=rfl
@[go_sem] theorem ZoS:Ms ZJ 2=false:=rfl
@[go_sem] theorem ZoT:Ms ZJ 3=false:=rfl
@[go_sem] theorem ZoU:Ms ZJ 4=false:=rfl
@[go_sem] theorem ZoV:Ms ZJ 5=false:=rfl
@[go_sem] theorem ZnO:Ms ZJ 99=true:=rfl
@[go_sem] theorem Zo5:Ms ZM 0=true:=rfl
@[go_sem] theorem Zo6:Ms ZM 1=false:=rfl
@[go_sem] theorem Zo7:Ms ZM 2=false:=rfl
@[go_sem] theorem Zo8:Ms ZM 3=false:=rfl
@[go_sem] theorem Zo9:Ms ZM 4=false:=rfl
@[go_sem] theorem Zpa:Ms ZM 5=false:=rfl
@[go_sem] theorem ZoW:Ms ZM 99=true:=rfl
@[go_sem] theorem Zpb:Ms ZT 0=true:=rfl
@[go_sem] theorem Zpc:Ms ZT 1=false:=rfl
@[go_sem] theorem Zpd:Ms ZT 2=false:=rfl
@[go_sem] theorem Zpe:Ms ZT 3=false:=rfl
@[go_sem] theorem Zpf:Ms ZT 4=false:=rfl
@[go_sem] theorem Zpg:Ms ZT 5=false:=rfl
@[go_sem] theorem ZoX:Ms ZT 99=true:=rfl
end
end Go.Proofs.Ytnachaiejoflhaa
