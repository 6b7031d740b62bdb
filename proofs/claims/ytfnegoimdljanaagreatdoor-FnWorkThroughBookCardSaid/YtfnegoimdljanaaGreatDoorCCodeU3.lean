import Derived.Test.YtfnegoimdljanaaGreatDoorChecked
import Derived.Test.YtfnegoimdljanaaGreatDoorAbsEval
import Derived.Test.YtfnegoimdljanaaGreatDoorAbsAuto
set_option linter.unusedSimpArgs false
set_option linter.unusedVariables false
set_option maxRecDepth 20000
namespace Go.Proofs.YtfnegoimdljanaaGreatDoor
open Go Go.Abs
noncomputable section
set_option maxHeartbeats 4000000
def Ue:Zr:=Zl Tryz.prog Tryz.f20
def Z9:Zr:=Zl Tryz.prog Tryz.f24
def XI:Zr:=Zl Tryz.prog Tryz.f37
def Vd:Zr:=Zl Tryz.prog Tryz.f41
def Zf6:Zr:=Zl Tryz.prog Tryz.f45
def Zn8:Zr:=Zl Tryz.prog Tryz.f49
def ZcK:Zr:=Zl Tryz.prog Tryz.f53
def Ve:Zr:=Zl Tryz.prog Tryz.f70
def Q1:Zr:=Zl Tryz.prog Tryz.f74
def Zjq:Zr:=Zl Tryz.prog Tryz.f78
def Zgo:Zr:=Zl Tryz.prog Tryz.f82
def ZlV:Zr:=Zl Tryz.prog Tryz.f86
def ZhX:Zr:=Zl Tryz.prog Tryz.f92
def Zjr:Zr:=Zl Tryz.prog Tryz.f97
def Jp:Zr:=Zl Tryz.prog Tryz.f102
def ZcL:Zr:=Zl Tryz.prog Tryz.f107
def Wh:Zr:=Zl Tryz.prog Tryz.f119
def ZlW:Zr:=Zl Tryz.prog Tryz.f123
def ZQ:Zr:=Zl Tryz.prog Tryz.f128
def Zjs:Zr:=Zl Tryz.prog Tryz.f133
def Zn9:Zr:=Zl Tryz.prog Tryz.f137
def Jq:Zr:=Zl Tryz.prog Tryz.f141
def ZlX:Zr:=Zl Tryz.prog Tryz.f147
def ZhY:Zr:=Zl Tryz.prog Tryz.f153
def Jr:Zr:=Zl Tryz.prog Tryz.f157
def Zgp:Zr:=Zl Tryz.prog Tryz.f174
def ZcM:Zr:=Zl Tryz.prog Tryz.f180
def Zeb:Zr:=Zl Tryz.prog Tryz.f186
def ZlY:Zr:=Zl Tryz.prog Tryz.f190
def Js:Zr:=Zl Tryz.prog Tryz.f194
def ZlZ:Zr:=Zl Tryz.prog Tryz.f198
def Zdn:Zr:=Zl Tryz.prog Tryz.f204
def WF:Zr:=Zl Tryz.prog Tryz.f216
def ZrI:Zr:=Zl Tryz.prog Tryz.f224
def ZhZ:Zr:=Zl Tryz.prog Tryz.f228
def Qy:Zr:=Zl Tryz.prog Tryz.f240
def ZtV:Zr:=Zl Tryz.prog Tryz.f245
end
end Go.Proofs.YtfnegoimdljanaaGreatDoor
