import Derived.Test.YtfnegoimdljanaaGreatDoorChecked
import Derived.Test.YtfnegoimdljanaaGreatDoorAbsEval
import Derived.Test.YtfnegoimdljanaaGreatDoorAbsAuto
set_option linter.unusedSimpArgs false
set_option linter.unusedVariables false
set_option maxRecDepth 20000
namespace Go.Proofs.YtfnegoimdljanaaGreatDoor
open Go Go.Abs
noncomputable section
set_option maxHeartbeats 4000000
def Z2:Zr:=Zl Tryz.prog Tryz.f16
def Zgk:Zr:=Zl Tryz.prog Tryz.f22
def ZhQ:Zr:=Zl Tryz.prog Tryz.f34
def Zjj:Zr:=Zl Tryz.prog Tryz.f39
def ZlI:Zr:=Zl Tryz.prog Tryz.f43
def ZlJ:Zr:=Zl Tryz.prog Tryz.f47
def Zn4:Zr:=Zl Tryz.prog Tryz.f51
def Vs:Zr:=Zl Tryz.prog Tryz.f67
def Zgl:Zr:=Zl Tryz.prog Tryz.f72
def ZcE:Zr:=Zl Tryz.prog Tryz.f76
def WW:Zr:=Zl Tryz.prog Tryz.f80
def ZhR:Zr:=Zl Tryz.prog Tryz.f84
def Vx:Zr:=Zl Tryz.prog Tryz.f88
def ZhS:Zr:=Zl Tryz.prog Tryz.f95
def Yf:Zr:=Zl Tryz.prog Tryz.f100
def Zah:Zr:=Zl Tryz.prog Tryz.f104
def Jm:Zr:=Zl Tryz.prog Tryz.f109
def ZcF:Zr:=Zl Tryz.prog Tryz.f121
def Ud:Zr:=Zl Tryz.prog Tryz.f125
def Zjk:Zr:=Zl Tryz.prog Tryz.f131
def Zjl:Zr:=Zl Tryz.prog Tryz.f135
def ZlK:Zr:=Zl Tryz.prog Tryz.f139
def Vc:Zr:=Zl Tryz.prog Tryz.f145
def Zn5:Zr:=Zl Tryz.prog Tryz.f151
def ZlL:Zr:=Zl Tryz.prog Tryz.f155
def Zai:Zr:=Zl Tryz.prog Tryz.f159
def ZlM:Zr:=Zl Tryz.prog Tryz.f176
def WX:Zr:=Zl Tryz.prog Tryz.f182
def ZlN:Zr:=Zl Tryz.prog Tryz.f188
def Zn6:Zr:=Zl Tryz.prog Tryz.f192
def ZtU:Zr:=Zl Tryz.prog Tryz.f196
def ZlO:Zr:=Zl Tryz.prog Tryz.f200
def ZlP:Zr:=Zl Tryz.prog Tryz.f207
def ZlQ:Zr:=Zl Tryz.prog Tryz.f221
def XW:Zr:=Zl Tryz.prog Tryz.f226
def XX:Zr:=Zl Tryz.prog Tryz.f230
def ZlR:Zr:=Zl Tryz.prog Tryz.f243
end
end Go.Proofs.YtfnegoimdljanaaGreatDoor
