import Derived.Test.YtfnegoimdljanaaGreatDoorChecked
import Derived.Test.YtfnegoimdljanaaGreatDoorAbsEval
import Derived.Test.YtfnegoimdljanaaGreatDoorAbsAuto
set_option linter.unusedSimpArgs false
set_option linter.unusedVariables false
set_option maxRecDepth 20000
namespace Go.Proofs.YtfnegoimdljanaaGreatDoor
open Go Go.Abs
noncomputable section
set_option maxHeartbeats 4000000
def Zn2:Zr:=Zl Tryz.prog Tryz.f15
def Zjd:Zr:=Zl Tryz.prog Tryz.f21
def Zd8:Zr:=Zl Tryz.prog Tryz.f32
def Vw:Zr:=Zl Tryz.prog Tryz.f38
def Wf:Zr:=Zl Tryz.prog Tryz.f42
def Zaw:Zr:=Zl Tryz.prog Tryz.f46
def ZlD:Zr:=Zl Tryz.prog Tryz.f50
def Z4:Zr:=Zl Tryz.prog Tryz.f56
def Uz:Zr:=Zl Tryz.prog Tryz.f71
def ZcD:Zr:=Zl Tryz.prog Tryz.f75
def Zje:Zr:=Zl Tryz.prog Tryz.f79
def Zdl:Zr:=Zl Tryz.prog Tryz.f83
def XH:Zr:=Zl Tryz.prog Tryz.f87
def ZlE:Zr:=Zl Tryz.prog Tryz.f94
def ZhN:Zr:=Zl Tryz.prog Tryz.f98
def ZhO:Zr:=Zl Tryz.prog Tryz.f103
def Jl:Zr:=Zl Tryz.prog Tryz.f108
def Q9:Zr:=Zl Tryz.prog Tryz.f120
def Zjf:Zr:=Zl Tryz.prog Tryz.f124
def Zu:Zr:=Zl Tryz.prog Tryz.f130
def Zjg:Zr:=Zl Tryz.prog Tryz.f134
def Znc:Zr:=Zl Tryz.prog Tryz.f138
def ZrE:Zr:=Zl Tryz.prog Tryz.f144
def ZrF:Zr:=Zl Tryz.prog Tryz.f148
def Yv:Zr:=Zl Tryz.prog Tryz.f154
def ZlF:Zr:=Zl Tryz.prog Tryz.f158
def ZlG:Zr:=Zl Tryz.prog Tryz.f175
def Zd9:Zr:=Zl Tryz.prog Tryz.f181
def Zn3:Zr:=Zl Tryz.prog Tryz.f187
def Zkb:Zr:=Zl Tryz.prog Tryz.f191
def ZlH:Zr:=Zl Tryz.prog Tryz.f195
def Zjh:Zr:=Zl Tryz.prog Tryz.f199
def WV:Zr:=Zl Tryz.prog Tryz.f205
def ZhP:Zr:=Zl Tryz.prog Tryz.f220
def Zji:Zr:=Zl Tryz.prog Tryz.f225
def ZrG:Zr:=Zl Tryz.prog Tryz.f229
def Zkc:Zr:=Zl Tryz.prog Tryz.f242
def Xh:Zr:=Zl Tryz.prog Tryz.f248
end
end Go.Proofs.YtfnegoimdljanaaGreatDoor
