import Derived.Test.YtfnegoimdljanaaGreatDoorChecked
import Derived.Test.YtfnegoimdljanaaGreatDoorAbsEval
import Derived.Test.YtfnegoimdljanaaGreatDoorAbsAuto
set_option linter.unusedSimpArgs false
set_option linter.unusedVariables false
set_option maxRecDepth 20000
namespace Go.Proofs.YtfnegoimdljanaaGreatDoor
open Go Go.Abs
noncomputable section
set_option maxHeartbeats 4000000
def ZaZ:Zr:=Zl Tryz.prog Tryz.f18
def ZcG:Zr:=Zl Tryz.prog Tryz.f23
def Zea:Zr:=Zl Tryz.prog Tryz.f36
def Zjm:Zr:=Zl Tryz.prog Tryz.f40
def Zgm:Zr:=Zl Tryz.prog Tryz.f44
def YD:Zr:=Zl Tryz.prog Tryz.f48
def ZC:Zr:=Zl Tryz.prog Tryz.f52
def Yg:Zr:=Zl Tryz.prog Tryz.f69
def Zgn:Zr:=Zl Tryz.prog Tryz.f73
def Zjn:Zr:=Zl Tryz.prog Tryz.f77
def Zax:Zr:=Zl Tryz.prog Tryz.f81
def YW:Zr:=Zl Tryz.prog Tryz.f85
def ZlS:Zr:=Zl Tryz.prog Tryz.f90
def Zjo:Zr:=Zl Tryz.prog Tryz.f96
def WY:Zr:=Zl Tryz.prog Tryz.f101
def Jn:Zr:=Zl Tryz.prog Tryz.f105
def ZcH:Zr:=Zl Tryz.prog Tryz.f110
def ZcI:Zr:=Zl Tryz.prog Tryz.f122
def Zn7:Zr:=Zl Tryz.prog Tryz.f127
def ZhT:Zr:=Zl Tryz.prog Tryz.f132
def Zjp:Zr:=Zl Tryz.prog Tryz.f136
def QR:Zr:=Zl Tryz.prog Tryz.f140
def Zdm:Zr:=Zl Tryz.prog Tryz.f146
def Wg:Zr:=Zl Tryz.prog Tryz.f152
def ZrH:Zr:=Zl Tryz.prog Tryz.f156
def QU:Zr:=Zl Tryz.prog Tryz.f164
def JB:Zr:=Zl Tryz.prog Tryz.f178
def ZhU:Zr:=Zl Tryz.prog Tryz.f183
def ZlT:Zr:=Zl Tryz.prog Tryz.f189
def ZlU:Zr:=Zl Tryz.prog Tryz.f193
def WZ:Zr:=Zl Tryz.prog Tryz.f197
def Wx:Zr:=Zl Tryz.prog Tryz.f202
def ZhV:Zr:=Zl Tryz.prog Tryz.f215
def Jo:Zr:=Zl Tryz.prog Tryz.f222
def ZcJ:Zr:=Zl Tryz.prog Tryz.f227
def XY:Zr:=Zl Tryz.prog Tryz.f231
def ZhW:Zr:=Zl Tryz.prog Tryz.f244
end
end Go.Proofs.YtfnegoimdljanaaGreatDoor
