import Derived.Test.YtfnegoimdljanaaGreatDoorChecked
import Derived.Test.YtfnegoimdljanaaGreatDoorAbsEval
import Derived.Test.YtfnegoimdljanaaGreatDoorAbsAuto
set_option maxRecDepth 20000
namespace Go.Proofs.YtfnegoimdljanaaGreatDoor
open Go Go.Abs
noncomputable section
set_option maxHeartbeats 4000000
def ZdL:Zp:=Zk Tryz.prog Tryz.f8
def Zpk:Zp:=Zk Tryz.prog Tryz.f15
def Zpl:Zp:=Zk Tryz.prog Tryz.f25
def ZeJ:Zp:=Zk Tryz.prog Tryz.f32
def ZeK:Zp:=Zk Tryz.prog Tryz.f36
def Zkl:Zp:=Zk Tryz.prog Tryz.f40
def Zhf:Zp:=Zk Tryz.prog Tryz.f44
def Zpm:Zp:=Zk Tryz.prog Tryz.f49
def Qa:Zp:=Zk Tryz.prog Tryz.f56
def Zpn:Zp:=Zk Tryz.prog Tryz.f60
def U1:Zp:=Zk Tryz.prog Tryz.f66
def VC:Zp:=Zk Tryz.prog Tryz.f70
def Xc:Zp:=Zk Tryz.prog Tryz.f74
def Zkm:Zp:=Zk Tryz.prog Tryz.f78
def Zhg:Zp:=Zk Tryz.prog Tryz.f82
def Zm8:Zp:=Zk Tryz.prog Tryz.f86
def ZiW:Zp:=Zk Tryz.prog Tryz.f92
def Zkn:Zp:=Zk Tryz.prog Tryz.f97
def JS:Zp:=Zk Tryz.prog Tryz.f102
def JT:Zp:=Zk Tryz.prog Tryz.f109
def ZiX:Zp:=Zk Tryz.prog Tryz.f113
def Xk:Zp:=Zk Tryz.prog Tryz.f120
def Zko:Zp:=Zk Tryz.prog Tryz.f124
def Zw:Zp:=Zk Tryz.prog Tryz.f130
def Zkp:Zp:=Zk Tryz.prog Tryz.f134
def Zoq:Zp:=Zk Tryz.prog Tryz.f138
def Ztc:Zp:=Zk Tryz.prog Tryz.f144
def Ztd:Zp:=Zk Tryz.prog Tryz.f148
def YS:Zp:=Zk Tryz.prog Tryz.f154
def Zm9:Zp:=Zk Tryz.prog Tryz.f158
def XO:Zp:=Zk Tryz.prog Tryz.f162
def Zhh:Zp:=Zk Tryz.prog Tryz.f174
def Zdc:Zp:=Zk Tryz.prog Tryz.f180
def ZeL:Zp:=Zk Tryz.prog Tryz.f186
def Zna:Zp:=Zk Tryz.prog Tryz.f190
def JU:Zp:=Zk Tryz.prog Tryz.f194
def Znb:Zp:=Zk Tryz.prog Tryz.f198
def ZdM:Zp:=Zk Tryz.prog Tryz.f204
def ZiY:Zp:=Zk Tryz.prog Tryz.f215
def JV:Zp:=Zk Tryz.prog Tryz.f222
def Zdd:Zp:=Zk Tryz.prog Tryz.f227
def Yj:Zp:=Zk Tryz.prog Tryz.f231
def QC:Zp:=Zk Tryz.prog Tryz.f240
def Zvr:Zp:=Zk Tryz.prog Tryz.f245
end
end Go.Proofs.YtfnegoimdljanaaGreatDoor
