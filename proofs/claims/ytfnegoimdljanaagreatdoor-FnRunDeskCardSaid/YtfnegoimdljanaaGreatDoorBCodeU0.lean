import Derived.Test.YtfnegoimdljanaaGreatDoorChecked
import Derived.Test.YtfnegoimdljanaaGreatDoorAbsEval
import Derived.Test.YtfnegoimdljanaaGreatDoorAbsAuto
set_option maxRecDepth 20000
namespace Go.Proofs.YtfnegoimdljanaaGreatDoor
open Go Go.Abs
noncomputable section
set_option maxHeartbeats 4000000
def QB:Zp:=Zk Tryz.prog Tryz.f4
def Zhc:Zp:=Zk Tryz.prog Tryz.f12
def ZmU:Zp:=Zk Tryz.prog Tryz.f17
def Vz:Zp:=Zk Tryz.prog Tryz.f27
def ZiM:Zp:=Zk Tryz.prog Tryz.f34
def VV:Zp:=Zk Tryz.prog Tryz.f38
def WE:Zp:=Zk Tryz.prog Tryz.f42
def ZmV:Zp:=Zk Tryz.prog Tryz.f47
def Zpf:Zp:=Zk Tryz.prog Tryz.f51
def WF:Zp:=Zk Tryz.prog Tryz.f58
def Zpg:Zp:=Zk Tryz.prog Tryz.f64
def WG:Zp:=Zk Tryz.prog Tryz.f68
def Zhd:Zp:=Zk Tryz.prog Tryz.f72
def Zc6:Zp:=Zk Tryz.prog Tryz.f76
def Uo:Zp:=Zk Tryz.prog Tryz.f80
def ZiN:Zp:=Zk Tryz.prog Tryz.f84
def VX:Zp:=Zk Tryz.prog Tryz.f88
def ZiO:Zp:=Zk Tryz.prog Tryz.f95
def XX:Zp:=Zk Tryz.prog Tryz.f100
def Zc7:Zp:=Zk Tryz.prog Tryz.f107
def Zke:Zp:=Zk Tryz.prog Tryz.f111
def ZbP:Zp:=Zk Tryz.prog Tryz.f115
def Zc8:Zp:=Zk Tryz.prog Tryz.f122
def Zph:Zp:=Zk Tryz.prog Tryz.f127
def ZiP:Zp:=Zk Tryz.prog Tryz.f132
def Zkf:Zp:=Zk Tryz.prog Tryz.f136
def Q1:Zp:=Zk Tryz.prog Tryz.f140
def ZdK:Zp:=Zk Tryz.prog Tryz.f146
def WH:Zp:=Zk Tryz.prog Tryz.f152
def Zta:Zp:=Zk Tryz.prog Tryz.f156
def JO:Zp:=Zk Tryz.prog Tryz.f160
def Q5:Zp:=Zk Tryz.prog Tryz.f164
def ZmW:Zp:=Zk Tryz.prog Tryz.f176
def Up:Zp:=Zk Tryz.prog Tryz.f182
def ZmX:Zp:=Zk Tryz.prog Tryz.f188
def Zpi:Zp:=Zk Tryz.prog Tryz.f192
def Zvq:Zp:=Zk Tryz.prog Tryz.f196
def ZmY:Zp:=Zk Tryz.prog Tryz.f200
def ZmZ:Zp:=Zk Tryz.prog Tryz.f207
def ZiQ:Zp:=Zk Tryz.prog Tryz.f220
def Zkg:Zp:=Zk Tryz.prog Tryz.f225
def Ztb:Zp:=Zk Tryz.prog Tryz.f229
def Zc9:Zp:=Zk Tryz.prog Tryz.f233
def Zm0:Zp:=Zk Tryz.prog Tryz.f243
end
end Go.Proofs.YtfnegoimdljanaaGreatDoor
