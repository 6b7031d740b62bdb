import Derived.Test.YtfnegoimdljanaaGreatDoorChecked
import Derived.Test.YtfnegoimdljanaaGreatDoorAbsEval
import Derived.Test.YtfnegoimdljanaaGreatDoorAbsAuto
set_option maxRecDepth 20000
namespace Go.Proofs.YtfnegoimdljanaaGreatDoor
open Go Go.Abs
noncomputable section
set_option maxHeartbeats 4000000
def ZeH:Zp:=Zk Tryz.prog Tryz.f5
def ZiR:Zp:=Zk Tryz.prog Tryz.f13
def Qi:Zp:=Zk Tryz.prog Tryz.f24
def VA:Zp:=Zk Tryz.prog Tryz.f29
def ZeI:Zp:=Zk Tryz.prog Tryz.f35
def Zkh:Zp:=Zk Tryz.prog Tryz.f39
def Zm1:Zp:=Zk Tryz.prog Tryz.f43
def YZ:Zp:=Zk Tryz.prog Tryz.f48
def ZB:Zp:=Zk Tryz.prog Tryz.f52
def Zlm:Zp:=Zk Tryz.prog Tryz.f59
def Zda:Zp:=Zk Tryz.prog Tryz.f65
def YD:Zp:=Zk Tryz.prog Tryz.f69
def Zhe:Zp:=Zk Tryz.prog Tryz.f73
def Zki:Zp:=Zk Tryz.prog Tryz.f77
def ZaV:Zp:=Zk Tryz.prog Tryz.f81
def Vi:Zp:=Zk Tryz.prog Tryz.f85
def Zm2:Zp:=Zk Tryz.prog Tryz.f90
def Zkj:Zp:=Zk Tryz.prog Tryz.f96
def Uq:Zp:=Zk Tryz.prog Tryz.f101
def JP:Zp:=Zk Tryz.prog Tryz.f108
def Zdb:Zp:=Zk Tryz.prog Tryz.f112
def WI:Zp:=Zk Tryz.prog Tryz.f119
def Zm3:Zp:=Zk Tryz.prog Tryz.f123
def ZR:Zp:=Zk Tryz.prog Tryz.f128
def Zkk:Zp:=Zk Tryz.prog Tryz.f133
def Zpj:Zp:=Zk Tryz.prog Tryz.f137
def JQ:Zp:=Zk Tryz.prog Tryz.f141
def Zm4:Zp:=Zk Tryz.prog Tryz.f147
def ZiS:Zp:=Zk Tryz.prog Tryz.f153
def JR:Zp:=Zk Tryz.prog Tryz.f157
def ZiT:Zp:=Zk Tryz.prog Tryz.f161
def ZaE:Zp:=Zk Tryz.prog Tryz.f165
def J4:Zp:=Zk Tryz.prog Tryz.f178
def ZiU:Zp:=Zk Tryz.prog Tryz.f183
def Zm5:Zp:=Zk Tryz.prog Tryz.f189
def Zm6:Zp:=Zk Tryz.prog Tryz.f193
def Ur:Zp:=Zk Tryz.prog Tryz.f197
def WZ:Zp:=Zk Tryz.prog Tryz.f202
def Z0:Zp:=Zk Tryz.prog Tryz.f208
def Zm7:Zp:=Zk Tryz.prog Tryz.f221
def Yh:Zp:=Zk Tryz.prog Tryz.f226
def Yi:Zp:=Zk Tryz.prog Tryz.f230
def YR:Zp:=Zk Tryz.prog Tryz.f234
def ZiV:Zp:=Zk Tryz.prog Tryz.f244
end
end Go.Proofs.YtfnegoimdljanaaGreatDoor
