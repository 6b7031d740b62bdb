import Derived.Test.YtfnegoimdljanaaGreatDoorChecked
import Derived.Test.YtfnegoimdljanaaGreatDoorAbsEval
import Derived.Test.YtfnegoimdljanaaGreatDoorAbsAuto
set_option maxRecDepth 20000
namespace Go.Proofs.YtfnegoimdljanaaGreatDoor
open Go Go.Abs
noncomputable section
set_option maxHeartbeats 4000000
def ZaW:Zp:=Zk Tryz.prog Tryz.f10
def Z7:Zp:=Zk Tryz.prog Tryz.f16
def Zhi:Zp:=Zk Tryz.prog Tryz.f26
def XP:Zp:=Zk Tryz.prog Tryz.f33
def XY:Zp:=Zk Tryz.prog Tryz.f37
def VD:Zp:=Zk Tryz.prog Tryz.f41
def ZgX:Zp:=Zk Tryz.prog Tryz.f45
def Znc:Zp:=Zk Tryz.prog Tryz.f50
def Zpo:Zp:=Zk Tryz.prog Tryz.f57
def Y0:Zp:=Zk Tryz.prog Tryz.f61
def VM:Zp:=Zk Tryz.prog Tryz.f67
def U3:Zp:=Zk Tryz.prog Tryz.f71
def Zde:Zp:=Zk Tryz.prog Tryz.f75
def Zkq:Zp:=Zk Tryz.prog Tryz.f79
def ZdN:Zp:=Zk Tryz.prog Tryz.f83
def XZ:Zp:=Zk Tryz.prog Tryz.f87
def Znd:Zp:=Zk Tryz.prog Tryz.f94
def ZiZ:Zp:=Zk Tryz.prog Tryz.f98
def JW:Zp:=Zk Tryz.prog Tryz.f105
def Zdf:Zp:=Zk Tryz.prog Tryz.f110
def ZgY:Zp:=Zk Tryz.prog Tryz.f114
def Zdg:Zp:=Zk Tryz.prog Tryz.f121
def UH:Zp:=Zk Tryz.prog Tryz.f125
def Zkr:Zp:=Zk Tryz.prog Tryz.f131
def Zks:Zp:=Zk Tryz.prog Tryz.f135
def Zne:Zp:=Zk Tryz.prog Tryz.f139
def VE:Zp:=Zk Tryz.prog Tryz.f145
def Zpp:Zp:=Zk Tryz.prog Tryz.f151
def Znf:Zp:=Zk Tryz.prog Tryz.f155
def ZaF:Zp:=Zk Tryz.prog Tryz.f159
def Zkt:Zp:=Zk Tryz.prog Tryz.f163
def Zng:Zp:=Zk Tryz.prog Tryz.f175
def ZeM:Zp:=Zk Tryz.prog Tryz.f181
def Zpq:Zp:=Zk Tryz.prog Tryz.f187
def Zln:Zp:=Zk Tryz.prog Tryz.f191
def Znh:Zp:=Zk Tryz.prog Tryz.f195
def Zku:Zp:=Zk Tryz.prog Tryz.f199
def Us:Zp:=Zk Tryz.prog Tryz.f205
def W9:Zp:=Zk Tryz.prog Tryz.f216
def Zte:Zp:=Zk Tryz.prog Tryz.f224
def Zi0:Zp:=Zk Tryz.prog Tryz.f228
def JX:Zp:=Zk Tryz.prog Tryz.f232
def Zlo:Zp:=Zk Tryz.prog Tryz.f242
def Xv:Zp:=Zk Tryz.prog Tryz.f248
end
end Go.Proofs.YtfnegoimdljanaaGreatDoor
