/- Own text. -/
import Derived.Test.YtfnegoimdljanaaGreatDoorChecked
import Derived.Test.YtfnegoimdljanaaGreatDoorAbsEval
import Derived.Test.YtfnegoimdljanaaGreatDoorAbsAuto
set_option maxRecDepth 20000
namespace Go.Proofs.YtfnegoimdljanaaGreatDoor
open Go Go.Abs
noncomputable section
set_option maxHeartbeats 4000000
abbrev Au3:=fun f=>ZCT (Zvx Tryz.prog f)
def ZfS:Zr:=by refine Zl (?h:Au3 Tryz.f9=?b);rotate_left;conv=>lhs;reduce
def ZiV:Zr:=by refine Zl (?h:Au3 Tryz.f15=?b);rotate_left;conv=>lhs;reduce
def Zcp:Zr:=by refine Zl (?h:Au3 Tryz.f26=?b);rotate_left;conv=>lhs;reduce
def Xv:Zr:=by refine Zl (?h:Au3 Tryz.f37=?b);rotate_left;conv=>lhs;reduce
def Y5:Zr:=by refine Zl (?h:Au3 Tryz.f41=?b);rotate_left;conv=>lhs;reduce
def Zdn:Zr:=by refine Zl (?h:Au3 Tryz.f45=?b);rotate_left;conv=>lhs;reduce
def Zht:Zr:=by refine Zl (?h:Au3 Tryz.f50=?b);rotate_left;conv=>lhs;reduce
def ZiW:Zr:=by refine Zl (?h:Au3 Tryz.f57=?b);rotate_left;conv=>lhs;reduce
def Ys:Zr:=by refine Zl (?h:Au3 Tryz.f61=?b);rotate_left;conv=>lhs;reduce
def WV:Zr:=by refine Zl (?h:Au3 Tryz.f71=?b);rotate_left;conv=>lhs;reduce
def J9:Zr:=by refine Zl (?h:Au3 Tryz.f75=?b);rotate_left;conv=>lhs;reduce
def ZfT:Zr:=by refine Zl (?h:Au3 Tryz.f79=?b);rotate_left;conv=>lhs;reduce
def Zb5:Zr:=by refine Zl (?h:Au3 Tryz.f83=?b);rotate_left;conv=>lhs;reduce
def Xw:Zr:=by refine Zl (?h:Au3 Tryz.f87=?b);rotate_left;conv=>lhs;reduce
def Zfc:Zr:=by refine Zl (?h:Au3 Tryz.f95=?b);rotate_left;conv=>lhs;reduce
def Xx:Zr:=by refine Zl (?h:Au3 Tryz.f100=?b);rotate_left;conv=>lhs;reduce
def Zaa:Zr:=by refine Zl (?h:Au3 Tryz.f107=?b);rotate_left;conv=>lhs;reduce
def ZfU:Zr:=by refine Zl (?h:Au3 Tryz.f111=?b);rotate_left;conv=>lhs;reduce
def Zab:Zr:=by refine Zl (?h:Au3 Tryz.f115=?b);rotate_left;conv=>lhs;reduce
def Zac:Zr:=by refine Zl (?h:Au3 Tryz.f122=?b);rotate_left;conv=>lhs;reduce
def ZiX:Zr:=by refine Zl (?h:Au3 Tryz.f127=?b);rotate_left;conv=>lhs;reduce
def ZfV:Zr:=by refine Zl (?h:Au3 Tryz.f133=?b);rotate_left;conv=>lhs;reduce
def ZiY:Zr:=by refine Zl (?h:Au3 Tryz.f137=?b);rotate_left;conv=>lhs;reduce
def Ul:Zr:=by refine Zl (?h:Au3 Tryz.f141=?b);rotate_left;conv=>lhs;reduce
def Zhu:Zr:=by refine Zl (?h:Au3 Tryz.f147=?b);rotate_left;conv=>lhs;reduce
def Zfd:Zr:=by refine Zl (?h:Au3 Tryz.f153=?b);rotate_left;conv=>lhs;reduce
def Um:Zr:=by refine Zl (?h:Au3 Tryz.f157=?b);rotate_left;conv=>lhs;reduce
def Zee:Zr:=by refine Zl (?h:Au3 Tryz.f161=?b);rotate_left;conv=>lhs;reduce
def UK:Zr:=by refine Zl (?h:Au3 Tryz.f165=?b);rotate_left;conv=>lhs;reduce
def Wi:Zr:=by refine Zl (?h:Au3 Tryz.f178=?b);rotate_left;conv=>lhs;reduce
def Zef:Zr:=by refine Zl (?h:Au3 Tryz.f183=?b);rotate_left;conv=>lhs;reduce
def Zhv:Zr:=by refine Zl (?h:Au3 Tryz.f191=?b);rotate_left;conv=>lhs;reduce
def Zhw:Zr:=by refine Zl (?h:Au3 Tryz.f195=?b);rotate_left;conv=>lhs;reduce
def ZfW:Zr:=by refine Zl (?h:Au3 Tryz.f199=?b);rotate_left;conv=>lhs;reduce
def Wf:Zr:=by refine Zl (?h:Au3 Tryz.f205=?b);rotate_left;conv=>lhs;reduce
def Vc:Zr:=by refine Zl (?h:Au3 Tryz.f216=?b);rotate_left;conv=>lhs;reduce
def Zls:Zr:=by refine Zl (?h:Au3 Tryz.f224=?b);rotate_left;conv=>lhs;reduce
def Zeg:Zr:=by refine Zl (?h:Au3 Tryz.f228=?b);rotate_left;conv=>lhs;reduce
def Wp:Zr:=by refine Zl (?h:Au3 Tryz.f232=?b);rotate_left;conv=>lhs;reduce
def Zhx:Zr:=by refine Zl (?h:Au3 Tryz.f242=?b);rotate_left;conv=>lhs;reduce
def Qz:Zr:=by refine Zl (?h:Au3 Tryz.f248=?b);rotate_left;conv=>lhs;reduce
end
end Go.Proofs.YtfnegoimdljanaaGreatDoor
