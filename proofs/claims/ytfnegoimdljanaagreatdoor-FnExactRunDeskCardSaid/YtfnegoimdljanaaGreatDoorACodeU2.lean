/- Own text. -/
import Derived.Test.YtfnegoimdljanaaGreatDoorChecked
import Derived.Test.YtfnegoimdljanaaGreatDoorAbsEval
import Derived.Test.YtfnegoimdljanaaGreatDoorAbsAuto
set_option maxRecDepth 20000
namespace Go.Proofs.YtfnegoimdljanaaGreatDoor
open Go Go.Abs
noncomputable section
set_option maxHeartbeats 4000000
abbrev Au2:=fun f=>ZCT (Zvx Tryz.prog f)
def Zb2:Zr:=by refine Zl (?h:Au2 Tryz.f8=?b);rotate_left;conv=>lhs;reduce
def Zfb:Zr:=by refine Zl (?h:Au2 Tryz.f13=?b);rotate_left;conv=>lhs;reduce
def ZiS:Zr:=by refine Zl (?h:Au2 Tryz.f25=?b);rotate_left;conv=>lhs;reduce
def ZbM:Zr:=by refine Zl (?h:Au2 Tryz.f36=?b);rotate_left;conv=>lhs;reduce
def ZfP:Zr:=by refine Zl (?h:Au2 Tryz.f40=?b);rotate_left;conv=>lhs;reduce
def Zcn:Zr:=by refine Zl (?h:Au2 Tryz.f44=?b);rotate_left;conv=>lhs;reduce
def ZiT:Zr:=by refine Zl (?h:Au2 Tryz.f49=?b);rotate_left;conv=>lhs;reduce
def Z2:Zr:=by refine Zl (?h:Au2 Tryz.f56=?b);rotate_left;conv=>lhs;reduce
def ZiU:Zr:=by refine Zl (?h:Au2 Tryz.f60=?b);rotate_left;conv=>lhs;reduce
def YW:Zr:=by refine Zl (?h:Au2 Tryz.f70=?b);rotate_left;conv=>lhs;reduce
def QP:Zr:=by refine Zl (?h:Au2 Tryz.f74=?b);rotate_left;conv=>lhs;reduce
def ZfQ:Zr:=by refine Zl (?h:Au2 Tryz.f78=?b);rotate_left;conv=>lhs;reduce
def Zco:Zr:=by refine Zl (?h:Au2 Tryz.f82=?b);rotate_left;conv=>lhs;reduce
def Zho:Zr:=by refine Zl (?h:Au2 Tryz.f86=?b);rotate_left;conv=>lhs;reduce
def Zhp:Zr:=by refine Zl (?h:Au2 Tryz.f94=?b);rotate_left;conv=>lhs;reduce
def Zeb:Zr:=by refine Zl (?h:Au2 Tryz.f98=?b);rotate_left;conv=>lhs;reduce
def Uh:Zr:=by refine Zl (?h:Au2 Tryz.f105=?b);rotate_left;conv=>lhs;reduce
def J8:Zr:=by refine Zl (?h:Au2 Tryz.f110=?b);rotate_left;conv=>lhs;reduce
def Zdm:Zr:=by refine Zl (?h:Au2 Tryz.f114=?b);rotate_left;conv=>lhs;reduce
def Je:Zr:=by refine Zl (?h:Au2 Tryz.f121=?b);rotate_left;conv=>lhs;reduce
def VY:Zr:=by refine Zl (?h:Au2 Tryz.f125=?b);rotate_left;conv=>lhs;reduce
def Zec:Zr:=by refine Zl (?h:Au2 Tryz.f132=?b);rotate_left;conv=>lhs;reduce
def ZfR:Zr:=by refine Zl (?h:Au2 Tryz.f136=?b);rotate_left;conv=>lhs;reduce
def QL:Zr:=by refine Zl (?h:Au2 Tryz.f140=?b);rotate_left;conv=>lhs;reduce
def Zb3:Zr:=by refine Zl (?h:Au2 Tryz.f146=?b);rotate_left;conv=>lhs;reduce
def Vp:Zr:=by refine Zl (?h:Au2 Tryz.f152=?b);rotate_left;conv=>lhs;reduce
def Zlr:Zr:=by refine Zl (?h:Au2 Tryz.f156=?b);rotate_left;conv=>lhs;reduce
def Ui:Zr:=by refine Zl (?h:Au2 Tryz.f160=?b);rotate_left;conv=>lhs;reduce
def QQ:Zr:=by refine Zl (?h:Au2 Tryz.f164=?b);rotate_left;conv=>lhs;reduce
def Zhq:Zr:=by refine Zl (?h:Au2 Tryz.f176=?b);rotate_left;conv=>lhs;reduce
def We:Zr:=by refine Zl (?h:Au2 Tryz.f182=?b);rotate_left;conv=>lhs;reduce
def Zhr:Zr:=by refine Zl (?h:Au2 Tryz.f190=?b);rotate_left;conv=>lhs;reduce
def Uj:Zr:=by refine Zl (?h:Au2 Tryz.f194=?b);rotate_left;conv=>lhs;reduce
def Zhs:Zr:=by refine Zl (?h:Au2 Tryz.f198=?b);rotate_left;conv=>lhs;reduce
def Zb4:Zr:=by refine Zl (?h:Au2 Tryz.f204=?b);rotate_left;conv=>lhs;reduce
def Zed:Zr:=by refine Zl (?h:Au2 Tryz.f215=?b);rotate_left;conv=>lhs;reduce
def Uk:Zr:=by refine Zl (?h:Au2 Tryz.f222=?b);rotate_left;conv=>lhs;reduce
def ZaQ:Zr:=by refine Zl (?h:Au2 Tryz.f227=?b);rotate_left;conv=>lhs;reduce
def XQ:Zr:=by refine Zl (?h:Au2 Tryz.f231=?b);rotate_left;conv=>lhs;reduce
def Qa:Zr:=by refine Zl (?h:Au2 Tryz.f240=?b);rotate_left;conv=>lhs;reduce
def Zn9:Zr:=by refine Zl (?h:Au2 Tryz.f245=?b);rotate_left;conv=>lhs;reduce
end
end Go.Proofs.YtfnegoimdljanaaGreatDoor
