/- Own text. -/
import Derived.Test.YtfnegoimdljanaaGreatDoorChecked
import Derived.Test.YtfnegoimdljanaaGreatDoorAbsEval
import Derived.Test.YtfnegoimdljanaaGreatDoorAbsAuto
set_option maxRecDepth 20000
namespace Go.Proofs.YtfnegoimdljanaaGreatDoor
open Go Go.Abs
noncomputable section
set_option maxHeartbeats 4000000
abbrev Au1:=fun f=>ZCT (Zvx Tryz.prog f)
def ZbK:Zr:=by refine Zl (?h:Au1 Tryz.f7=?b);rotate_left;conv=>lhs;reduce
def ZfH:Zr:=by refine Zl (?h:Au1 Tryz.f11=?b);rotate_left;conv=>lhs;reduce
def Z9:Zr:=by refine Zl (?h:Au1 Tryz.f24=?b);rotate_left;conv=>lhs;reduce
def Y4:Zr:=by refine Zl (?h:Au1 Tryz.f29=?b);rotate_left;conv=>lhs;reduce
def ZfI:Zr:=by refine Zl (?h:Au1 Tryz.f39=?b);rotate_left;conv=>lhs;reduce
def Zhh:Zr:=by refine Zl (?h:Au1 Tryz.f43=?b);rotate_left;conv=>lhs;reduce
def Yr:Zr:=by refine Zl (?h:Au1 Tryz.f48=?b);rotate_left;conv=>lhs;reduce
def Zx:Zr:=by refine Zl (?h:Au1 Tryz.f52=?b);rotate_left;conv=>lhs;reduce
def Zhi:Zr:=by refine Zl (?h:Au1 Tryz.f59=?b);rotate_left;conv=>lhs;reduce
def Xu:Zr:=by refine Zl (?h:Au1 Tryz.f69=?b);rotate_left;conv=>lhs;reduce
def Zcm:Zr:=by refine Zl (?h:Au1 Tryz.f73=?b);rotate_left;conv=>lhs;reduce
def ZfJ:Zr:=by refine Zl (?h:Au1 Tryz.f77=?b);rotate_left;conv=>lhs;reduce
def WT:Zr:=by refine Zl (?h:Au1 Tryz.f81=?b);rotate_left;conv=>lhs;reduce
def Yw:Zr:=by refine Zl (?h:Au1 Tryz.f85=?b);rotate_left;conv=>lhs;reduce
def Zd8:Zr:=by refine Zl (?h:Au1 Tryz.f92=?b);rotate_left;conv=>lhs;reduce
def ZfK:Zr:=by refine Zl (?h:Au1 Tryz.f97=?b);rotate_left;conv=>lhs;reduce
def Ug:Zr:=by refine Zl (?h:Au1 Tryz.f102=?b);rotate_left;conv=>lhs;reduce
def WU:Zr:=by refine Zl (?h:Au1 Tryz.f109=?b);rotate_left;conv=>lhs;reduce
def Zd9:Zr:=by refine Zl (?h:Au1 Tryz.f113=?b);rotate_left;conv=>lhs;reduce
def Q6:Zr:=by refine Zl (?h:Au1 Tryz.f120=?b);rotate_left;conv=>lhs;reduce
def ZfL:Zr:=by refine Zl (?h:Au1 Tryz.f124=?b);rotate_left;conv=>lhs;reduce
def ZfM:Zr:=by refine Zl (?h:Au1 Tryz.f131=?b);rotate_left;conv=>lhs;reduce
def ZfN:Zr:=by refine Zl (?h:Au1 Tryz.f135=?b);rotate_left;conv=>lhs;reduce
def ZiQ:Zr:=by refine Zl (?h:Au1 Tryz.f139=?b);rotate_left;conv=>lhs;reduce
def YV:Zr:=by refine Zl (?h:Au1 Tryz.f145=?b);rotate_left;conv=>lhs;reduce
def ZiR:Zr:=by refine Zl (?h:Au1 Tryz.f151=?b);rotate_left;conv=>lhs;reduce
def Zhj:Zr:=by refine Zl (?h:Au1 Tryz.f155=?b);rotate_left;conv=>lhs;reduce
def UJ:Zr:=by refine Zl (?h:Au1 Tryz.f159=?b);rotate_left;conv=>lhs;reduce
def ZfO:Zr:=by refine Zl (?h:Au1 Tryz.f163=?b);rotate_left;conv=>lhs;reduce
def Zhk:Zr:=by refine Zl (?h:Au1 Tryz.f175=?b);rotate_left;conv=>lhs;reduce
def ZbL:Zr:=by refine Zl (?h:Au1 Tryz.f181=?b);rotate_left;conv=>lhs;reduce
def Zhl:Zr:=by refine Zl (?h:Au1 Tryz.f189=?b);rotate_left;conv=>lhs;reduce
def Zhm:Zr:=by refine Zl (?h:Au1 Tryz.f193=?b);rotate_left;conv=>lhs;reduce
def Wd:Zr:=by refine Zl (?h:Au1 Tryz.f197=?b);rotate_left;conv=>lhs;reduce
def VJ:Zr:=by refine Zl (?h:Au1 Tryz.f202=?b);rotate_left;conv=>lhs;reduce
def ZU:Zr:=by refine Zl (?h:Au1 Tryz.f208=?b);rotate_left;conv=>lhs;reduce
def Zhn:Zr:=by refine Zl (?h:Au1 Tryz.f221=?b);rotate_left;conv=>lhs;reduce
def XO:Zr:=by refine Zl (?h:Au1 Tryz.f226=?b);rotate_left;conv=>lhs;reduce
def XP:Zr:=by refine Zl (?h:Au1 Tryz.f230=?b);rotate_left;conv=>lhs;reduce
def X7:Zr:=by refine Zl (?h:Au1 Tryz.f234=?b);rotate_left;conv=>lhs;reduce
def Zea:Zr:=by refine Zl (?h:Au1 Tryz.f244=?b);rotate_left;conv=>lhs;reduce
end
end Go.Proofs.YtfnegoimdljanaaGreatDoor
