/- Own text. -/
import Derived.Test.YtfnegoimdljanaaGreatDoorChecked
import Derived.Test.YtfnegoimdljanaaGreatDoorAbsEval
import Derived.Test.YtfnegoimdljanaaGreatDoorAbsAuto
set_option maxRecDepth 20000
namespace Go.Proofs.YtfnegoimdljanaaGreatDoor
open Go Go.Abs
noncomputable section
set_option maxHeartbeats 4000000
abbrev Au0:=fun f=>ZCT (Zvx Tryz.prog f)
def YE:Zr:=by refine Zl (?h:Au0 Tryz.f3=?b);rotate_left;conv=>lhs;reduce
def Jm:Zr:=by refine Zl (?h:Au0 Tryz.f10=?b);rotate_left;conv=>lhs;reduce
def Z0:Zr:=by refine Zl (?h:Au0 Tryz.f16=?b);rotate_left;conv=>lhs;reduce
def Y1:Zr:=by refine Zl (?h:Au0 Tryz.f27=?b);rotate_left;conv=>lhs;reduce
def Y2:Zr:=by refine Zl (?h:Au0 Tryz.f38=?b);rotate_left;conv=>lhs;reduce
def Vm:Zr:=by refine Zl (?h:Au0 Tryz.f42=?b);rotate_left;conv=>lhs;reduce
def Zhb:Zr:=by refine Zl (?h:Au0 Tryz.f47=?b);rotate_left;conv=>lhs;reduce
def ZiN:Zr:=by refine Zl (?h:Au0 Tryz.f51=?b);rotate_left;conv=>lhs;reduce
def Vn:Zr:=by refine Zl (?h:Au0 Tryz.f58=?b);rotate_left;conv=>lhs;reduce
def ZiO:Zr:=by refine Zl (?h:Au0 Tryz.f64=?b);rotate_left;conv=>lhs;reduce
def Zck:Zr:=by refine Zl (?h:Au0 Tryz.f72=?b);rotate_left;conv=>lhs;reduce
def J7:Zr:=by refine Zl (?h:Au0 Tryz.f76=?b);rotate_left;conv=>lhs;reduce
def Wb:Zr:=by refine Zl (?h:Au0 Tryz.f80=?b);rotate_left;conv=>lhs;reduce
def Zd6:Zr:=by refine Zl (?h:Au0 Tryz.f84=?b);rotate_left;conv=>lhs;reduce
def Y3:Zr:=by refine Zl (?h:Au0 Tryz.f88=?b);rotate_left;conv=>lhs;reduce
def ZfE:Zr:=by refine Zl (?h:Au0 Tryz.f96=?b);rotate_left;conv=>lhs;reduce
def Wc:Zr:=by refine Zl (?h:Au0 Tryz.f101=?b);rotate_left;conv=>lhs;reduce
def Uf:Zr:=by refine Zl (?h:Au0 Tryz.f108=?b);rotate_left;conv=>lhs;reduce
def Jc:Zr:=by refine Zl (?h:Au0 Tryz.f112=?b);rotate_left;conv=>lhs;reduce
def Vo:Zr:=by refine Zl (?h:Au0 Tryz.f119=?b);rotate_left;conv=>lhs;reduce
def Zhc:Zr:=by refine Zl (?h:Au0 Tryz.f123=?b);rotate_left;conv=>lhs;reduce
def ZO:Zr:=by refine Zl (?h:Au0 Tryz.f128=?b);rotate_left;conv=>lhs;reduce
def ZfF:Zr:=by refine Zl (?h:Au0 Tryz.f134=?b);rotate_left;conv=>lhs;reduce
def ZjX:Zr:=by refine Zl (?h:Au0 Tryz.f138=?b);rotate_left;conv=>lhs;reduce
def Zlo:Zr:=by refine Zl (?h:Au0 Tryz.f144=?b);rotate_left;conv=>lhs;reduce
def Zlp:Zr:=by refine Zl (?h:Au0 Tryz.f148=?b);rotate_left;conv=>lhs;reduce
def Yl:Zr:=by refine Zl (?h:Au0 Tryz.f154=?b);rotate_left;conv=>lhs;reduce
def Zhd:Zr:=by refine Zl (?h:Au0 Tryz.f158=?b);rotate_left;conv=>lhs;reduce
def Xn:Zr:=by refine Zl (?h:Au0 Tryz.f162=?b);rotate_left;conv=>lhs;reduce
def Zcl:Zr:=by refine Zl (?h:Au0 Tryz.f174=?b);rotate_left;conv=>lhs;reduce
def ZaP:Zr:=by refine Zl (?h:Au0 Tryz.f180=?b);rotate_left;conv=>lhs;reduce
def ZbJ:Zr:=by refine Zl (?h:Au0 Tryz.f186=?b);rotate_left;conv=>lhs;reduce
def ZiP:Zr:=by refine Zl (?h:Au0 Tryz.f192=?b);rotate_left;conv=>lhs;reduce
def Zn8:Zr:=by refine Zl (?h:Au0 Tryz.f196=?b);rotate_left;conv=>lhs;reduce
def Zhe:Zr:=by refine Zl (?h:Au0 Tryz.f200=?b);rotate_left;conv=>lhs;reduce
def Zhf:Zr:=by refine Zl (?h:Au0 Tryz.f207=?b);rotate_left;conv=>lhs;reduce
def Zd7:Zr:=by refine Zl (?h:Au0 Tryz.f220=?b);rotate_left;conv=>lhs;reduce
def ZfG:Zr:=by refine Zl (?h:Au0 Tryz.f225=?b);rotate_left;conv=>lhs;reduce
def Zlq:Zr:=by refine Zl (?h:Au0 Tryz.f229=?b);rotate_left;conv=>lhs;reduce
def Jd:Zr:=by refine Zl (?h:Au0 Tryz.f233=?b);rotate_left;conv=>lhs;reduce
def Zhg:Zr:=by refine Zl (?h:Au0 Tryz.f243=?b);rotate_left;conv=>lhs;reduce
end
end Go.Proofs.YtfnegoimdljanaaGreatDoor
