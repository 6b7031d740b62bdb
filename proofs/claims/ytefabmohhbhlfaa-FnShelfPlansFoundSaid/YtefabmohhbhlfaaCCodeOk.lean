/- Own text. -/
import Derived.Test.YtefabmohhbhlfaaCCode
import Derived.KernelRfl
namespace Go.Proofs.Ytefabmohhbhlfaa
open Go Go.Abs
def ZN (f:Nat) (cf:Z0):Prop:=∃ fn,Try.prog.funcs[f]?=some fn∧(fn.name == "runtime.NumGoroutine")=false∧cFun Try.prog fn=some (ZeI cf)
theorem ZaZ:ZN Xk Ql:=⟨Try.f4,Try.func4,by kernel_rfl,by kernel_rfl⟩
theorem ZfT:ZN YS Wp:=⟨Try.f9,Try.func9,by kernel_rfl,by kernel_rfl⟩
theorem Zch:ZN Xh X4:=⟨Try.f12,Try.func12,by kernel_rfl,by kernel_rfl⟩
theorem ZfU:ZN XP U6:=⟨Try.f13,Try.func13,by kernel_rfl,by kernel_rfl⟩
theorem ZfV:ZN XQ Y0:=⟨Try.f14,Try.func14,by kernel_rfl,by kernel_rfl⟩
theorem Zi2:ZN X2 ZaR:=⟨Try.f15,Try.func15,by kernel_rfl,by kernel_rfl⟩
theorem Zqe:ZN ZbI Zio:=⟨Try.f16,Try.func16,by kernel_rfl,by kernel_rfl⟩
theorem Zli:ZN W8 ZbJ:=⟨Try.f17,Try.func17,by kernel_rfl,by kernel_rfl⟩
theorem Zec:ZN XR Q7:=⟨Try.f18,Try.func18,by kernel_rfl,by kernel_rfl⟩
theorem ZfW:ZN YT U7:=⟨Try.f19,Try.func19,by kernel_rfl,by kernel_rfl⟩
theorem Zip:ZN Yg Vu:=⟨Try.f23,Try.func23,by kernel_rfl,by kernel_rfl⟩
theorem Ziq:ZN Vn WT:=⟨Try.f31,Try.func31,by kernel_rfl,by kernel_rfl⟩
theorem Zed:ZN Q6 Z3:=⟨Try.f32,Try.func32,by kernel_rfl,by kernel_rfl⟩
theorem ZfX:ZN QS U8:=⟨Try.f33,Try.func33,by kernel_rfl,by kernel_rfl⟩
theorem ZeY:ZN ZQ Xn:=⟨Try.f34,Try.func34,by kernel_rfl,by kernel_rfl⟩
theorem Zir:ZN Vo WU:=⟨Try.f39,Try.func39,by kernel_rfl,by kernel_rfl⟩
theorem Zlj:ZN VQ ZbK:=⟨Try.f40,Try.func40,by kernel_rfl,by kernel_rfl⟩
theorem Zis:ZN Yh Vv:=⟨Try.f41,Try.func41,by kernel_rfl,by kernel_rfl⟩
theorem Zit:ZN XB Yj:=⟨Try.f42,Try.func42,by kernel_rfl,by kernel_rfl⟩
theorem Ziu:ZN Vp JM:=⟨Try.f43,Try.func43,by kernel_rfl,by kernel_rfl⟩
theorem Zn9:ZN Zab ZeW:=⟨Try.f44,Try.func44,by kernel_rfl,by kernel_rfl⟩
theorem ZfY:ZN YU U9:=⟨Try.f45,Try.func45,by kernel_rfl,by kernel_rfl⟩
theorem Zlk:ZN W9 Ub:=⟨Try.f46,Try.func46,by kernel_rfl,by kernel_rfl⟩
theorem ZeZ:ZN Yb Yc:=⟨Try.f47,Try.func47,by kernel_rfl,by kernel_rfl⟩
theorem ZfZ:ZN Qz Xj:=⟨Try.f48,Try.func48,by kernel_rfl,by kernel_rfl⟩
theorem Zll:ZN XU ZbL:=⟨Try.f49,Try.func49,by kernel_rfl,by kernel_rfl⟩
theorem Zi3:ZN Wk ZaS:=⟨Try.f50,Try.func50,by kernel_rfl,by kernel_rfl⟩
theorem Zi4:ZN Wl ZaT:=⟨Try.f52,Try.func52,by kernel_rfl,by kernel_rfl⟩
theorem Zi5:ZN Q4 Y9:=⟨Try.f59,Try.func59,by kernel_rfl,by kernel_rfl⟩
theorem Ziv:ZN Q5 WV:=⟨Try.f63,Try.func63,by kernel_rfl,by kernel_rfl⟩
theorem Ziw:ZN XC WW:=⟨Try.f64,Try.func64,by kernel_rfl,by kernel_rfl⟩
theorem Zlm:ZN Xw ZbM:=⟨Try.f66,Try.func66,by kernel_rfl,by kernel_rfl⟩
theorem Zix:ZN Vq JN:=⟨Try.f68,Try.func68,by kernel_rfl,by kernel_rfl⟩
theorem Ziy:ZN QM JO:=⟨Try.f69,Try.func69,by kernel_rfl,by kernel_rfl⟩
theorem Zln:ZN VR XV:=⟨Try.f70,Try.func70,by kernel_rfl,by kernel_rfl⟩
theorem Zi6:ZN X3 QN:=⟨Try.f71,Try.func71,by kernel_rfl,by kernel_rfl⟩
theorem Zf0:ZN YV Ja:=⟨Try.f72,Try.func72,by kernel_rfl,by kernel_rfl⟩
theorem Zlo:ZN Ua ZbN:=⟨Try.f73,Try.func73,by kernel_rfl,by kernel_rfl⟩
theorem Zlp:ZN VS Y1:=⟨Try.f74,Try.func74,by kernel_rfl,by kernel_rfl⟩
theorem Zi7:ZN ZX QO:=⟨Try.f75,Try.func75,by kernel_rfl,by kernel_rfl⟩
theorem Zi8:ZN Xx ZaU:=⟨Try.f76,Try.func76,by kernel_rfl,by kernel_rfl⟩
theorem Zi9:ZN Y8 Ux:=⟨Try.f77,Try.func77,by kernel_rfl,by kernel_rfl⟩
theorem Ziz:ZN Yi Yk:=⟨Try.f78,Try.func78,by kernel_rfl,by kernel_rfl⟩
theorem Zf1:ZN YW Jb:=⟨Try.f79,Try.func79,by kernel_rfl,by kernel_rfl⟩
theorem ZiA:ZN Vr WX:=⟨Try.f80,Try.func80,by kernel_rfl,by kernel_rfl⟩
theorem Zf2:ZN Xi Zy:=⟨Try.f81,Try.func81,by kernel_rfl,by kernel_rfl⟩
theorem Zoa:ZN Zac ZeX:=⟨Try.f85,Try.func85,by kernel_rfl,by kernel_rfl⟩
theorem ZiB:ZN Vs JP:=⟨Try.f86,Try.func86,by kernel_rfl,by kernel_rfl⟩
theorem Jd:ZN Zk Xm:=⟨Try.f88,Try.func88,by kernel_rfl,by kernel_rfl⟩
theorem ZiC:ZN Vt JQ:=⟨Try.f89,Try.func89,by kernel_rfl,by kernel_rfl⟩
theorem Zja:ZN Wm ZaV:=⟨Try.f90,Try.func90,by kernel_rfl,by kernel_rfl⟩
theorem Zob:ZN UC Va:=⟨Try.f91,Try.func91,by kernel_rfl,by kernel_rfl⟩
theorem ZmS:ZN VE WO:=⟨Try.f92,Try.func92,by kernel_rfl,by kernel_rfl⟩
theorem Zf3:ZN YX Jc:=⟨Try.f93,Try.func93,by kernel_rfl,by kernel_rfl⟩
theorem Zjb:ZN Wn ZaW:=⟨Try.f94,Try.func94,by kernel_rfl,by kernel_rfl⟩
theorem Jg:ZN Zm XD:=⟨Try.f97,Try.func97,by kernel_rfl,by kernel_rfl⟩
theorem ZmT:ZN YY ZaX:=⟨Try.f98,Try.func98,by kernel_rfl,by kernel_rfl⟩
theorem Zjc:ZN Wo ZaY:=⟨Try.f99,Try.func99,by kernel_rfl,by kernel_rfl⟩
theorem Wq:ZN Ze Qa:=⟨Try.f100,Try.func100,by kernel_rfl,by kernel_rfl⟩
end Go.Proofs.Ytefabmohhbhlfaa
