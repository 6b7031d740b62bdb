/- Own text. -/
import Derived.Test.YtefabmohhbhlfaaACode
import Derived.KernelRfl
namespace Go.Proofs.Ytefabmohhbhlfaa
open Go Go.Abs
def ZE (f:Nat) (cf:ZT):Prop:=∃ fn,Try.prog.funcs[f]?=some fn∧(fn.name == "runtime.NumGoroutine")=false∧cFun Try.prog fn=some (Zgo cf)
theorem Zcl:ZE X1 QL:=⟨Try.f5,Try.func5,by kernel_rfl,by kernel_rfl⟩
theorem Zd5:ZE Xe WI:=⟨Try.f6,Try.func6,by kernel_rfl,by kernel_rfl⟩
theorem Zio:ZE VX Uz:=⟨Try.f7,Try.func7,by kernel_rfl,by kernel_rfl⟩
theorem Zip:ZE VY Zat:=⟨Try.f10,Try.func10,by kernel_rfl,by kernel_rfl⟩
theorem Zki:ZE Vw Zbl:=⟨Try.f15,Try.func15,by kernel_rfl,by kernel_rfl⟩
theorem ZeL:ZE X7 Xq:=⟨Try.f18,Try.func18,by kernel_rfl,by kernel_rfl⟩
theorem ZeM:ZE X8 Ui:=⟨Try.f20,Try.func20,by kernel_rfl,by kernel_rfl⟩
theorem Zkj:ZE WD WJ:=⟨Try.f21,Try.func21,by kernel_rfl,by kernel_rfl⟩
theorem Zkk:ZE WE WK:=⟨Try.f22,Try.func22,by kernel_rfl,by kernel_rfl⟩
theorem Ziq:ZE XT V7:=⟨Try.f23,Try.func23,by kernel_rfl,by kernel_rfl⟩
theorem Zkl:ZE Vx WL:=⟨Try.f24,Try.func24,by kernel_rfl,by kernel_rfl⟩
theorem Zir:ZE YF Zau:=⟨Try.f25,Try.func25,by kernel_rfl,by kernel_rfl⟩
theorem Zis:ZE VZ Zav:=⟨Try.f26,Try.func26,by kernel_rfl,by kernel_rfl⟩
theorem Zit:ZE V0 Zaw:=⟨Try.f27,Try.func27,by kernel_rfl,by kernel_rfl⟩
theorem Zl3:ZE UM Zci:=⟨Try.f28,Try.func28,by kernel_rfl,by kernel_rfl⟩
theorem Ziu:ZE V1 Zax:=⟨Try.f29,Try.func29,by kernel_rfl,by kernel_rfl⟩
theorem Zho:ZE Y6 Jy:=⟨Try.f30,Try.func30,by kernel_rfl,by kernel_rfl⟩
theorem Ziv:ZE V2 UA:=⟨Try.f31,Try.func31,by kernel_rfl,by kernel_rfl⟩
theorem ZeN:ZE X9 Xr:=⟨Try.f32,Try.func32,by kernel_rfl,by kernel_rfl⟩
theorem Zhp:ZE Qu Jz:=⟨Try.f33,Try.func33,by kernel_rfl,by kernel_rfl⟩
theorem ZfS:ZE ZI XJ:=⟨Try.f34,Try.func34,by kernel_rfl,by kernel_rfl⟩
theorem Zkm:ZE Vy XM:=⟨Try.f35,Try.func35,by kernel_rfl,by kernel_rfl⟩
theorem Zkn:ZE Vz Zbm:=⟨Try.f36,Try.func36,by kernel_rfl,by kernel_rfl⟩
theorem ZfT:ZE Yr UX:=⟨Try.f37,Try.func37,by kernel_rfl,by kernel_rfl⟩
theorem Zhq:ZE Y7 JA:=⟨Try.f38,Try.func38,by kernel_rfl,by kernel_rfl⟩
theorem Ziw:ZE YG YJ:=⟨Try.f42,Try.func42,by kernel_rfl,by kernel_rfl⟩
theorem Zix:ZE V3 Zay:=⟨Try.f43,Try.func43,by kernel_rfl,by kernel_rfl⟩
theorem Zl4:ZE Wn UN:=⟨Try.f46,Try.func46,by kernel_rfl,by kernel_rfl⟩
theorem ZfU:ZE Ys Yt:=⟨Try.f47,Try.func47,by kernel_rfl,by kernel_rfl⟩
theorem Zhr:ZE QG Xv:=⟨Try.f48,Try.func48,by kernel_rfl,by kernel_rfl⟩
theorem Zl5:ZE Yg Zcj:=⟨Try.f49,Try.func49,by kernel_rfl,by kernel_rfl⟩
theorem ZfV:ZE Ql Yu:=⟨Try.f51,Try.func51,by kernel_rfl,by kernel_rfl⟩
theorem Zko:ZE Q3 Zbn:=⟨Try.f52,Try.func52,by kernel_rfl,by kernel_rfl⟩
theorem Zkp:ZE Q4 WM:=⟨Try.f53,Try.func53,by kernel_rfl,by kernel_rfl⟩
theorem Zkq:ZE Yj Qm:=⟨Try.f54,Try.func54,by kernel_rfl,by kernel_rfl⟩
theorem Zl6:ZE Yh UO:=⟨Try.f55,Try.func55,by kernel_rfl,by kernel_rfl⟩
theorem ZfW:ZE XI UY:=⟨Try.f56,Try.func56,by kernel_rfl,by kernel_rfl⟩
theorem ZeO:ZE Ya Uj:=⟨Try.f57,Try.func57,by kernel_rfl,by kernel_rfl⟩
theorem Zdv:ZE ZC (Zq0 4 32 Wh):=⟨Try.f58,Try.func58,by kernel_rfl,by kernel_rfl⟩
theorem Zkr:ZE QH VD:=⟨Try.f59,Try.func59,by kernel_rfl,by kernel_rfl⟩
theorem Zl7:ZE Z0 ZK:=⟨Try.f60,Try.func60,by kernel_rfl,by kernel_rfl⟩
theorem Zhs:ZE Y8 Vd:=⟨Try.f61,Try.func61,by kernel_rfl,by kernel_rfl⟩
theorem Zks:ZE Xm VE:=⟨Try.f62,Try.func62,by kernel_rfl,by kernel_rfl⟩
theorem Ziy:ZE YH Zaz:=⟨Try.f63,Try.func63,by kernel_rfl,by kernel_rfl⟩
theorem Ziz:ZE XU UB:=⟨Try.f64,Try.func64,by kernel_rfl,by kernel_rfl⟩
theorem Zkt:ZE VA Zbo:=⟨Try.f65,Try.func65,by kernel_rfl,by kernel_rfl⟩
theorem Zl8:ZE QB Zck:=⟨Try.f66,Try.func66,by kernel_rfl,by kernel_rfl⟩
theorem ZiA:ZE YI ZaA:=⟨Try.f67,Try.func67,by kernel_rfl,by kernel_rfl⟩
theorem Zku:ZE Yk Q5:=⟨Try.f71,Try.func71,by kernel_rfl,by kernel_rfl⟩
theorem Zht:ZE Y9 JB:=⟨Try.f72,Try.func72,by kernel_rfl,by kernel_rfl⟩
theorem Zkv:ZE Z2 Q6:=⟨Try.f75,Try.func75,by kernel_rfl,by kernel_rfl⟩
theorem Zkw:ZE XL Zbp:=⟨Try.f76,Try.func76,by kernel_rfl,by kernel_rfl⟩
theorem Zkx:ZE VC Jd:=⟨Try.f77,Try.func77,by kernel_rfl,by kernel_rfl⟩
theorem ZiB:ZE XV YK:=⟨Try.f78,Try.func78,by kernel_rfl,by kernel_rfl⟩
theorem Zhu:ZE Va JC:=⟨Try.f79,Try.func79,by kernel_rfl,by kernel_rfl⟩
theorem ZiC:ZE V4 UC:=⟨Try.f80,Try.func80,by kernel_rfl,by kernel_rfl⟩
theorem Zhv:ZE Xu ZB:=⟨Try.f81,Try.func81,by kernel_rfl,by kernel_rfl⟩
theorem ZoF:ZE ZaZ ZfQ:=⟨Try.f82,Try.func82,by kernel_rfl,by kernel_rfl⟩
theorem Zky:ZE Z3 Qc:=⟨Try.f83,Try.func83,by kernel_rfl,by kernel_rfl⟩
theorem Zkz:ZE WF Zbq:=⟨Try.f84,Try.func84,by kernel_rfl,by kernel_rfl⟩
theorem ZoG:ZE Wo ZfR:=⟨Try.f85,Try.func85,by kernel_rfl,by kernel_rfl⟩
theorem ZiD:ZE V5 ZaB:=⟨Try.f86,Try.func86,by kernel_rfl,by kernel_rfl⟩
theorem ZkA:ZE Xn WN:=⟨Try.f87,Try.func87,by kernel_rfl,by kernel_rfl⟩
theorem ZiE:ZE V6 ZaC:=⟨Try.f89,Try.func89,by kernel_rfl,by kernel_rfl⟩
theorem Znf:ZE Wi Uk:=⟨Try.f92,Try.func92,by kernel_rfl,by kernel_rfl⟩
theorem Zhw:ZE Vb JD:=⟨Try.f93,Try.func93,by kernel_rfl,by kernel_rfl⟩
theorem ZkB:ZE WG Zbr:=⟨Try.f94,Try.func94,by kernel_rfl,by kernel_rfl⟩
theorem Zbu:ZE QT YO:=⟨Try.f95,Try.func95,by kernel_rfl,by kernel_rfl⟩
theorem Zhx:ZE Yb JE:=⟨Try.f96,Try.func96,by kernel_rfl,by kernel_rfl⟩
theorem Zng:ZE Vc Zbs:=⟨Try.f98,Try.func98,by kernel_rfl,by kernel_rfl⟩
theorem ZkC:ZE WH Zbt:=⟨Try.f99,Try.func99,by kernel_rfl,by kernel_rfl⟩
end Go.Proofs.Ytefabmohhbhlfaa
