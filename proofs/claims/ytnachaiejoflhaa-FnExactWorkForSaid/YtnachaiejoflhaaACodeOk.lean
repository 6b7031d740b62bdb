/- Own text. -/
import Derived.Test.YtnachaiejoflhaaACode
import Derived.KernelRfl
namespace Go.Proofs.Ytnachaiejoflhaa
open Go Go.Abs
def ZC (f:Nat) (cf:ZL):Prop:=∃ fn,Try.prog.funcs[f]?=some fn∧(fn.name == "runtime.NumGoroutine")=false∧cFun Try.prog fn=some (Zd5 cf)
theorem ZbC:ZC QS QU:=⟨Try.f3,Try.func3,by kernel_rfl,by kernel_rfl⟩
theorem ZkC:ZC WR VL:=⟨Try.f8,Try.func8,by kernel_rfl,by kernel_rfl⟩
theorem Zjl:ZC V9 We:=⟨Try.f9,Try.func9,by kernel_rfl,by kernel_rfl⟩
theorem ZkD:ZC XQ Zb3:=⟨Try.f10,Try.func10,by kernel_rfl,by kernel_rfl⟩
theorem Zjm:ZC YR Wf:=⟨Try.f11,Try.func11,by kernel_rfl,by kernel_rfl⟩
theorem ZkE:ZC YK Zb4:=⟨Try.f12,Try.func12,by kernel_rfl,by kernel_rfl⟩
theorem ZkF:ZC WS Zb5:=⟨Try.f13,Try.func13,by kernel_rfl,by kernel_rfl⟩
theorem ZhG:ZC Z9 Jv:=⟨Try.f14,Try.func14,by kernel_rfl,by kernel_rfl⟩
theorem ZhH:ZC Qa Jw:=⟨Try.f15,Try.func15,by kernel_rfl,by kernel_rfl⟩
theorem ZhI:ZC Ya Jx:=⟨Try.f16,Try.func16,by kernel_rfl,by kernel_rfl⟩
theorem ZkG:ZC WT Zb6:=⟨Try.f24,Try.func24,by kernel_rfl,by kernel_rfl⟩
theorem ZhJ:ZC Qb Jy:=⟨Try.f29,Try.func29,by kernel_rfl,by kernel_rfl⟩
theorem Zjn:ZC Wa Uw:=⟨Try.f38,Try.func38,by kernel_rfl,by kernel_rfl⟩
theorem Zjo:ZC Wb Zaw:=⟨Try.f40,Try.func40,by kernel_rfl,by kernel_rfl⟩
theorem ZhK:ZC Y5 Jz:=⟨Try.f42,Try.func42,by kernel_rfl,by kernel_rfl⟩
theorem Zjp:ZC Wc Zax:=⟨Try.f43,Try.func43,by kernel_rfl,by kernel_rfl⟩
theorem Ze0:ZC ZJ W0:=⟨Try.f45,Try.func45,by kernel_rfl,by kernel_rfl⟩
theorem ZhL:ZC Y6 WB:=⟨Try.f47,Try.func47,by kernel_rfl,by kernel_rfl⟩
theorem ZhM:ZC Y7 JA:=⟨Try.f49,Try.func49,by kernel_rfl,by kernel_rfl⟩
theorem Zjq:ZC YS Ux:=⟨Try.f51,Try.func51,by kernel_rfl,by kernel_rfl⟩
theorem ZfM:ZC Yr QR:=⟨Try.f52,Try.func52,by kernel_rfl,by kernel_rfl⟩
theorem ZfN:ZC XA UL:=⟨Try.f53,Try.func53,by kernel_rfl,by kernel_rfl⟩
theorem ZkH:ZC WU Zb7:=⟨Try.f54,Try.func54,by kernel_rfl,by kernel_rfl⟩
theorem Zjr:ZC YT Zay:=⟨Try.f55,Try.func55,by kernel_rfl,by kernel_rfl⟩
theorem ZfO:ZC Ys Q7:=⟨Try.f56,Try.func56,by kernel_rfl,by kernel_rfl⟩
theorem ZfP:ZC Yt UM:=⟨Try.f57,Try.func57,by kernel_rfl,by kernel_rfl⟩
theorem Zjs:ZC Wd Zaz:=⟨Try.f58,Try.func58,by kernel_rfl,by kernel_rfl⟩
theorem Zjt:ZC YU ZaA:=⟨Try.f59,Try.func59,by kernel_rfl,by kernel_rfl⟩
theorem ZfQ:ZC ZM UN:=⟨Try.f60,Try.func60,by kernel_rfl,by kernel_rfl⟩
theorem ZfR:ZC ZT UO:=⟨Try.f61,Try.func61,by kernel_rfl,by kernel_rfl⟩
theorem ZfS:ZC Yu UP:=⟨Try.f62,Try.func62,by kernel_rfl,by kernel_rfl⟩
theorem ZlZ:ZC U8 ZdC:=⟨Try.f79,Try.func79,by kernel_rfl,by kernel_rfl⟩
theorem ZkI:ZC WV JB:=⟨Try.f90,Try.func90,by kernel_rfl,by kernel_rfl⟩
theorem Ze1:ZC XR W1:=⟨Try.f91,Try.func91,by kernel_rfl,by kernel_rfl⟩
theorem Zju:ZC ZR ZaB:=⟨Try.f93,Try.func93,by kernel_rfl,by kernel_rfl⟩
theorem ZkJ:ZC WW Zb8:=⟨Try.f95,Try.func95,by kernel_rfl,by kernel_rfl⟩
theorem Ze2:ZC XS W2:=⟨Try.f98,Try.func98,by kernel_rfl,by kernel_rfl⟩
theorem Ze3:ZC Xf W3:=⟨Try.f102,Try.func102,by kernel_rfl,by kernel_rfl⟩
theorem ZhN:ZC Y8 JC:=⟨Try.f103,Try.func103,by kernel_rfl,by kernel_rfl⟩
theorem ZkK:ZC WX Zb9:=⟨Try.f104,Try.func104,by kernel_rfl,by kernel_rfl⟩
theorem Ze4:ZC Xg Vd:=⟨Try.f105,Try.func105,by kernel_rfl,by kernel_rfl⟩
theorem Ze5:ZC QT Ve:=⟨Try.f106,Try.func106,by kernel_rfl,by kernel_rfl⟩
theorem ZfT:ZC Yv UQ:=⟨Try.f107,Try.func107,by kernel_rfl,by kernel_rfl⟩
theorem ZfU:ZC Yw UR:=⟨Try.f108,Try.func108,by kernel_rfl,by kernel_rfl⟩
theorem Zap:ZC QH XU:=⟨Try.f109,Try.func109,by kernel_rfl,by kernel_rfl⟩
theorem ZdE:ZC Q1 Wp:=⟨Try.f110,Try.func110,by kernel_rfl,by kernel_rfl⟩
theorem ZkL:ZC VJ Zca:=⟨Try.f111,Try.func111,by kernel_rfl,by kernel_rfl⟩
theorem ZkM:ZC WY Zcb:=⟨Try.f112,Try.func112,by kernel_rfl,by kernel_rfl⟩
theorem ZkN:ZC WZ Zcc:=⟨Try.f117,Try.func117,by kernel_rfl,by kernel_rfl⟩
theorem ZhO:ZC Y9 JD:=⟨Try.f123,Try.func123,by kernel_rfl,by kernel_rfl⟩
theorem ZhP:ZC Va JE:=⟨Try.f124,Try.func124,by kernel_rfl,by kernel_rfl⟩
theorem Zl0:ZC U9 ZdD:=⟨Try.f129,Try.func129,by kernel_rfl,by kernel_rfl⟩
theorem ZhQ:ZC Xp JF:=⟨Try.f131,Try.func131,by kernel_rfl,by kernel_rfl⟩
theorem ZhR:ZC Vb WC:=⟨Try.f132,Try.func132,by kernel_rfl,by kernel_rfl⟩
theorem Ze6:ZC XT Vf:=⟨Try.f141,Try.func141,by kernel_rfl,by kernel_rfl⟩
theorem ZfV:ZC Yx US:=⟨Try.f149,Try.func149,by kernel_rfl,by kernel_rfl⟩
theorem ZfW:ZC Yy UT:=⟨Try.f150,Try.func150,by kernel_rfl,by kernel_rfl⟩
theorem ZfX:ZC Yz UU:=⟨Try.f151,Try.func151,by kernel_rfl,by kernel_rfl⟩
theorem ZfY:ZC YA UV:=⟨Try.f152,Try.func152,by kernel_rfl,by kernel_rfl⟩
theorem ZhS:ZC Vc JG:=⟨Try.f153,Try.func153,by kernel_rfl,by kernel_rfl⟩
theorem ZkO:ZC VK VM:=⟨Try.f161,Try.func161,by kernel_rfl,by kernel_rfl⟩
theorem ZhT:ZC Yb JH:=⟨Try.f165,Try.func165,by kernel_rfl,by kernel_rfl⟩
theorem JI:ZC Qz XD:=⟨Try.f167,Try.func167,by kernel_rfl,by kernel_rfl⟩
theorem Ze7:ZC Xh W4:=⟨Try.f168,Try.func168,by kernel_rfl,by kernel_rfl⟩
end Go.Proofs.Ytnachaiejoflhaa
