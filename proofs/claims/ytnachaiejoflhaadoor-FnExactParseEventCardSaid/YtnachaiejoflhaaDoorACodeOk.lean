/- Own text. -/
import Derived.Test.YtnachaiejoflhaaDoorACode
import Derived.KernelRfl
namespace Go.Proofs.YtnachaiejoflhaaDoor
open Go Go.Abs
def ZP (f:Nat) (cf:Qa):Prop:=∃ fn,Tryd.prog.funcs[f]?=some fn∧(fn.name == "runtime.NumGoroutine")=false∧cFun Tryd.prog fn=some (Zfr cf)
theorem Zax:ZP QR QS:=⟨Tryd.f3,Tryd.func3,by kernel_rfl,by kernel_rfl⟩
theorem Zgr:ZP YM UR:=⟨Tryd.f4,Tryd.func4,by kernel_rfl,by kernel_rfl⟩
theorem Zgs:ZP Xq QI:=⟨Tryd.f5,Tryd.func5,by kernel_rfl,by kernel_rfl⟩
theorem ZkQ:ZP VR Zbo:=⟨Tryd.f6,Tryd.func6,by kernel_rfl,by kernel_rfl⟩
theorem Zhf:ZP ZS WO:=⟨Tryd.f7,Tryd.func7,by kernel_rfl,by kernel_rfl⟩
theorem Zhg:ZP Yr JB:=⟨Tryd.f8,Tryd.func8,by kernel_rfl,by kernel_rfl⟩
theorem Zgt:ZP YN X2:=⟨Tryd.f9,Tryd.func9,by kernel_rfl,by kernel_rfl⟩
theorem Zhh:ZP XS WP:=⟨Tryd.f10,Tryd.func10,by kernel_rfl,by kernel_rfl⟩
theorem Zjb:ZP Y5 XN:=⟨Tryd.f11,Tryd.func11,by kernel_rfl,by kernel_rfl⟩
theorem ZkR:ZP WW YQ:=⟨Tryd.f12,Tryd.func12,by kernel_rfl,by kernel_rfl⟩
theorem ZeT:ZP XF W7:=⟨Tryd.f13,Tryd.func13,by kernel_rfl,by kernel_rfl⟩
theorem ZeU:ZP XG W8:=⟨Tryd.f14,Tryd.func14,by kernel_rfl,by kernel_rfl⟩
theorem ZdU:ZP X0 Qj:=⟨Tryd.f15,Tryd.func15,by kernel_rfl,by kernel_rfl⟩
theorem Znp:ZP J1 ZeR:=⟨Tryd.f16,Tryd.func16,by kernel_rfl,by kernel_rfl⟩
theorem Zl2:ZP UP Zda:=⟨Tryd.f17,Tryd.func17,by kernel_rfl,by kernel_rfl⟩
theorem Zl3:ZP YO Zdb:=⟨Tryd.f18,Tryd.func18,by kernel_rfl,by kernel_rfl⟩
theorem Zjc:ZP Z5 Uo:=⟨Tryd.f19,Tryd.func19,by kernel_rfl,by kernel_rfl⟩
theorem Zjd:ZP V6 Zau:=⟨Tryd.f20,Tryd.func20,by kernel_rfl,by kernel_rfl⟩
theorem Zhi:ZP Vn JC:=⟨Tryd.f21,Tryd.func21,by kernel_rfl,by kernel_rfl⟩
theorem ZkS:ZP WX Zbp:=⟨Tryd.f22,Tryd.func22,by kernel_rfl,by kernel_rfl⟩
theorem ZcG:ZP Xr VH:=⟨Tryd.f23,Tryd.func23,by kernel_rfl,by kernel_rfl⟩
theorem Zhj:ZP Vo Xn:=⟨Tryd.f24,Tryd.func24,by kernel_rfl,by kernel_rfl⟩
theorem Uq:ZP Qc QJ:=⟨Tryd.f25,Tryd.func25,by kernel_rfl,by kernel_rfl⟩
theorem Zgu:ZP Xt X3:=⟨Tryd.f26,Tryd.func26,by kernel_rfl,by kernel_rfl⟩
theorem Zhk:ZP Vp Qv:=⟨Tryd.f27,Tryd.func27,by kernel_rfl,by kernel_rfl⟩
theorem ZcH:ZP Xu VI:=⟨Tryd.f28,Tryd.func28,by kernel_rfl,by kernel_rfl⟩
theorem Zl4:ZP UQ Zdc:=⟨Tryd.f29,Tryd.func29,by kernel_rfl,by kernel_rfl⟩
theorem ZkT:ZP WY Zbq:=⟨Tryd.f30,Tryd.func30,by kernel_rfl,by kernel_rfl⟩
theorem Zhl:ZP ZI WQ:=⟨Tryd.f31,Tryd.func31,by kernel_rfl,by kernel_rfl⟩
theorem Zhm:ZP Xm JD:=⟨Tryd.f32,Tryd.func32,by kernel_rfl,by kernel_rfl⟩
theorem Zgv:ZP Xv US:=⟨Tryd.f33,Tryd.func33,by kernel_rfl,by kernel_rfl⟩
theorem Zje:ZP Y6 Y7:=⟨Tryd.f34,Tryd.func34,by kernel_rfl,by kernel_rfl⟩
theorem Zgw:ZP Qd UT:=⟨Tryd.f35,Tryd.func35,by kernel_rfl,by kernel_rfl⟩
theorem Zhn:ZP Vq QH:=⟨Tryd.f36,Tryd.func36,by kernel_rfl,by kernel_rfl⟩
theorem Zho:ZP Vr JE:=⟨Tryd.f37,Tryd.func37,by kernel_rfl,by kernel_rfl⟩
theorem ZkU:ZP Yb Zbr:=⟨Tryd.f38,Tryd.func38,by kernel_rfl,by kernel_rfl⟩
theorem Zjf:ZP XL Qk:=⟨Tryd.f39,Tryd.func39,by kernel_rfl,by kernel_rfl⟩
theorem Zhp:ZP XT Vs:=⟨Tryd.f40,Tryd.func40,by kernel_rfl,by kernel_rfl⟩
theorem Zjg:ZP Xk V9:=⟨Tryd.f41,Tryd.func41,by kernel_rfl,by kernel_rfl⟩
theorem Zl5:ZP ZC Zav:=⟨Tryd.f42,Tryd.func42,by kernel_rfl,by kernel_rfl⟩
theorem Zjh:ZP V7 Up:=⟨Tryd.f43,Tryd.func43,by kernel_rfl,by kernel_rfl⟩
theorem Zji:ZP XM Zx:=⟨Tryd.f45,Tryd.func45,by kernel_rfl,by kernel_rfl⟩
theorem Zjj:ZP V8 Zaw:=⟨Tryd.f46,Tryd.func46,by kernel_rfl,by kernel_rfl⟩
theorem Zgx:ZP X1 QK:=⟨Tryd.f47,Tryd.func47,by kernel_rfl,by kernel_rfl⟩
theorem ZeV:ZP Yj W9:=⟨Tryd.f50,Tryd.func50,by kernel_rfl,by kernel_rfl⟩
theorem Zdd:ZP Z6 ZB:=⟨Tryd.f51,Tryd.func51,by kernel_rfl,by kernel_rfl⟩
theorem Znq:ZP J2 ZeS:=⟨Tryd.f52,Tryd.func52,by kernel_rfl,by kernel_rfl⟩
theorem Zgy:ZP YP UU:=⟨Tryd.f57,Tryd.func57,by kernel_rfl,by kernel_rfl⟩
theorem Zbs:ZP Qq XY:=⟨Tryd.f58,Tryd.func58,by kernel_rfl,by kernel_rfl⟩
theorem Zgz:ZP Xw Zv:=⟨Tryd.f59,Tryd.func59,by kernel_rfl,by kernel_rfl⟩
theorem Zde:ZP Qs Yz:=⟨Tryd.f63,Tryd.func63,by kernel_rfl,by kernel_rfl⟩
theorem ZcI:ZP QZ VJ:=⟨Tryd.f64,Tryd.func64,by kernel_rfl,by kernel_rfl⟩
theorem Zdf:ZP Z7 Q9:=⟨Tryd.f65,Tryd.func65,by kernel_rfl,by kernel_rfl⟩
theorem V3:ZP ZM ZN:=⟨Tryd.f68,Tryd.func68,by kernel_rfl,by kernel_rfl⟩
theorem V4:ZP ZA Z8:=⟨Tryd.f70,Tryd.func70,by kernel_rfl,by kernel_rfl⟩
end Go.Proofs.YtnachaiejoflhaaDoor
