/- Own text. -/
import Derived.Test.YtgpiffflfkoocaaDoorACode
import Derived.KernelRfl
namespace Go.Proofs.YtgpiffflfkoocaaDoor
open Go Go.Abs
def ZQ (f:Nat) (cf:Z9):Prop:=∃ fn,Tryd.prog.funcs[f]?=some fn∧(fn.name == "runtime.NumGoroutine")=false∧cFun Tryd.prog fn=some (ZfK cf)
theorem Zaf:ZQ QJ Xl:=⟨Tryd.f3,Tryd.func3,by kernel_rfl,by kernel_rfl⟩
theorem Ze9:ZQ Ym W9:=⟨Tryd.f4,Tryd.func4,by kernel_rfl,by kernel_rfl⟩
theorem Zfa:ZQ XG Ua:=⟨Tryd.f5,Tryd.func5,by kernel_rfl,by kernel_rfl⟩
theorem Zjq:ZQ Y9 ZaF:=⟨Tryd.f6,Tryd.func6,by kernel_rfl,by kernel_rfl⟩
theorem ZgL:ZQ ZS UY:=⟨Tryd.f7,Tryd.func7,by kernel_rfl,by kernel_rfl⟩
theorem ZgM:ZQ X1 UZ:=⟨Tryd.f8,Tryd.func8,by kernel_rfl,by kernel_rfl⟩
theorem Zfb:ZQ Yn Ub:=⟨Tryd.f9,Tryd.func9,by kernel_rfl,by kernel_rfl⟩
theorem Zhx:ZQ Xo WR:=⟨Tryd.f10,Tryd.func10,by kernel_rfl,by kernel_rfl⟩
theorem ZgN:ZQ X2 QK:=⟨Tryd.f11,Tryd.func11,by kernel_rfl,by kernel_rfl⟩
theorem Zk6:ZQ WY Zbz:=⟨Tryd.f12,Tryd.func12,by kernel_rfl,by kernel_rfl⟩
theorem Zhy:ZQ ZN JK:=⟨Tryd.f13,Tryd.func13,by kernel_rfl,by kernel_rfl⟩
theorem Zhz:ZQ Xp JL:=⟨Tryd.f14,Tryd.func14,by kernel_rfl,by kernel_rfl⟩
theorem Zk7:ZQ VX ZbA:=⟨Tryd.f15,Tryd.func15,by kernel_rfl,by kernel_rfl⟩
theorem ZgO:ZQ YQ X5:=⟨Tryd.f16,Tryd.func16,by kernel_rfl,by kernel_rfl⟩
theorem Uu:ZQ Qc QL:=⟨Tryd.f17,Tryd.func17,by kernel_rfl,by kernel_rfl⟩
theorem Zjr:ZQ Va XP:=⟨Tryd.f18,Tryd.func18,by kernel_rfl,by kernel_rfl⟩
theorem Zk8:ZQ WZ YT:=⟨Tryd.f19,Tryd.func19,by kernel_rfl,by kernel_rfl⟩
theorem Zfc:ZQ XH Uc:=⟨Tryd.f20,Tryd.func20,by kernel_rfl,by kernel_rfl⟩
theorem Zfd:ZQ XI Ud:=⟨Tryd.f21,Tryd.func21,by kernel_rfl,by kernel_rfl⟩
theorem Zd5:ZQ X3 Qj:=⟨Tryd.f22,Tryd.func22,by kernel_rfl,by kernel_rfl⟩
theorem ZnK:ZQ Zad Ze7:=⟨Tryd.f23,Tryd.func23,by kernel_rfl,by kernel_rfl⟩
theorem Zml:ZQ UW Zdj:=⟨Tryd.f24,Tryd.func24,by kernel_rfl,by kernel_rfl⟩
theorem Zmm:ZQ YR Zdk:=⟨Tryd.f25,Tryd.func25,by kernel_rfl,by kernel_rfl⟩
theorem ZhA:ZQ Vr JM:=⟨Tryd.f26,Tryd.func26,by kernel_rfl,by kernel_rfl⟩
theorem ZcO:ZQ Xu VL:=⟨Tryd.f27,Tryd.func27,by kernel_rfl,by kernel_rfl⟩
theorem ZhB:ZQ Vs Xq:=⟨Tryd.f28,Tryd.func28,by kernel_rfl,by kernel_rfl⟩
theorem ZgP:ZQ Xv X6:=⟨Tryd.f30,Tryd.func30,by kernel_rfl,by kernel_rfl⟩
theorem ZhC:ZQ Vt Qv:=⟨Tryd.f31,Tryd.func31,by kernel_rfl,by kernel_rfl⟩
theorem ZcP:ZQ Xw VM:=⟨Tryd.f32,Tryd.func32,by kernel_rfl,by kernel_rfl⟩
theorem Zmn:ZQ UX Zdl:=⟨Tryd.f33,Tryd.func33,by kernel_rfl,by kernel_rfl⟩
theorem Zk9:ZQ W0 ZbB:=⟨Tryd.f34,Tryd.func34,by kernel_rfl,by kernel_rfl⟩
theorem ZgQ:ZQ Xx U0:=⟨Tryd.f35,Tryd.func35,by kernel_rfl,by kernel_rfl⟩
theorem Zjs:ZQ Vb Vc:=⟨Tryd.f36,Tryd.func36,by kernel_rfl,by kernel_rfl⟩
theorem ZgR:ZQ Qd U1:=⟨Tryd.f37,Tryd.func37,by kernel_rfl,by kernel_rfl⟩
theorem ZhD:ZQ Vu QH:=⟨Tryd.f38,Tryd.func38,by kernel_rfl,by kernel_rfl⟩
theorem ZhE:ZQ Vv JN:=⟨Tryd.f39,Tryd.func39,by kernel_rfl,by kernel_rfl⟩
theorem Zla:ZQ Ye ZbC:=⟨Tryd.f40,Tryd.func40,by kernel_rfl,by kernel_rfl⟩
theorem Zjt:ZQ XN Qk:=⟨Tryd.f41,Tryd.func41,by kernel_rfl,by kernel_rfl⟩
theorem ZhF:ZQ XU Vw:=⟨Tryd.f42,Tryd.func42,by kernel_rfl,by kernel_rfl⟩
theorem Zju:ZQ Xk Wd:=⟨Tryd.f43,Tryd.func43,by kernel_rfl,by kernel_rfl⟩
theorem Zmo:ZQ ZE ZaG:=⟨Tryd.f44,Tryd.func44,by kernel_rfl,by kernel_rfl⟩
theorem Zjv:ZQ Wb Ut:=⟨Tryd.f45,Tryd.func45,by kernel_rfl,by kernel_rfl⟩
theorem Zjw:ZQ XO Zz:=⟨Tryd.f50,Tryd.func50,by kernel_rfl,by kernel_rfl⟩
theorem Zjx:ZQ Wc ZaH:=⟨Tryd.f51,Tryd.func51,by kernel_rfl,by kernel_rfl⟩
theorem ZgS:ZQ X4 QM:=⟨Tryd.f52,Tryd.func52,by kernel_rfl,by kernel_rfl⟩
theorem Zfe:ZQ Yo Ue:=⟨Tryd.f55,Tryd.func55,by kernel_rfl,by kernel_rfl⟩
theorem Zdm:ZQ Z6 ZC:=⟨Tryd.f56,Tryd.func56,by kernel_rfl,by kernel_rfl⟩
theorem ZnL:ZQ Zae Ze8:=⟨Tryd.f57,Tryd.func57,by kernel_rfl,by kernel_rfl⟩
theorem ZgT:ZQ YS U2:=⟨Tryd.f60,Tryd.func60,by kernel_rfl,by kernel_rfl⟩
theorem ZbD:ZQ Qq XZ:=⟨Tryd.f61,Tryd.func61,by kernel_rfl,by kernel_rfl⟩
theorem ZgU:ZQ Xy Zx:=⟨Tryd.f62,Tryd.func62,by kernel_rfl,by kernel_rfl⟩
theorem Zdn:ZQ Qs YD:=⟨Tryd.f66,Tryd.func66,by kernel_rfl,by kernel_rfl⟩
theorem ZcQ:ZQ QZ VN:=⟨Tryd.f67,Tryd.func67,by kernel_rfl,by kernel_rfl⟩
theorem Zdo:ZQ Z7 Q8:=⟨Tryd.f68,Tryd.func68,by kernel_rfl,by kernel_rfl⟩
theorem V8:ZQ ZO ZP:=⟨Tryd.f69,Tryd.func69,by kernel_rfl,by kernel_rfl⟩
theorem V9:ZQ ZB Z8:=⟨Tryd.f71,Tryd.func71,by kernel_rfl,by kernel_rfl⟩
end Go.Proofs.YtgpiffflfkoocaaDoor
