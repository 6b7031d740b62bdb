/- The table of this seat's functions is true to the program. -/
import Derived.Test.YtemkonmgcoceaaaDoorACode
import Derived.KernelRfl
namespace Go.Proofs.YtemkonmgcoceaaaDoor
open Go Go.Abs
def Qe (f:Nat) (cf:QK):Prop:=∃ fn,Tryd.prog.funcs[f]?=some fn∧(fn.name == "runtime.NumGoroutine")=false∧cFun Tryd.prog fn=some (ZeD cf)
theorem Vw:Qe Qg Z3:=⟨Tryd.f3,Tryd.func3,by kernel_rfl,by kernel_rfl⟩
theorem VN:Qe Qn Z7:=⟨Tryd.f4,Tryd.func4,by kernel_rfl,by kernel_rfl⟩
theorem Zdf:Qe Yy YA:=⟨Tryd.f7,Tryd.func7,by kernel_rfl,by kernel_rfl⟩
theorem JN:Qe Xu Q7:=⟨Tryd.f8,Tryd.func8,by kernel_rfl,by kernel_rfl⟩
theorem Zdg:Qe Xx WE:=⟨Tryd.f9,Tryd.func9,by kernel_rfl,by kernel_rfl⟩
theorem JO:Qe Q6 Zk:=⟨Tryd.f10,Tryd.func10,by kernel_rfl,by kernel_rfl⟩
theorem Zdh:Qe Yz WF:=⟨Tryd.f11,Tryd.func11,by kernel_rfl,by kernel_rfl⟩
theorem Zcc:Qe YL X7:=⟨Tryd.f12,Tryd.func12,by kernel_rfl,by kernel_rfl⟩
theorem ZaW:Qe XO Xi:=⟨Tryd.f13,Tryd.func13,by kernel_rfl,by kernel_rfl⟩
theorem Zcd:Qe Xy VJ:=⟨Tryd.f14,Tryd.func14,by kernel_rfl,by kernel_rfl⟩
theorem ZaX:Qe XP Xj:=⟨Tryd.f15,Tryd.func15,by kernel_rfl,by kernel_rfl⟩
theorem Zce:Qe YM VK:=⟨Tryd.f16,Tryd.func16,by kernel_rfl,by kernel_rfl⟩
theorem ZeP:Qe X3 Vj:=⟨Tryd.f25,Tryd.func25,by kernel_rfl,by kernel_rfl⟩
theorem W0:Qe Qx Xk:=⟨Tryd.f26,Tryd.func26,by kernel_rfl,by kernel_rfl⟩
theorem Zbb:Qe XG ZN:=⟨Tryd.f27,Tryd.func27,by kernel_rfl,by kernel_rfl⟩
theorem Zf3:Qe Ul JK:=⟨Tryd.f28,Tryd.func28,by kernel_rfl,by kernel_rfl⟩
theorem ZeQ:Qe Wd Ux:=⟨Tryd.f29,Tryd.func29,by kernel_rfl,by kernel_rfl⟩
theorem ZeR:Qe X4 Uy:=⟨Tryd.f30,Tryd.func30,by kernel_rfl,by kernel_rfl⟩
theorem ZaY:Qe XQ Qb:=⟨Tryd.f31,Tryd.func31,by kernel_rfl,by kernel_rfl⟩
theorem Zcf:Qe YN VL:=⟨Tryd.f32,Tryd.func32,by kernel_rfl,by kernel_rfl⟩
theorem JP:Qe Qv Yc:=⟨Tryd.f33,Tryd.func33,by kernel_rfl,by kernel_rfl⟩
theorem Zcg:Qe X5 YQ:=⟨Tryd.f34,Tryd.func34,by kernel_rfl,by kernel_rfl⟩
theorem Zf4:Qe Um JL:=⟨Tryd.f35,Tryd.func35,by kernel_rfl,by kernel_rfl⟩
theorem ZeS:Qe We Uz:=⟨Tryd.f36,Tryd.func36,by kernel_rfl,by kernel_rfl⟩
theorem ZeT:Qe X6 UA:=⟨Tryd.f37,Tryd.func37,by kernel_rfl,by kernel_rfl⟩
theorem Zdi:Qe Vt YB:=⟨Tryd.f53,Tryd.func53,by kernel_rfl,by kernel_rfl⟩
theorem Zdj:Qe Xz WG:=⟨Tryd.f54,Tryd.func54,by kernel_rfl,by kernel_rfl⟩
theorem Zch:Qe XA Zz:=⟨Tryd.f55,Tryd.func55,by kernel_rfl,by kernel_rfl⟩
theorem Zbc:Qe XH QU:=⟨Tryd.f56,Tryd.func56,by kernel_rfl,by kernel_rfl⟩
theorem Zci:Qe Xa Xb:=⟨Tryd.f57,Tryd.func57,by kernel_rfl,by kernel_rfl⟩
theorem ZaZ:Qe XR YC:=⟨Tryd.f58,Tryd.func58,by kernel_rfl,by kernel_rfl⟩
theorem ZeU:Qe ZH Vk:=⟨Tryd.f59,Tryd.func59,by kernel_rfl,by kernel_rfl⟩
theorem Zcj:Qe YO YR:=⟨Tryd.f60,Tryd.func60,by kernel_rfl,by kernel_rfl⟩
theorem ZeV:Qe Wf UB:=⟨Tryd.f61,Tryd.func61,by kernel_rfl,by kernel_rfl⟩
theorem Zdk:Qe Vu WH:=⟨Tryd.f62,Tryd.func62,by kernel_rfl,by kernel_rfl⟩
theorem Zck:Qe YP VM:=⟨Tryd.f63,Tryd.func63,by kernel_rfl,by kernel_rfl⟩
theorem Za0:Qe Xh ZU:=⟨Tryd.f64,Tryd.func64,by kernel_rfl,by kernel_rfl⟩
theorem Zbd:Qe Xc Qq:=⟨Tryd.f65,Tryd.func65,by kernel_rfl,by kernel_rfl⟩
theorem ZeW:Qe Wg UC:=⟨Tryd.f68,Tryd.func68,by kernel_rfl,by kernel_rfl⟩
theorem Zdl:Qe Vv WI:=⟨Tryd.f69,Tryd.func69,by kernel_rfl,by kernel_rfl⟩
theorem Zf5:Qe Un JM:=⟨Tryd.f77,Tryd.func77,by kernel_rfl,by kernel_rfl⟩
theorem Za1:Qe QY Zh:=⟨Tryd.f78,Tryd.func78,by kernel_rfl,by kernel_rfl⟩
end Go.Proofs.YtemkonmgcoceaaaDoor
