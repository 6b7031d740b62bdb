/- Own text. -/
import Derived.Test.YtefabmohhbhlfaaBCode
import Derived.KernelRfl
namespace Go.Proofs.Ytefabmohhbhlfaa
open Go Go.Abs
def Qa (f:Nat) (cf:Qo):Prop:=∃ fn,Try.prog.funcs[f]?=some fn∧(fn.name == "runtime.NumGoroutine")=false∧cFun Try.prog fn=some (Zd0 cf)
theorem Zeg:Qa Va XT:=⟨Try.f3,Try.func3,by kernel_rfl,by kernel_rfl⟩
theorem Zcr:Qa QS VY:=⟨Try.f6,Try.func6,by kernel_rfl,by kernel_rfl⟩
theorem Zht:Qa YY Wr:=⟨Try.f7,Try.func7,by kernel_rfl,by kernel_rfl⟩
theorem Zhu:Qa XX Ws:=⟨Try.f8,Try.func8,by kernel_rfl,by kernel_rfl⟩
theorem Ze8:Qa YB VZ:=⟨Try.f9,Try.func9,by kernel_rfl,by kernel_rfl⟩
theorem Zhv:Qa Xk Wt:=⟨Try.f10,Try.func10,by kernel_rfl,by kernel_rfl⟩
theorem Ze9:Qa YC V0:=⟨Try.f11,Try.func11,by kernel_rfl,by kernel_rfl⟩
theorem Zh7:Qa VT Zag:=⟨Try.f15,Try.func15,by kernel_rfl,by kernel_rfl⟩
theorem Zhw:Qa YZ Wu:=⟨Try.f31,Try.func31,by kernel_rfl,by kernel_rfl⟩
theorem Zdx:Qa Xy QZ:=⟨Try.f32,Try.func32,by kernel_rfl,by kernel_rfl⟩
theorem Zfa:Qa Qj Ux:=⟨Try.f33,Try.func33,by kernel_rfl,by kernel_rfl⟩
theorem Zeh:Qa ZF Xc:=⟨Try.f34,Try.func34,by kernel_rfl,by kernel_rfl⟩
theorem Zh8:Qa YN Xg:=⟨Try.f35,Try.func35,by kernel_rfl,by kernel_rfl⟩
theorem Zh9:Qa VU Zah:=⟨Try.f36,Try.func36,by kernel_rfl,by kernel_rfl⟩
theorem Zei:Qa XS WO:=⟨Try.f37,Try.func37,by kernel_rfl,by kernel_rfl⟩
theorem Zfb:Qa YD Uy:=⟨Try.f38,Try.func38,by kernel_rfl,by kernel_rfl⟩
theorem Zhx:Qa Y0 Wv:=⟨Try.f39,Try.func39,by kernel_rfl,by kernel_rfl⟩
theorem Zkd:Qa Vp Za7:=⟨Try.f40,Try.func40,by kernel_rfl,by kernel_rfl⟩
theorem Zhy:Qa XY Y6:=⟨Try.f41,Try.func41,by kernel_rfl,by kernel_rfl⟩
theorem Zhz:Qa XZ X2:=⟨Try.f42,Try.func42,by kernel_rfl,by kernel_rfl⟩
theorem ZhA:Qa Y1 Ja:=⟨Try.f43,Try.func43,by kernel_rfl,by kernel_rfl⟩
theorem Zke:Qa WE WF:=⟨Try.f46,Try.func46,by kernel_rfl,by kernel_rfl⟩
theorem Zkf:Qa Vq Za8:=⟨Try.f49,Try.func49,by kernel_rfl,by kernel_rfl⟩
theorem Zia:Qa VV Zai:=⟨Try.f52,Try.func52,by kernel_rfl,by kernel_rfl⟩
theorem Zib:Qa XK W1:=⟨Try.f59,Try.func59,by kernel_rfl,by kernel_rfl⟩
theorem ZhB:Qa X0 Jb:=⟨Try.f63,Try.func63,by kernel_rfl,by kernel_rfl⟩
theorem ZhC:Qa Xl Ww:=⟨Try.f64,Try.func64,by kernel_rfl,by kernel_rfl⟩
theorem Zic:Qa VX Zaj:=⟨Try.f65,Try.func65,by kernel_rfl,by kernel_rfl⟩
theorem Zkg:Qa Qr Za9:=⟨Try.f66,Try.func66,by kernel_rfl,by kernel_rfl⟩
theorem ZhD:Qa Y2 Jc:=⟨Try.f67,Try.func67,by kernel_rfl,by kernel_rfl⟩
theorem ZhE:Qa Y3 Jd:=⟨Try.f68,Try.func68,by kernel_rfl,by kernel_rfl⟩
theorem ZhF:Qa QK Je:=⟨Try.f69,Try.func69,by kernel_rfl,by kernel_rfl⟩
theorem Zkh:Qa Vr XC:=⟨Try.f70,Try.func70,by kernel_rfl,by kernel_rfl⟩
theorem Zid:Qa XL QL:=⟨Try.f71,Try.func71,by kernel_rfl,by kernel_rfl⟩
theorem Zfc:Qa YE Uz:=⟨Try.f72,Try.func72,by kernel_rfl,by kernel_rfl⟩
theorem Zie:Qa ZT QM:=⟨Try.f75,Try.func75,by kernel_rfl,by kernel_rfl⟩
theorem ZhG:Qa X1 X3:=⟨Try.f78,Try.func78,by kernel_rfl,by kernel_rfl⟩
theorem Zfd:Qa Q9 Zy:=⟨Try.f81,Try.func81,by kernel_rfl,by kernel_rfl⟩
theorem ZmC:Qa JC Zef:=⟨Try.f85,Try.func85,by kernel_rfl,by kernel_rfl⟩
theorem ZhH:Qa Y4 Jf:=⟨Try.f86,Try.func86,by kernel_rfl,by kernel_rfl⟩
theorem Zif:Qa QY V1:=⟨Try.f87,Try.func87,by kernel_rfl,by kernel_rfl⟩
theorem UA:Qa Zj Xb:=⟨Try.f88,Try.func88,by kernel_rfl,by kernel_rfl⟩
theorem ZhI:Qa Y5 Jg:=⟨Try.f89,Try.func89,by kernel_rfl,by kernel_rfl⟩
theorem UE:Qa Zl Xm:=⟨Try.f97,Try.func97,by kernel_rfl,by kernel_rfl⟩
theorem V2:Qa Ze Z6:=⟨Try.f100,Try.func100,by kernel_rfl,by kernel_rfl⟩
end Go.Proofs.Ytefabmohhbhlfaa
