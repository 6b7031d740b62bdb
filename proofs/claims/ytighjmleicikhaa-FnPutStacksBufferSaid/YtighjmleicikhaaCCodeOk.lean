/- Own text. -/
import Derived.Test.YtighjmleicikhaaCCode
import Derived.KernelRfl
namespace Go.Proofs.Ytighjmleicikhaa
open Go Go.Abs
def QG (f:Nat) (cf:QK):Prop:=∃ fn,Try.prog.funcs[f]?=some fn∧(fn.name == "runtime.NumGoroutine")=false∧cFun Try.prog fn=some (ZcA cf)
theorem Je:QG QU Qt:=⟨Try.f6,Try.func6,by kernel_rfl,by kernel_rfl⟩
theorem Zbg:QG Q5 Y9:=⟨Try.f40,Try.func40,by kernel_rfl,by kernel_rfl⟩
theorem Zfv:QG Yq Vy:=⟨Try.f41,Try.func41,by kernel_rfl,by kernel_rfl⟩
theorem Zfw:QG Q9 Vz:=⟨Try.f42,Try.func42,by kernel_rfl,by kernel_rfl⟩
theorem Zfx:QG Xz VA:=⟨Try.f43,Try.func43,by kernel_rfl,by kernel_rfl⟩
theorem Zfy:QG Z1 VC:=⟨Try.f44,Try.func44,by kernel_rfl,by kernel_rfl⟩
theorem ZdB:QG X6 WG:=⟨Try.f45,Try.func45,by kernel_rfl,by kernel_rfl⟩
theorem Zfz:QG XA Uf:=⟨Try.f46,Try.func46,by kernel_rfl,by kernel_rfl⟩
theorem ZhQ:QG VK JY:=⟨Try.f47,Try.func47,by kernel_rfl,by kernel_rfl⟩
theorem ZdC:QG Xh WH:=⟨Try.f48,Try.func48,by kernel_rfl,by kernel_rfl⟩
theorem ZfT:QG Y7 Jb:=⟨Try.f49,Try.func49,by kernel_rfl,by kernel_rfl⟩
theorem ZfA:QG Yr Ug:=⟨Try.f50,Try.func50,by kernel_rfl,by kernel_rfl⟩
theorem ZfB:QG Ys VD:=⟨Try.f65,Try.func65,by kernel_rfl,by kernel_rfl⟩
theorem ZdD:QG Xi WI:=⟨Try.f67,Try.func67,by kernel_rfl,by kernel_rfl⟩
theorem ZcP:QG Qc QZ:=⟨Try.f68,Try.func68,by kernel_rfl,by kernel_rfl⟩
theorem ZhR:QG VL JZ:=⟨Try.f88,Try.func88,by kernel_rfl,by kernel_rfl⟩
theorem ZhS:QG VM VQ:=⟨Try.f102,Try.func102,by kernel_rfl,by kernel_rfl⟩
theorem Jf:QG Qs XD:=⟨Try.f103,Try.func103,by kernel_rfl,by kernel_rfl⟩
theorem ZcQ:QG QW VZ:=⟨Try.f104,Try.func104,by kernel_rfl,by kernel_rfl⟩
theorem ZfC:QG Yt Uh:=⟨Try.f105,Try.func105,by kernel_rfl,by kernel_rfl⟩
theorem ZfD:QG Yu Ui:=⟨Try.f106,Try.func106,by kernel_rfl,by kernel_rfl⟩
theorem ZhT:QG VN J0:=⟨Try.f107,Try.func107,by kernel_rfl,by kernel_rfl⟩
theorem ZcR:QG QX V0:=⟨Try.f108,Try.func108,by kernel_rfl,by kernel_rfl⟩
theorem Zbh:QG Q6 Va:=⟨Try.f109,Try.func109,by kernel_rfl,by kernel_rfl⟩
theorem Zkj:QG UA ZcO:=⟨Try.f110,Try.func110,by kernel_rfl,by kernel_rfl⟩
theorem ZhU:QG YN J1:=⟨Try.f111,Try.func111,by kernel_rfl,by kernel_rfl⟩
theorem ZcS:QG QY Yz:=⟨Try.f113,Try.func113,by kernel_rfl,by kernel_rfl⟩
theorem ZhV:QG VO J2:=⟨Try.f128,Try.func128,by kernel_rfl,by kernel_rfl⟩
theorem ZfU:QG Ye Jc:=⟨Try.f147,Try.func147,by kernel_rfl,by kernel_rfl⟩
theorem ZhW:QG YO J3:=⟨Try.f150,Try.func150,by kernel_rfl,by kernel_rfl⟩
theorem ZdE:QG Xj WJ:=⟨Try.f151,Try.func151,by kernel_rfl,by kernel_rfl⟩
theorem ZfV:QG Y8 Jd:=⟨Try.f165,Try.func165,by kernel_rfl,by kernel_rfl⟩
end Go.Proofs.Ytighjmleicikhaa
