/- Own text. -/
import Derived.Test.YtighjmleicikhaaBCode
import Derived.KernelRfl
namespace Go.Proofs.Ytighjmleicikhaa
open Go Go.Abs
def ZM (f:Nat) (cf:Z6):Prop:=∃ fn,Try.prog.funcs[f]?=some fn∧(fn.name == "runtime.NumGoroutine")=false∧cFun Try.prog fn=some (Zew cf)
theorem Zc9:ZM XE Z8:=⟨Try.f4,Try.func4,by kernel_rfl,by kernel_rfl⟩
theorem Zd5:ZM Xm Qw:=⟨Try.f15,Try.func15,by kernel_rfl,by kernel_rfl⟩
theorem Zh7:ZM Vd WC:=⟨Try.f16,Try.func16,by kernel_rfl,by kernel_rfl⟩
theorem Zh8:ZM Wv UF:=⟨Try.f17,Try.func17,by kernel_rfl,by kernel_rfl⟩
theorem Zfw:ZM XW WD:=⟨Try.f18,Try.func18,by kernel_rfl,by kernel_rfl⟩
theorem Zfx:ZM YV Y0:=⟨Try.f19,Try.func19,by kernel_rfl,by kernel_rfl⟩
theorem ZlA:ZM Jf ZaR:=⟨Try.f20,Try.func20,by kernel_rfl,by kernel_rfl⟩
theorem Zkh:ZM Uc ZbK:=⟨Try.f21,Try.func21,by kernel_rfl,by kernel_rfl⟩
theorem Zh9:ZM Ww ZaS:=⟨Try.f22,Try.func22,by kernel_rfl,by kernel_rfl⟩
theorem Zia:ZM Wx ZaT:=⟨Try.f23,Try.func23,by kernel_rfl,by kernel_rfl⟩
theorem ZhE:ZM Vt JQ:=⟨Try.f24,Try.func24,by kernel_rfl,by kernel_rfl⟩
theorem ZhF:ZM Yj JR:=⟨Try.f25,Try.func25,by kernel_rfl,by kernel_rfl⟩
theorem ZhG:ZM Vu W3:=⟨Try.f65,Try.func65,by kernel_rfl,by kernel_rfl⟩
theorem Zfy:ZM Qe Jg:=⟨Try.f67,Try.func67,by kernel_rfl,by kernel_rfl⟩
theorem ZeL:ZM Zn Xz:=⟨Try.f68,Try.func68,by kernel_rfl,by kernel_rfl⟩
theorem ZhH:ZM Vv Yl:=⟨Try.f76,Try.func76,by kernel_rfl,by kernel_rfl⟩
theorem Zib:ZM Wy ZaU:=⟨Try.f77,Try.func77,by kernel_rfl,by kernel_rfl⟩
theorem Zic:ZM Wz XH:=⟨Try.f78,Try.func78,by kernel_rfl,by kernel_rfl⟩
theorem Zki:ZM YW Ue:=⟨Try.f79,Try.func79,by kernel_rfl,by kernel_rfl⟩
theorem Zkj:ZM V3 Uf:=⟨Try.f80,Try.func80,by kernel_rfl,by kernel_rfl⟩
theorem ZeM:ZM Xy Un:=⟨Try.f81,Try.func81,by kernel_rfl,by kernel_rfl⟩
theorem Zd6:ZM XX WY:=⟨Try.f82,Try.func82,by kernel_rfl,by kernel_rfl⟩
theorem Zck:ZM ZA (ZnH 4 32 VR):=⟨Try.f83,Try.func83,by kernel_rfl,by kernel_rfl⟩
theorem Zid:ZM Xh UG:=⟨Try.f84,Try.func84,by kernel_rfl,by kernel_rfl⟩
theorem ZhI:ZM Vw Ym:=⟨Try.f85,Try.func85,by kernel_rfl,by kernel_rfl⟩
theorem Zfz:ZM QZ Y1:=⟨Try.f86,Try.func86,by kernel_rfl,by kernel_rfl⟩
theorem ZlB:ZM YX Jh:=⟨Try.f87,Try.func87,by kernel_rfl,by kernel_rfl⟩
theorem Zkk:ZM XF ZbL:=⟨Try.f88,Try.func88,by kernel_rfl,by kernel_rfl⟩
theorem ZlC:ZM XM X7:=⟨Try.f89,Try.func89,by kernel_rfl,by kernel_rfl⟩
theorem ZmS:ZM Zaf ZeI:=⟨Try.f90,Try.func90,by kernel_rfl,by kernel_rfl⟩
theorem Zie:ZM Xi ZaV:=⟨Try.f91,Try.func91,by kernel_rfl,by kernel_rfl⟩
theorem Zkl:ZM ZT ZD:=⟨Try.f92,Try.func92,by kernel_rfl,by kernel_rfl⟩
theorem ZhJ:ZM Vx JS:=⟨Try.f114,Try.func114,by kernel_rfl,by kernel_rfl⟩
theorem Zkm:ZM V4 ZbM:=⟨Try.f119,Try.func119,by kernel_rfl,by kernel_rfl⟩
theorem Zif:ZM Qs Qg:=⟨Try.f123,Try.func123,by kernel_rfl,by kernel_rfl⟩
theorem Zig:ZM XG Vf:=⟨Try.f124,Try.func124,by kernel_rfl,by kernel_rfl⟩
theorem ZhK:ZM Vy W4:=⟨Try.f126,Try.func126,by kernel_rfl,by kernel_rfl⟩
theorem Zkn:ZM QI ZbN:=⟨Try.f128,Try.func128,by kernel_rfl,by kernel_rfl⟩
theorem Zih:ZM X6 QT:=⟨Try.f133,Try.func133,by kernel_rfl,by kernel_rfl⟩
theorem Zii:ZM Ve ZaW:=⟨Try.f134,Try.func134,by kernel_rfl,by kernel_rfl⟩
theorem ZlD:ZM YY Ji:=⟨Try.f135,Try.func135,by kernel_rfl,by kernel_rfl⟩
theorem Zko:ZM Ud Xk:=⟨Try.f136,Try.func136,by kernel_rfl,by kernel_rfl⟩
theorem ZhL:ZM Yk JT:=⟨Try.f137,Try.func137,by kernel_rfl,by kernel_rfl⟩
theorem Zij:ZM ZU QU:=⟨Try.f138,Try.func138,by kernel_rfl,by kernel_rfl⟩
theorem Zik:ZM ZV Z9:=⟨Try.f139,Try.func139,by kernel_rfl,by kernel_rfl⟩
theorem Zil:ZM WA ZaX:=⟨Try.f140,Try.func140,by kernel_rfl,by kernel_rfl⟩
theorem Zim:ZM QD QV:=⟨Try.f141,Try.func141,by kernel_rfl,by kernel_rfl⟩
theorem ZmT:ZM V5 ZeJ:=⟨Try.f142,Try.func142,by kernel_rfl,by kernel_rfl⟩
theorem ZfA:ZM Xu Zy:=⟨Try.f143,Try.func143,by kernel_rfl,by kernel_rfl⟩
theorem ZmU:ZM V6 ZeK:=⟨Try.f144,Try.func144,by kernel_rfl,by kernel_rfl⟩
theorem ZfB:ZM YZ Jj:=⟨Try.f152,Try.func152,by kernel_rfl,by kernel_rfl⟩
theorem ZhM:ZM Vz Yn:=⟨Try.f157,Try.func157,by kernel_rfl,by kernel_rfl⟩
theorem ZhN:ZM VA JU:=⟨Try.f160,Try.func160,by kernel_rfl,by kernel_rfl⟩
theorem ZoK:ZM WB WE:=⟨Try.f162,Try.func162,by kernel_rfl,by kernel_rfl⟩
theorem ZaY:ZM QN Ys:=⟨Try.f163,Try.func163,by kernel_rfl,by kernel_rfl⟩
theorem ZfC:ZM XY Jk:=⟨Try.f164,Try.func164,by kernel_rfl,by kernel_rfl⟩
theorem ZhO:ZM VC JV:=⟨Try.f177,Try.func177,by kernel_rfl,by kernel_rfl⟩
end Go.Proofs.Ytighjmleicikhaa
