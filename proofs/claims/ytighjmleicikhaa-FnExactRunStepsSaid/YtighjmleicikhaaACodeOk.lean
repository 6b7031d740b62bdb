/- Own text. -/
import Derived.Test.YtighjmleicikhaaACode
import Derived.KernelRfl
namespace Go.Proofs.Ytighjmleicikhaa
open Go Go.Abs
def ZF (f:Nat) (cf:ZT):Prop:=∃ fn,Try.prog.funcs[f]?=some fn∧(fn.name == "runtime.NumGoroutine")=false∧cFun Try.prog fn=some (ZeE cf)
theorem ZaW:ZF Q6 QA:=⟨Try.f5,Try.func5,by kernel_rfl,by kernel_rfl⟩
theorem Zh1:ZF YE VF:=⟨Try.f16,Try.func16,by kernel_rfl,by kernel_rfl⟩
theorem Zh2:ZF VD WZ:=⟨Try.f17,Try.func17,by kernel_rfl,by kernel_rfl⟩
theorem ZkX:ZF Um JW:=⟨Try.f26,Try.func26,by kernel_rfl,by kernel_rfl⟩
theorem ZkY:ZF Yh JX:=⟨Try.f27,Try.func27,by kernel_rfl,by kernel_rfl⟩
theorem ZkZ:ZF Yi Zcy:=⟨Try.f28,Try.func28,by kernel_rfl,by kernel_rfl⟩
theorem Zk0:ZF Xd Zcz:=⟨Try.f29,Try.func29,by kernel_rfl,by kernel_rfl⟩
theorem Zk1:ZF Yj ZcA:=⟨Try.f30,Try.func30,by kernel_rfl,by kernel_rfl⟩
theorem Zk2:ZF Vf ZcB:=⟨Try.f31,Try.func31,by kernel_rfl,by kernel_rfl⟩
theorem Zk3:ZF Un ZcC:=⟨Try.f32,Try.func32,by kernel_rfl,by kernel_rfl⟩
theorem Zk4:ZF Yk ZcD:=⟨Try.f33,Try.func33,by kernel_rfl,by kernel_rfl⟩
theorem Zk5:ZF Uo ZcE:=⟨Try.f34,Try.func34,by kernel_rfl,by kernel_rfl⟩
theorem Zh3:ZF Qb JY:=⟨Try.f35,Try.func35,by kernel_rfl,by kernel_rfl⟩
theorem Zh4:ZF Qc JZ:=⟨Try.f36,Try.func36,by kernel_rfl,by kernel_rfl⟩
theorem Zh5:ZF Qd J0:=⟨Try.f37,Try.func37,by kernel_rfl,by kernel_rfl⟩
theorem Zh6:ZF Qe J1:=⟨Try.f38,Try.func38,by kernel_rfl,by kernel_rfl⟩
theorem Zh7:ZF YF J2:=⟨Try.f39,Try.func39,by kernel_rfl,by kernel_rfl⟩
theorem Zgb:ZF YY XU:=⟨Try.f76,Try.func76,by kernel_rfl,by kernel_rfl⟩
theorem ZjH:ZF Wx WF:=⟨Try.f79,Try.func79,by kernel_rfl,by kernel_rfl⟩
theorem ZjI:ZF Wy WG:=⟨Try.f80,Try.func80,by kernel_rfl,by kernel_rfl⟩
theorem Zed:ZF XP WO:=⟨Try.f81,Try.func81,by kernel_rfl,by kernel_rfl⟩
theorem Zdd:ZF XA V8:=⟨Try.f82,Try.func82,by kernel_rfl,by kernel_rfl⟩
theorem Zb2:ZF Zx (Zox 4 32 Ve):=⟨Try.f83,Try.func83,by kernel_rfl,by kernel_rfl⟩
theorem Zh8:ZF Xa W0:=⟨Try.f84,Try.func84,by kernel_rfl,by kernel_rfl⟩
theorem Zgc:ZF YZ XV:=⟨Try.f85,Try.func85,by kernel_rfl,by kernel_rfl⟩
theorem Zft:ZF Xe Yn:=⟨Try.f86,Try.func86,by kernel_rfl,by kernel_rfl⟩
theorem Zk6:ZF Vg Ur:=⟨Try.f87,Try.func87,by kernel_rfl,by kernel_rfl⟩
theorem ZjJ:ZF Yl ZaP:=⟨Try.f88,Try.func88,by kernel_rfl,by kernel_rfl⟩
theorem Zk7:ZF Xt XK:=⟨Try.f89,Try.func89,by kernel_rfl,by kernel_rfl⟩
theorem Zmq:ZF Jz Zd9:=⟨Try.f90,Try.func90,by kernel_rfl,by kernel_rfl⟩
theorem Zh9:ZF YG J3:=⟨Try.f91,Try.func91,by kernel_rfl,by kernel_rfl⟩
theorem ZjK:ZF Wz UX:=⟨Try.f93,Try.func93,by kernel_rfl,by kernel_rfl⟩
theorem ZjL:ZF WA UY:=⟨Try.f94,Try.func94,by kernel_rfl,by kernel_rfl⟩
theorem ZjM:ZF WB ZaQ:=⟨Try.f95,Try.func95,by kernel_rfl,by kernel_rfl⟩
theorem ZjN:ZF WC ZaR:=⟨Try.f96,Try.func96,by kernel_rfl,by kernel_rfl⟩
theorem Zmr:ZF JA Zea:=⟨Try.f97,Try.func97,by kernel_rfl,by kernel_rfl⟩
theorem ZjO:ZF WD ZaS:=⟨Try.f98,Try.func98,by kernel_rfl,by kernel_rfl⟩
theorem ZjP:ZF WE ZaT:=⟨Try.f99,Try.func99,by kernel_rfl,by kernel_rfl⟩
theorem Zgd:ZF ZV Jd:=⟨Try.f100,Try.func100,by kernel_rfl,by kernel_rfl⟩
theorem Zge:ZF ZI Je:=⟨Try.f101,Try.func101,by kernel_rfl,by kernel_rfl⟩
theorem Zgf:ZF Y0 Jf:=⟨Try.f114,Try.func114,by kernel_rfl,by kernel_rfl⟩
theorem ZjQ:ZF Vn ZaU:=⟨Try.f119,Try.func119,by kernel_rfl,by kernel_rfl⟩
theorem Zia:ZF Qx Qf:=⟨Try.f123,Try.func123,by kernel_rfl,by kernel_rfl⟩
theorem Zgg:ZF Y1 Wr:=⟨Try.f126,Try.func126,by kernel_rfl,by kernel_rfl⟩
theorem ZjR:ZF QE ZaV:=⟨Try.f128,Try.func128,by kernel_rfl,by kernel_rfl⟩
theorem Zib:ZF XJ QT:=⟨Try.f133,Try.func133,by kernel_rfl,by kernel_rfl⟩
theorem Zic:ZF ZR QU:=⟨Try.f138,Try.func138,by kernel_rfl,by kernel_rfl⟩
theorem Zid:ZF ZS Z1:=⟨Try.f139,Try.func139,by kernel_rfl,by kernel_rfl⟩
theorem Zie:ZF VE J4:=⟨Try.f140,Try.func140,by kernel_rfl,by kernel_rfl⟩
theorem Zif:ZF QS QV:=⟨Try.f141,Try.func141,by kernel_rfl,by kernel_rfl⟩
theorem Zms:ZF V7 Zeb:=⟨Try.f142,Try.func142,by kernel_rfl,by kernel_rfl⟩
theorem Zfu:ZF Xf Zw:=⟨Try.f143,Try.func143,by kernel_rfl,by kernel_rfl⟩
theorem Zmt:ZF Ud Zec:=⟨Try.f144,Try.func144,by kernel_rfl,by kernel_rfl⟩
theorem Zk8:ZF Up ZcF:=⟨Try.f145,Try.func145,by kernel_rfl,by kernel_rfl⟩
theorem Zk9:ZF Uq ZcG:=⟨Try.f146,Try.func146,by kernel_rfl,by kernel_rfl⟩
theorem Zfv:ZF Ym Us:=⟨Try.f152,Try.func152,by kernel_rfl,by kernel_rfl⟩
theorem Zgh:ZF Y2 XW:=⟨Try.f157,Try.func157,by kernel_rfl,by kernel_rfl⟩
theorem Zgi:ZF Y3 Jg:=⟨Try.f160,Try.func160,by kernel_rfl,by kernel_rfl⟩
theorem J5:ZF QI X0:=⟨Try.f163,Try.func163,by kernel_rfl,by kernel_rfl⟩
theorem Zfw:ZF XB Ut:=⟨Try.f164,Try.func164,by kernel_rfl,by kernel_rfl⟩
theorem Zgj:ZF Y4 Jh:=⟨Try.f177,Try.func177,by kernel_rfl,by kernel_rfl⟩
end Go.Proofs.Ytighjmleicikhaa
