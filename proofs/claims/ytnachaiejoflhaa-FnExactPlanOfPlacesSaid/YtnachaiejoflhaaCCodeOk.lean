/- Own text. -/
import Derived.Test.YtnachaiejoflhaaCCode
import Derived.KernelRfl
namespace Go.Proofs.Ytnachaiejoflhaa
open Go Go.Abs
def ZF (f:Nat) (cf:ZR):Prop:=∃ fn,Try.prog.funcs[f]?=some fn∧(fn.name == "runtime.NumGoroutine")=false∧cFun Try.prog fn=some (ZdS cf)
theorem UZ:ZF Qo Z1:=⟨Try.f5,Try.func5,by kernel_rfl,by kernel_rfl⟩
theorem Zly:ZF Uj Zcq:=⟨Try.f12,Try.func12,by kernel_rfl,by kernel_rfl⟩
theorem ZhL:ZF Qa J5:=⟨Try.f15,Try.func15,by kernel_rfl,by kernel_rfl⟩
theorem Zlz:ZF Uk J6:=⟨Try.f17,Try.func17,by kernel_rfl,by kernel_rfl⟩
theorem ZlA:ZF Yl Zcr:=⟨Try.f20,Try.func20,by kernel_rfl,by kernel_rfl⟩
theorem ZlB:ZF Xk Zcs:=⟨Try.f25,Try.func25,by kernel_rfl,by kernel_rfl⟩
theorem ZhM:ZF Z0 WJ:=⟨Try.f27,Try.func27,by kernel_rfl,by kernel_rfl⟩
theorem ZhN:ZF Vt WK:=⟨Try.f31,Try.func31,by kernel_rfl,by kernel_rfl⟩
theorem Zdq:ZF Xy Xz:=⟨Try.f32,Try.func32,by kernel_rfl,by kernel_rfl⟩
theorem ZhO:ZF Xf J7:=⟨Try.f33,Try.func33,by kernel_rfl,by kernel_rfl⟩
theorem Zdr:ZF Q0 Q1:=⟨Try.f34,Try.func34,by kernel_rfl,by kernel_rfl⟩
theorem ZhP:ZF Vu J8:=⟨Try.f35,Try.func35,by kernel_rfl,by kernel_rfl⟩
theorem Ze4:ZF ZJ Un:=⟨Try.f36,Try.func36,by kernel_rfl,by kernel_rfl⟩
theorem ZhQ:ZF Yx J9:=⟨Try.f37,Try.func37,by kernel_rfl,by kernel_rfl⟩
theorem Zj5:ZF Wh ZaZ:=⟨Try.f58,Try.func58,by kernel_rfl,by kernel_rfl⟩
theorem Zhd:ZF ZS UU:=⟨Try.f61,Try.func61,by kernel_rfl,by kernel_rfl⟩
theorem Zj6:ZF Wi UH:=⟨Try.f63,Try.func63,by kernel_rfl,by kernel_rfl⟩
theorem Zj7:ZF Wj Za0:=⟨Try.f68,Try.func68,by kernel_rfl,by kernel_rfl⟩
theorem Zj8:ZF Wk Za1:=⟨Try.f71,Try.func71,by kernel_rfl,by kernel_rfl⟩
theorem ZhR:ZF Vv WL:=⟨Try.f78,Try.func78,by kernel_rfl,by kernel_rfl⟩
theorem ZmU:ZF Jm Zd5:=⟨Try.f79,Try.func79,by kernel_rfl,by kernel_rfl⟩
theorem Zj9:ZF Wl Za2:=⟨Try.f80,Try.func80,by kernel_rfl,by kernel_rfl⟩
theorem Zhe:ZF ZA V6:=⟨Try.f81,Try.func81,by kernel_rfl,by kernel_rfl⟩
theorem Zd9:ZF XK Wv:=⟨Try.f82,Try.func82,by kernel_rfl,by kernel_rfl⟩
theorem Zka:ZF Xg Wo:=⟨Try.f83,Try.func83,by kernel_rfl,by kernel_rfl⟩
theorem Zkb:ZF Wm Za3:=⟨Try.f84,Try.func84,by kernel_rfl,by kernel_rfl⟩
theorem Zea:ZF XL XM:=⟨Try.f85,Try.func85,by kernel_rfl,by kernel_rfl⟩
theorem Ze5:ZF Qw Q7:=⟨Try.f86,Try.func86,by kernel_rfl,by kernel_rfl⟩
theorem Zkc:ZF Vb Za4:=⟨Try.f87,Try.func87,by kernel_rfl,by kernel_rfl⟩
theorem Zkd:ZF Wn Za5:=⟨Try.f88,Try.func88,by kernel_rfl,by kernel_rfl⟩
theorem Zhf:ZF QY UV:=⟨Try.f89,Try.func89,by kernel_rfl,by kernel_rfl⟩
theorem Zke:ZF ZT Za6:=⟨Try.f93,Try.func93,by kernel_rfl,by kernel_rfl⟩
theorem ZlC:ZF Ul Zct:=⟨Try.f111,Try.func111,by kernel_rfl,by kernel_rfl⟩
theorem Zhg:ZF YL UW:=⟨Try.f113,Try.func113,by kernel_rfl,by kernel_rfl⟩
theorem ZhS:ZF QK QL:=⟨Try.f115,Try.func115,by kernel_rfl,by kernel_rfl⟩
theorem ZlD:ZF Um Zcu:=⟨Try.f117,Try.func117,by kernel_rfl,by kernel_rfl⟩
theorem ZhT:ZF Vw Zaa:=⟨Try.f123,Try.func123,by kernel_rfl,by kernel_rfl⟩
theorem ZhU:ZF Vx Zab:=⟨Try.f124,Try.func124,by kernel_rfl,by kernel_rfl⟩
theorem ZmV:ZF Jn Zd6:=⟨Try.f125,Try.func125,by kernel_rfl,by kernel_rfl⟩
theorem ZmW:ZF Jo Zd7:=⟨Try.f126,Try.func126,by kernel_rfl,by kernel_rfl⟩
theorem ZoK:ZF Jp Zhc:=⟨Try.f127,Try.func127,by kernel_rfl,by kernel_rfl⟩
theorem Zhh:ZF XQ Qr:=⟨Try.f128,Try.func128,by kernel_rfl,by kernel_rfl⟩
theorem ZmX:ZF Jq Zd8:=⟨Try.f129,Try.func129,by kernel_rfl,by kernel_rfl⟩
theorem Zhi:ZF YM V7:=⟨Try.f130,Try.func130,by kernel_rfl,by kernel_rfl⟩
theorem ZhV:ZF Xh Zac:=⟨Try.f131,Try.func131,by kernel_rfl,by kernel_rfl⟩
theorem ZhW:ZF Yy WM:=⟨Try.f132,Try.func132,by kernel_rfl,by kernel_rfl⟩
theorem Zhj:ZF YN XR:=⟨Try.f133,Try.func133,by kernel_rfl,by kernel_rfl⟩
theorem Ze6:ZF Ym Uo:=⟨Try.f134,Try.func134,by kernel_rfl,by kernel_rfl⟩
theorem Zhk:ZF YO V8:=⟨Try.f135,Try.func135,by kernel_rfl,by kernel_rfl⟩
theorem Zhl:ZF YP UX:=⟨Try.f149,Try.func149,by kernel_rfl,by kernel_rfl⟩
theorem Zhm:ZF YQ UY:=⟨Try.f152,Try.func152,by kernel_rfl,by kernel_rfl⟩
theorem Ze7:ZF Yn Up:=⟨Try.f154,Try.func154,by kernel_rfl,by kernel_rfl⟩
theorem ZlE:ZF V0 Zad:=⟨Try.f160,Try.func160,by kernel_rfl,by kernel_rfl⟩
theorem ZlF:ZF Y1 V1:=⟨Try.f161,Try.func161,by kernel_rfl,by kernel_rfl⟩
theorem Ze8:ZF Yo Uq:=⟨Try.f162,Try.func162,by kernel_rfl,by kernel_rfl⟩
theorem ZhX:ZF Vy Zae:=⟨Try.f163,Try.func163,by kernel_rfl,by kernel_rfl⟩
theorem ZlG:ZF Yp Zaf:=⟨Try.f169,Try.func169,by kernel_rfl,by kernel_rfl⟩
theorem ZhY:ZF Vz Zag:=⟨Try.f170,Try.func170,by kernel_rfl,by kernel_rfl⟩
end Go.Proofs.Ytnachaiejoflhaa
