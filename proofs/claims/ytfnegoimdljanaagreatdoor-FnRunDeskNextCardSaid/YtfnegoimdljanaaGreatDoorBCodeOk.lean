import Derived.Test.YtfnegoimdljanaaGreatDoorBCode
import Derived.KernelRfl
namespace Go.Proofs.YtfnegoimdljanaaGreatDoor
open Go Go.Abs
def Zyz (f:Nat) (cf:Zp):Prop:=∃ fn,Tryz.prog.funcs[f]?=some fn∧(fn.name == "runtime.NumGoroutine")=false∧Zzn Tryz.prog fn=some (ZkR cf)
theorem okM {f:Nat} {cf:Zp} {fn} (h:Tryz.prog.funcs[f]?=some fn) (h1:(fn.name == "runtime.NumGoroutine")=false:=by kernel_rfl) (h2:Zzn Tryz.prog fn=some (ZkR cf):=by kernel_rfl):Zyz f cf:=⟨fn,h,h1,h2⟩
end Go.Proofs.YtfnegoimdljanaaGreatDoor
