import Derived.Test.YtfnegoimdljanaaGreatDoorCCode
import Derived.KernelRfl
set_option linter.unusedSimpArgs false
set_option linter.unusedVariables false
namespace Go.Proofs.YtfnegoimdljanaaGreatDoor
open Go Go.Abs
def ZB3 (f:Nat) (cf:Zr):Prop:=∃ fn,Tryz.prog.funcs[f]?=some fn∧(fn.name == "runtime.NumGoroutine")=false∧ZxA Tryz.prog fn=some (ZjN cf)
theorem okM {f:Nat} {cf:Zr} {fn} (h:Tryz.prog.funcs[f]?=some fn) (h1:(fn.name == "runtime.NumGoroutine")=false:=by kernel_rfl) (h2:ZxA Tryz.prog fn=some (ZjN cf):=by kernel_rfl):ZB3 f cf:=⟨fn,h,h1,h2⟩
end Go.Proofs.YtfnegoimdljanaaGreatDoor
