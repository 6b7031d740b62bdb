/- The numbers under which the library's functions and types lie in this seat, and that they lie there. Printed by a tool. -/
import Derived.Test.YtgpiffflfkoocaaDoorAbsTxt
import Derived.Test.YtgpiffflfkoocaaDoorProg
namespace Go.Proofs
open Go.Shelf
open Tryd
def Tryd.lays219_ren : Go.Shelf.Ren := ⟨fun | 219=>29 | 217=>46 | 225=>47 | 224=>48 | 267=>49 | 266=>58 | 314=>59 | n => n, fun | 9=>9 | 3=>3 | 4=>4 | 5=>5 | 46=>78 | 146=>87 | 51=>86 | n => n, fun | 1=>0 | n => n⟩
theorem Tryd.lays219 : Go.Proofs.Lays.n219 Tryd.prog Tryd.lays219_ren := {
 mixed:=by kernel_rfl
 f217:=func46.trans (congrArg some (by kernel_rfl))
 f219:=func29.trans (congrArg some (by kernel_rfl))
 f224:=func48.trans (congrArg some (by kernel_rfl))
 f225:=func47.trans (congrArg some (by kernel_rfl))
 f266:=func58.trans (congrArg some (by kernel_rfl))
 f267:=func49.trans (congrArg some (by kernel_rfl))
 f314:=func59.trans (congrArg some (by kernel_rfl))
 t3:=underlying3
 a3:=isAgg3
 z3:=sizeOf3
 v3:=zeroValue3
 t4:=underlying4
 a4:=isAgg4
 z4:=sizeOf4
 v4:=zeroValue4
 t5:=underlying5
 a5:=isAgg5
 z5:=sizeOf5
 v5:=zeroValue5
 t9:=underlying9
 a9:=isAgg9
 z9:=sizeOf9
 v9:=zeroValue9
 t46:=underlying78
 a46:=isAgg78
 z46:=sizeOf78
 v46:=zeroValue78
 t51:=underlying86
 a51:=isAgg86
 z51:=sizeOf86
 v51:=zeroValue86
 t146:=underlying87
 a146:=isAgg87
 z146:=sizeOf87
 v146:=zeroValue87
 g1:=by kernel_rfl }
def Tryd.lays138_ren : Go.Shelf.Ren := ⟨fun | 138=>54 | 195=>63 | 218=>65 | 143=>55 | 219=>29 | 217=>46 | 225=>47 | 224=>48 | 267=>49 | 266=>58 | 314=>59 | n => n, fun | 9=>9 | 3=>3 | 4=>4 | 5=>5 | 0=>0 | 46=>78 | 146=>87 | 51=>86 | n => n, fun | 1=>0 | n => n⟩
theorem Tryd.lays138 : Go.Proofs.Lays.n138 Tryd.prog Tryd.lays138_ren := {
 mixed:=by kernel_rfl
 f138:=func54.trans (congrArg some (by kernel_rfl))
 f143:=func55.trans (congrArg some (by kernel_rfl))
 f195:=func63.trans (congrArg some (by kernel_rfl))
 f217:=func46.trans (congrArg some (by kernel_rfl))
 f218:=func65.trans (congrArg some (by kernel_rfl))
 f219:=func29.trans (congrArg some (by kernel_rfl))
 f224:=func48.trans (congrArg some (by kernel_rfl))
 f225:=func47.trans (congrArg some (by kernel_rfl))
 f266:=func58.trans (congrArg some (by kernel_rfl))
 f267:=func49.trans (congrArg some (by kernel_rfl))
 f314:=func59.trans (congrArg some (by kernel_rfl))
 t0:=underlying0
 a0:=isAgg0
 z0:=sizeOf0
 v0:=zeroValue0
 t3:=underlying3
 a3:=isAgg3
 z3:=sizeOf3
 v3:=zeroValue3
 t4:=underlying4
 a4:=isAgg4
 z4:=sizeOf4
 v4:=zeroValue4
 t5:=underlying5
 a5:=isAgg5
 z5:=sizeOf5
 v5:=zeroValue5
 t9:=underlying9
 a9:=isAgg9
 z9:=sizeOf9
 v9:=zeroValue9
 t46:=underlying78
 a46:=isAgg78
 z46:=sizeOf78
 v46:=zeroValue78
 t51:=underlying86
 a51:=isAgg86
 z51:=sizeOf86
 v51:=zeroValue86
 t146:=underlying87
 a146:=isAgg87
 z146:=sizeOf87
 v146:=zeroValue87
 g1:=by kernel_rfl }
end Go.Proofs
