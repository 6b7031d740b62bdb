/- The numbers under which the library's functions and types lie in this seat, and that they lie there. Printed by a tool. -/
import Derived.Test.YtnachaiejoflhaaDoorAbsTxt
import Derived.Test.YtnachaiejoflhaaDoorProg
namespace Go.Proofs
open Go.Shelf
open Tryd
def Tryd.lays219_ren : Go.Shelf.Ren := ⟨fun | 219=>44 | 217=>53 | 225=>54 | 224=>55 | 267=>56 | 266=>66 | 314=>67 | n => n, fun | 9=>9 | 3=>3 | 4=>4 | 5=>5 | 46=>83 | 146=>94 | 51=>93 | n => n, fun | 1=>0 | n => n⟩
theorem Tryd.lays219 : Go.Proofs.Lays.n219 Tryd.prog Tryd.lays219_ren := {
 mixed:=by kernel_rfl
 f217:=func53.trans (congrArg some (by kernel_rfl))
 f219:=func44.trans (congrArg some (by kernel_rfl))
 f224:=func55.trans (congrArg some (by kernel_rfl))
 f225:=func54.trans (congrArg some (by kernel_rfl))
 f266:=func66.trans (congrArg some (by kernel_rfl))
 f267:=func56.trans (congrArg some (by kernel_rfl))
 f314:=func67.trans (congrArg some (by kernel_rfl))
 t3:=underlying3
 a3:=isAgg3
 z3:=sizeOf3
 v3:=zeroValue3
 t4:=underlying4
 a4:=isAgg4
 z4:=sizeOf4
 v4:=zeroValue4
 t5:=underlying5
 a5:=isAgg5
 z5:=sizeOf5
 v5:=zeroValue5
 t9:=underlying9
 a9:=isAgg9
 z9:=sizeOf9
 v9:=zeroValue9
 t46:=underlying83
 a46:=isAgg83
 z46:=sizeOf83
 v46:=zeroValue83
 t51:=underlying93
 a51:=isAgg93
 z51:=sizeOf93
 v51:=zeroValue93
 t146:=underlying94
 a146:=isAgg94
 z146:=sizeOf94
 v146:=zeroValue94
 g1:=by kernel_rfl }
def Tryd.lays138_ren : Go.Shelf.Ren := ⟨fun | 138=>49 | 195=>60 | 218=>62 | 143=>50 | 219=>44 | 217=>53 | 225=>54 | 224=>55 | 267=>56 | 266=>66 | 314=>67 | n => n, fun | 9=>9 | 3=>3 | 4=>4 | 5=>5 | 0=>0 | 46=>83 | 146=>94 | 51=>93 | n => n, fun | 1=>0 | n => n⟩
theorem Tryd.lays138 : Go.Proofs.Lays.n138 Tryd.prog Tryd.lays138_ren := {
 mixed:=by kernel_rfl
 f138:=func49.trans (congrArg some (by kernel_rfl))
 f143:=func50.trans (congrArg some (by kernel_rfl))
 f195:=func60.trans (congrArg some (by kernel_rfl))
 f217:=func53.trans (congrArg some (by kernel_rfl))
 f218:=func62.trans (congrArg some (by kernel_rfl))
 f219:=func44.trans (congrArg some (by kernel_rfl))
 f224:=func55.trans (congrArg some (by kernel_rfl))
 f225:=func54.trans (congrArg some (by kernel_rfl))
 f266:=func66.trans (congrArg some (by kernel_rfl))
 f267:=func56.trans (congrArg some (by kernel_rfl))
 f314:=func67.trans (congrArg some (by kernel_rfl))
 t0:=underlying0
 a0:=isAgg0
 z0:=sizeOf0
 v0:=zeroValue0
 t3:=underlying3
 a3:=isAgg3
 z3:=sizeOf3
 v3:=zeroValue3
 t4:=underlying4
 a4:=isAgg4
 z4:=sizeOf4
 v4:=zeroValue4
 t5:=underlying5
 a5:=isAgg5
 z5:=sizeOf5
 v5:=zeroValue5
 t9:=underlying9
 a9:=isAgg9
 z9:=sizeOf9
 v9:=zeroValue9
 t46:=underlying83
 a46:=isAgg83
 z46:=sizeOf83
 v46:=zeroValue83
 t51:=underlying93
 a51:=isAgg93
 z51:=sizeOf93
 v51:=zeroValue93
 t146:=underlying94
 a146:=isAgg94
 z146:=sizeOf94
 v146:=zeroValue94
 g1:=by kernel_rfl }
end Go.Proofs
