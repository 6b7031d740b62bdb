/- The tables of the library that calls may read: the variables' numbers,what they hold. -/
import GoSem.Core.World
set_option linter.unusedVariables false
set_option linter.unusedSimpArgs false
namespace Go.Abs
open Go
def Zht:List Value:=(List.range 20).map fun i=>Value.int .u64 ((10 ^ i:Nat):Int)
def ZpP:List (Nat×Array Value):=[(1,Zht.toArray)]
end Go.Abs
