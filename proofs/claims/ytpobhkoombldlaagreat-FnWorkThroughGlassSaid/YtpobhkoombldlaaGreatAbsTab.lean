/- The tables of the library that calls may read: the variables' numbers,what they hold. -/
import GoSem.Core.World
set_option linter.unusedVariables false
set_option linter.unusedSimpArgs false
namespace Go.Abs
open Go
def gtabs:List (Nat×Array Value):=[]
end Go.Abs
