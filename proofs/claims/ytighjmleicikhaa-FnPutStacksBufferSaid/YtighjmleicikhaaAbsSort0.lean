/- Own text. -/
import Derived.Test.YtighjmleicikhaaAbsPrim
set_option linter.unusedVariables false
set_option linter.unusedSimpArgs false
namespace Go.Abs
open Go Go.Abs.E
def unI:D→Int
 | .int _ z=>z
 | _=>0
def mkI (z:Int):D:=.int .i64 z
def QP (zs:List Int):List Int:=zs.mergeSort fun x y=>decide (x≤y)
open Classical in
noncomputable def Zgw:List AV→List Zg→Option (AV×List Zg)
 | [.own 0],[.row s xs ex false]=>if s=1∧xs≠[]∧xs.length≤1048576∧(xs.map unI).map mkI=xs then some (.tup [],[.row 1 ((QP (xs.map unI)).map mkI) ex false]) else none
 | _,_=>none
end Go.Abs
