/- Own text. -/
import Derived.Test.YtefabmohhbhlfaaAbsEval
set_option linter.unusedVariables false
set_option linter.unusedSimpArgs false
namespace Go.Abs.Q
open Go Go.Abs
abbrev m (d x:Nat):CO:=⟨some d,none,.move (.t x),false⟩
abbrev gm (t:Nat) (w:Bool) (d x:Nat):CO:=⟨some d,some (t,w),.move (.t x),false⟩
abbrev mo (d:Nat) (x:Opd):CO:=⟨some d,none,.move x,false⟩
abbrev gmo (t:Nat) (w:Bool) (d:Nat) (x:Opd):CO:=⟨some d,some (t,w),.move x,false⟩
abbrev a (d x:Nat):CO:=⟨some d,none,.assign none (.t x),false⟩
abbrev ga (t:Nat) (w:Bool) (d x:Nat):CO:=⟨some d,some (t,w),.assign none (.t x),false⟩
abbrev ao (d:Nat) (x:Opd):CO:=⟨some d,none,.assign none x,false⟩
abbrev gao (t:Nat) (w:Bool) (d:Nat) (x:Opd):CO:=⟨some d,some (t,w),.assign none x,false⟩
abbrev l (d x:Nat):CO:=⟨some d,none,.load false 1 (.t x),false⟩
abbrev gl (t:Nat) (w:Bool) (d x:Nat):CO:=⟨some d,some (t,w),.load false 1 (.t x),false⟩
abbrev la (d s x:Nat):CO:=⟨some d,none,.load true s (.t x),false⟩
abbrev gla (t:Nat) (w:Bool) (d s x:Nat):CO:=⟨some d,some (t,w),.load true s (.t x),false⟩
abbrev b (d:Nat) (p:BinOp) (x y:Nat):CO:=⟨some d,none,.bin p false (.t x) (.t y),false⟩
abbrev gb (t:Nat) (w:Bool) (d:Nat) (p:BinOp) (x y:Nat):CO:=⟨some d,some (t,w),.bin p false (.t x) (.t y),false⟩
abbrev bc (d:Nat) (p:BinOp) (x:Nat) (y:Int):CO:=⟨some d,none,.bin p false (.t x) (.v (.d (.int .i64 y))),false⟩
abbrev gbc (t:Nat) (w:Bool) (d:Nat) (p:BinOp) (x:Nat) (y:Int):CO:=⟨some d,some (t,w),.bin p false (.t x) (.v (.d (.int .i64 y))),false⟩
abbrev bo (d:Nat) (p:BinOp) (x y:Opd):CO:=⟨some d,none,.bin p false x y,false⟩
abbrev gbo (t:Nat) (w:Bool) (d:Nat) (p:BinOp) (x y:Opd):CO:=⟨some d,some (t,w),.bin p false x y,false⟩
abbrev sh (d o x:Nat):CO:=⟨some d,none,.shift o (.t x),false⟩
abbrev gsh (t:Nat) (w:Bool) (d o x:Nat):CO:=⟨some d,some (t,w),.shift o (.t x),false⟩
abbrev ia (d s x y:Nat):CO:=⟨some d,none,.iaS s (.t x) (.t y),false⟩
abbrev gia (t:Nat) (w:Bool) (d s x y:Nat):CO:=⟨some d,some (t,w),.iaS s (.t x) (.t y),false⟩
abbrev nt (d i x:Nat):CO:=⟨some d,none,.nth i (.t x),false⟩
abbrev gnt (t:Nat) (w:Bool) (d i x:Nat):CO:=⟨some d,some (t,w),.nth i (.t x),false⟩
abbrev ln (d x:Nat):CO:=⟨some d,none,.len (.t x),false⟩
abbrev gln (t:Nat) (w:Bool) (d x:Nat):CO:=⟨some d,some (t,w),.len (.t x),false⟩
abbrev lS (d x:Nat):CO:=⟨some d,none,.lenS (.t x),false⟩
abbrev glS (t:Nat) (w:Bool) (d x:Nat):CO:=⟨some d,some (t,w),.lenS (.t x),false⟩
abbrev u (d:Nat) (p:UnOp) (x:Nat):CO:=⟨some d,none,.un p (.t x),false⟩
abbrev gu (t:Nat) (w:Bool) (d:Nat) (p:UnOp) (x:Nat):CO:=⟨some d,some (t,w),.un p (.t x),false⟩
abbrev p (d x:Nat) (y z:Opd):CO:=⟨some d,none,.pick (.t x) y z,false⟩
abbrev gp (t:Nat) (w:Bool) (d x:Nat) (y z:Opd):CO:=⟨some d,some (t,w),.pick (.t x) y z,false⟩
abbrev bx (d x:Nat):CO:=⟨some d,none,.box (.t x),false⟩
abbrev gbx (t:Nat) (w:Bool) (d x:Nat):CO:=⟨some d,some (t,w),.box (.t x),false⟩
abbrev al (d:Nat) (s:List (Option Nat)) (cs:List AV):CO:=⟨some d,none,.alloc s cs,false⟩
abbrev gal (t:Nat) (w:Bool) (d:Nat) (s:List (Option Nat)) (cs:List AV):CO:=⟨some d,some (t,w),.alloc s cs,false⟩
abbrev nc (d x:Nat):CO:=⟨some d,none,.nilCheck (.t x),false⟩
abbrev gnc (t:Nat) (w:Bool) (d x:Nat):CO:=⟨some d,some (t,w),.nilCheck (.t x),false⟩
abbrev o (d:Nat) (p:COp):CO:=⟨some d,none,p,false⟩
abbrev go (t:Nat) (w:Bool) (d:Nat) (p:COp):CO:=⟨some d,some (t,w),p,false⟩
abbrev ot (d:Nat) (p:COp):CO:=⟨some d,none,p,true⟩
abbrev got (t:Nat) (w:Bool) (d:Nat) (p:COp):CO:=⟨some d,some (t,w),p,true⟩
abbrev c (d f:Nat) (as:List Opd):CO:=⟨some d,none,.call (.f f) as,true⟩
abbrev gc (t:Nat) (w:Bool) (d f:Nat) (as:List Opd):CO:=⟨some d,some (t,w),.call (.f f) as,true⟩
abbrev s (k:List (Option Nat)) (n x y:Nat):CO:=⟨none,none,.store k n (.t x) (.t y),false⟩
abbrev r (k:List Nat) (n:Nat) (os:List CO):ZC:=.keep k (.region n none os)
end Go.Abs.Q
