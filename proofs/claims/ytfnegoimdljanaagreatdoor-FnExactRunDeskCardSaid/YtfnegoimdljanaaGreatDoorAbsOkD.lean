/- Own text. -/
import Derived.Test.YtfnegoimdljanaaGreatDoorAbsLib
set_option linter.unusedVariables false
set_option linter.unusedSimpArgs false
namespace Go.Abs.L
open Go Go.Abs
def I64 (z:Int):Prop:=-9223372036854775808≤z∧z<9223372036854775808
def Box.ok (b:Box):Prop:=I64 b.X∧I64 b.Y∧I64 b.W∧I64 b.H
def Pane.ok (p:Pane):Prop:=I64 p.W∧I64 p.H∧I64 p.Kind
def Zc.ok (l:Zc):Prop:=l.Pane.ok∧I64 l.Count
def Zw.ok (k:Zw):Prop:=I64 k.W∧I64 k.H∧k.Panes.length≤maxLen∧∀ p∈k.Panes,p.ok
def Place.ok (p:Place):Prop:=I64 p.Pane∧p.Box.ok
def Zb.ok (p:Zb):Prop:=I64 p.Label∧I64 p.W∧I64 p.H∧p.Flaws.length≤maxLen∧∀ b∈p.Flaws,b.ok
def Zq.ok (s:Zq):Prop:=(s.Stock.length≤maxLen∧∀ p∈s.Stock,p.ok)∧(s.Opn.length≤maxLen∧∀ l∈s.Opn,l.ok)∧(s.Done.length≤maxLen∧∀ l∈s.Done,l.ok)∧I64 s.Lost∧I64 s.Came
inductive Ze.ok:Ze→Prop
 | mk {o a p:Int} {t:Bool} {ks:List Ze}:I64 o→I64 a→I64 p→ks.length≤maxLen→(∀ k∈ks,Ze.ok k)→Ze.ok (.mk o a p t ks)
end Go.Abs.L
