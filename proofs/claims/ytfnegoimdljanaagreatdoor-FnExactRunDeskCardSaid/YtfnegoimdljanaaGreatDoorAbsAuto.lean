/- Own text. -/
import Derived.Test.YtfnegoimdljanaaGreatDoorAbsRun
set_option linter.unusedVariables false
set_option linter.unusedSimpArgs false
namespace Go.Abs
open Go
def memN (x:Nat):List Nat→Bool
 | []=>false
 | y :: r=>match Nat.beq x y with
  | true=>true
  | false=>memN x r
def Zvo:List Nat→List Nat→List Nat
 | [],s=>s
 | x :: r,s=>match memN x s with
  | true=>Zvo r s
  | false=>Zvo r (x :: s)
def rmN (x:Nat):List Nat→List Nat
 | []=>[]
 | y :: r=>match Nat.beq x y with
  | true=>rmN x r
  | false=>y :: rmN x r
def rmO:Option Nat→List Nat→List Nat
 | some x,s=>rmN x s
 | none,s=>s
def ZFr:List CO→List Nat→List Nat
 | [],s=>s
 | o :: r,s=>Zvo (looks o) (rmO o.dst (ZFr r s))
def getN (x:Nat):List (Nat×List Nat)→List Nat
 | []=>[]
 | (y,l) :: r=>match Nat.beq x y with
  | true=>l
  | false=>getN x r
def fixN:Nat→(List Nat→List Nat)→List Nat→List Nat
 | 0,_,h=>h
 | n+1,f,h=>match f h with
  | h'=>match Nat.beq h'.length h.length with
   | true=>h
   | false=>fixN n f h'
def Zo2 (rets:List Nat):List (Nat×List Nat)→ZN→List Nat→List Nat
 | _,.skip,s=>s
 | _,.region _ _ ops,s=>ZFr ops s
 | ex,.seq a b,s=>Zo2 rets ex a (Zo2 rets ex b s)
 | ex,.cond c a b,s=>Zvo (Uz c) (Zvo (Zo2 rets ex a s) (Zo2 rets ex b s))
 | ex,.block id c,s=>Zo2 rets ((id,s) :: ex) c s
 | ex,.loop c,_=>fixN 12 (fun h=>Zvo (Zo2 rets ex c h) h) []
 | ex,.exit id,_=>getN id ex
 | _,.ret,_=>rets
 | _,_,s=>s
def ZBB (rets:List Nat):List (Nat×List Nat)→ZN→List Nat→ZN×List Nat
 | _,.region n d ops,s=>(.keep s (.region n d ops),ZFr ops s)
 | ex,.seq a b,s=>match ZBB rets ex b s with
  | (b',s1)=>match ZBB rets ex a s1 with
   | (a',s2)=>(.seq a' b',s2)
 | ex,.cond c a b,s=>match ZBB rets ex a s with
  | (a',s1)=>match ZBB rets ex b s with
   | (b',s2)=>(.cond c a' b',Zvo (Uz c) (Zvo s1 s2))
 | ex,.block id c,s=>match ZBB rets ((id,s) :: ex) c s with
  | (c',s1)=>(.block id c',s1)
 | ex,.loop c,_=>match fixN 12 (fun h=>Zvo (Zo2 rets ex c h) h) [] with
  | h=>match ZBB rets ex c h with
   | (c',_)=>(.loop c',h)
 | ex,c,s=>(c,Zo2 rets ex c s)
def ZFs (s:List Nat):List Nat→Bool
 | []=>true
 | x :: r=>match memN x s with
  | true=>ZFs s r
  | false=>false
def ZFt:List CO→List Nat
 | []=>[]
 | o :: r=>ZqJ o.dst (looks o++ZFt r)
def ZsM:ZN→List Nat→ZN×List Nat
 | .keep s (.region n d ops),e=>match ZFs s (ZFt ops) with
  | true=>match ZFs s e with
   | true=>(.region n d ops,e)
   | false=>(.keep s (.region n d ops),[])
  | false=>(.keep s (.region n d ops),[])
 | .seq a b,e=>match ZsM a e with
  | (a',e1)=>match ZsM b e1 with
   | (b',e2)=>(.seq a' b',e2)
 | .cond c a b,e=>match ZsM a (Uz c++e) with
  | (a',e1)=>match ZsM b (Uz c++e) with
   | (b',e2)=>(.cond c a' b',Zvo e1 e2)
 | .block id c,e=>match ZsM c e with
  | (c',e1)=>(.block id c',e1)
 | .loop c,e=>match ZsM c e with
  | (c',e1)=>(.loop c',e1)
 | c,e=>(c,e)
def retN:List ZtD→List Nat
 | []=>[]
 | .tmp t :: r=>t :: retN r
 | .cell a _ _ :: r=>a :: retN r
def autoF (c:Zr):Zr:=match ZBB (retN c.res) [] c.body (retN c.res) with
 | (b,_)=>match ZsM b [] with
  | (b',_) => { nt:=c.nt,res:=c.res,body:=b' }
def ZCT:Option Zr→Zr
 | some c=>autoF c
 | none=>⟨0,[],.stuck⟩
abbrev Zl {α:Type} {a b:α} (_:a=b):α:=b
end Go.Abs
