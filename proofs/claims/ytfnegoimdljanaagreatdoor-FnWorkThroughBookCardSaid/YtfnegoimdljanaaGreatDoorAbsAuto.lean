import Derived.Test.YtfnegoimdljanaaGreatDoorAbsRun
set_option linter.unusedSimpArgs false
set_option linter.unusedVariables false
namespace Go.Abs
open Go
def memN (x:Nat):List Nat→Bool
 | []=>false
 | y :: r=>match Nat.beq x y with
  | true=>true
  | false=>memN x r
def ZrJ:List Nat→List Nat→List Nat
 | [],s=>s
 | x :: r,s=>match memN x s with
  | true=>ZrJ r s
  | false=>ZrJ r (x :: s)
def rmN (x:Nat):List Nat→List Nat
 | []=>[]
 | y :: r=>match Nat.beq x y with
  | true=>rmN x r
  | false=>y :: rmN x r
def rmO:Option Nat→List Nat→List Nat
 | some x,s=>rmN x s
 | none,s=>s
def ZAy:List CO→List Nat→List Nat
 | [],s=>s
 | o :: r,s=>ZrJ (looks o) (rmO o.dst (ZAy r s))
def getN (x:Nat):List (Nat×List Nat)→List Nat
 | []=>[]
 | (y,l) :: r=>match Nat.beq x y with
  | true=>l
  | false=>getN x r
def fixN:Nat→(List Nat→List Nat)→List Nat→List Nat
 | 0,_,h=>h
 | n+1,f,h=>match f h with
  | h'=>match Nat.beq h'.length h.length with
   | true=>h
   | false=>fixN n f h'
def Zne (rets:List Nat):List (Nat×List Nat)→ZM→List Nat→List Nat
 | _,.skip,s=>s
 | _,.region _ _ ops,s=>ZAy ops s
 | ex,.seq a b,s=>Zne rets ex a (Zne rets ex b s)
 | ex,.cond c a b,s=>ZrJ (WD c) (ZrJ (Zne rets ex a s) (Zne rets ex b s))
 | ex,.block id c,s=>Zne rets ((id,s) :: ex) c s
 | ex,.loop c,_=>fixN 12 (fun h=>ZrJ (Zne rets ex c h) h) []
 | ex,.exit id,_=>getN id ex
 | _,.ret,_=>rets
 | _,_,s=>s
def ZwR (rets:List Nat):List (Nat×List Nat)→ZM→List Nat→ZM×List Nat
 | _,.region n d ops,s=>(.keep s (.region n d ops),ZAy ops s)
 | ex,.seq a b,s=>match ZwR rets ex b s with
  | (b',s1)=>match ZwR rets ex a s1 with
   | (a',s2)=>(.seq a' b',s2)
 | ex,.cond c a b,s=>match ZwR rets ex a s with
  | (a',s1)=>match ZwR rets ex b s with
   | (b',s2)=>(.cond c a' b',ZrJ (WD c) (ZrJ s1 s2))
 | ex,.block id c,s=>match ZwR rets ((id,s) :: ex) c s with
  | (c',s1)=>(.block id c',s1)
 | ex,.loop c,_=>match fixN 12 (fun h=>ZrJ (Zne rets ex c h) h) [] with
  | h=>match ZwR rets ex c h with
   | (c',_)=>(.loop c',h)
 | ex,c,s=>(c,Zne rets ex c s)
def ZAz (s:List Nat):List Nat→Bool
 | []=>true
 | x :: r=>match memN x s with
  | true=>ZAz s r
  | false=>false
def ZAA:List CO→List Nat
 | []=>[]
 | o :: r=>Zof o.dst (looks o++ZAA r)
def Zo3:ZM→List Nat→ZM×List Nat
 | .keep s (.region n d ops),e=>match ZAz s (ZAA ops) with
  | true=>match ZAz s e with
   | true=>(.region n d ops,e)
   | false=>(.keep s (.region n d ops),[])
  | false=>(.keep s (.region n d ops),[])
 | .seq a b,e=>match Zo3 a e with
  | (a',e1)=>match Zo3 b e1 with
   | (b',e2)=>(.seq a' b',e2)
 | .cond c a b,e=>match Zo3 a (WD c++e) with
  | (a',e1)=>match Zo3 b (WD c++e) with
   | (b',e2)=>(.cond c a' b',ZrJ e1 e2)
 | .block id c,e=>match Zo3 c e with
  | (c',e1)=>(.block id c',e1)
 | .loop c,e=>match Zo3 c e with
  | (c',e1)=>(.loop c',e1)
 | c,e=>(c,e)
def retN:List ZpX→List Nat
 | []=>[]
 | .tmp t :: r=>t :: retN r
 | .cell a _ _ :: r=>a :: retN r
def autoF (c:Zr):Zr:=match ZwR (retN c.res) [] c.body (retN c.res) with
 | (b,_)=>match Zo3 b [] with
  | (b',_) => { nt:=c.nt,res:=c.res,body:=b' }
def autoO:Option Zr→Zr
 | some c=>autoF c
 | none=>⟨0,[],.stuck⟩
@[go_sem] abbrev rhsOf {α:Type} {a b:α} (_:a=b):α:=b
@[go_sem] abbrev Zl (P:Program) (f:Func) {b:Zr} (_:autoO (ZxA P f)=b:=by conv=>lhs;reduce):Zr:=b
end Go.Abs
