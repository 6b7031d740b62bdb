import Derived.Test.YtfnegoimdljanaaGreatDoorAbsRun
set_option linter.all false
namespace Go.Abs
open Go
def memN (x:Nat):List Nat→Bool
 | []=>false
 | y :: r=>match Nat.beq x y with
  | true=>true
  | false=>memN x r
def Ztf:List Nat→List Nat→List Nat
 | [],s=>s
 | x :: r,s=>match memN x s with
  | true=>Ztf r s
  | false=>Ztf r (x :: s)
def rmN (x:Nat):List Nat→List Nat
 | []=>[]
 | y :: r=>match Nat.beq x y with
  | true=>rmN x r
  | false=>y :: rmN x r
def rmO:Option Nat→List Nat→List Nat
 | some x,s=>rmN x s
 | none,s=>s
def ZCy:List CO→List Nat→List Nat
 | [],s=>s
 | o :: r,s=>Ztf (looks o) (rmO o.dst (ZCy r s))
def getN (x:Nat):List (Nat×List Nat)→List Nat
 | []=>[]
 | (y,l) :: r=>match Nat.beq x y with
  | true=>l
  | false=>getN x r
def fixN:Nat→(List Nat→List Nat)→List Nat→List Nat
 | 0,_,h=>h
 | n+1,f,h=>match f h with
  | h'=>match Nat.beq h'.length h.length with
   | true=>h
   | false=>fixN n f h'
def Zor (rets:List Nat):List (Nat×List Nat)→ZN→List Nat→List Nat
 | _,.skip,s=>s
 | _,.region _ _ ops,s=>ZCy ops s
 | ex,.seq a b,s=>Zor rets ex a (Zor rets ex b s)
 | ex,.cond c a b,s=>Ztf (W6 c) (Ztf (Zor rets ex a s) (Zor rets ex b s))
 | ex,.block id c,s=>Zor rets ((id,s) :: ex) c s
 | ex,.loop c,_=>fixN 12 (fun h=>Ztf (Zor rets ex c h) h) []
 | ex,.exit id,_=>getN id ex
 | _,.ret,_=>rets
 | _,_,s=>s
def ZyB (rets:List Nat):List (Nat×List Nat)→ZN→List Nat→ZN×List Nat
 | _,.region n d ops,s=>(.keep s (.region n d ops),ZCy ops s)
 | ex,.seq a b,s=>match ZyB rets ex b s with
  | (b',s1)=>match ZyB rets ex a s1 with
   | (a',s2)=>(.seq a' b',s2)
 | ex,.cond c a b,s=>match ZyB rets ex a s with
  | (a',s1)=>match ZyB rets ex b s with
   | (b',s2)=>(.cond c a' b',Ztf (W6 c) (Ztf s1 s2))
 | ex,.block id c,s=>match ZyB rets ((id,s) :: ex) c s with
  | (c',s1)=>(.block id c',s1)
 | ex,.loop c,_=>match fixN 12 (fun h=>Ztf (Zor rets ex c h) h) [] with
  | h=>match ZyB rets ex c h with
   | (c',_)=>(.loop c',h)
 | ex,c,s=>(c,Zor rets ex c s)
def ZCz (s:List Nat):List Nat→Bool
 | []=>true
 | x :: r=>match memN x s with
  | true=>ZCz s r
  | false=>false
def ZCA:List CO→List Nat
 | []=>[]
 | o :: r=>Zpw o.dst (looks o++ZCA r)
def Zqm:ZN→List Nat→ZN×List Nat
 | .keep s (.region n d ops),e=>match ZCz s (ZCA ops) with
  | true=>match ZCz s e with
   | true=>(.region n d ops,e)
   | false=>(.keep s (.region n d ops),[])
  | false=>(.keep s (.region n d ops),[])
 | .seq a b,e=>match Zqm a e with
  | (a',e1)=>match Zqm b e1 with
   | (b',e2)=>(.seq a' b',e2)
 | .cond c a b,e=>match Zqm a (W6 c++e) with
  | (a',e1)=>match Zqm b (W6 c++e) with
   | (b',e2)=>(.cond c a' b',Ztf e1 e2)
 | .block id c,e=>match Zqm c e with
  | (c',e1)=>(.block id c',e1)
 | .loop c,e=>match Zqm c e with
  | (c',e1)=>(.loop c',e1)
 | c,e=>(c,e)
def retN:List Zrh→List Nat
 | []=>[]
 | .tmp t :: r=>t :: retN r
 | .cell a _ _ :: r=>a :: retN r
def autoF (c:Zp):Zp:=match ZyB (retN c.res) [] c.body (retN c.res) with
 | (b,_)=>match Zqm b [] with
  | (b',_) => { nt:=c.nt,res:=c.res,body:=b' }
def autoO:Option Zp→Zp
 | some c=>autoF c
 | none=>⟨0,[],.stuck⟩
@[go_sem] abbrev rhsOf {α:Type} {a b:α} (_:a=b):α:=b
@[go_sem] abbrev Zk (P:Program) (f:Func) {b:Zp} (_:autoO (Zzn P f)=b:=by conv=>lhs;reduce):Zp:=b
end Go.Abs
