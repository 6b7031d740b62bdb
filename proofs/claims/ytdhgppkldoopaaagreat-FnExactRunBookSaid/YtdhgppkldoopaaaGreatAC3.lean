/- Own text. -/
import Derived.Test.YtdhgppkldoopaaaGreatACode
import Derived.Test.YtdhgppkldoopaaaGreatAbsParts
import Derived.Test.YtdhgppkldoopaaaGreatAbsOkD
namespace Go.Proofs.YtdhgppkldoopaaaGreat
open Go Go.Abs Go.Abs.E Go.Abs.L
open Nat (reduceMul reduceSub reduceLeDiff reduceEqDiff)
open Int (reduceLE reduceEq reduceToNat reduceNeg)
set_option linter.unusedSimpArgs false
set_option linter.unusedVariables false
set_option maxRecDepth 20000
set_option maxHeartbeats 4000000
def Yy:List Zb→Int
 | []=>0
 | x :: l=>x.W*x.H+Yy l
theorem Zsf (a b:List Zb):Yy (a++b)=Yy a+Yy b:=by
 induction a with
 | nil=>simp[Yy]
 | cons c l ih=>simp only[KD,Yy,ih];omega
theorem Zoi {L:List Zb} {i:Nat} {x:Zb} (hx:L[i]?=some x):Yy (L.take (i+1))=Yy (L.take i)+x.W*x.H:=by
 rw[KK,hx,Zsf];simp[Yy]
theorem Ztt (q:Zb):∀ (n:Int) (l:List Box) (i:Nat) (x:Zb),(Uf q n l)[i]?=some x→∃ b,l[i]?=some b∧x=ZlY q b (n+i)
 | n,[],i,x,h=>by simp[Uf] at h
 | n,b :: l,0,x,h=>by
  simp only[Uf,Lc,Option.some.injEq] at h;exact⟨b,rfl,by rw[← h];simp⟩
 | n,b :: l,i+1,x,h=>by
  simp only[Uf,KS] at h;obtain⟨c,h1,h2⟩:=Ztt q (n+1) l i x h;refine⟨c,by simpa using h1,?_⟩;rw[h2];congr 1;omega
theorem ZaS:∀ {l:List Zb},(∀ x∈l,1≤x.W∧x.W≤200∧1≤x.H∧x.H≤200)→0≤Yy l∧Yy l≤40000*l.length
 | [],_=>by simp[Yy]
 | x :: l,h=>by
  have h1:=h x (by simp);have h2:=ZaS (l:=l) fun y hy=>h y (by simp[hy]);have h3:0≤x.W*x.H:=Kab (by omega) (by omega);have h4:x.W*x.H≤200*200:=Kac (by omega) (by omega) (by omega) (by omega);simp only[Yy,Ks];omega
end Go.Proofs.YtdhgppkldoopaaaGreat
