/- Own text. -/
import Derived.Test.YtighjmleicikhaaAbsLib
import Derived.Test.YtighjmleicikhaaCCode
import Derived.Test.YtighjmleicikhaaAbsParts
set_option linter.unusedVariables false
set_option linter.unusedSimpArgs false
namespace Go.Abs.L
open Go Go.Abs
def I64 (z:Int):Prop:=-9223372036854775808≤z∧z<9223372036854775808
def Box.ok (b:Box):Prop:=I64 b.X∧I64 b.Y∧I64 b.W∧I64 b.H
def Pane.ok (p:Pane):Prop:=I64 p.W∧I64 p.H∧I64 p.Kind
def ZaZ.ok (l:ZaZ):Prop:=l.Pane.ok∧I64 l.Count
def WK.ok (k:WK):Prop:=I64 k.W∧I64 k.H∧k.Panes.length≤maxLen∧∀ p∈k.Panes,p.ok
def Vd.ok (p:Vd):Prop:=I64 p.Pane∧p.Box.ok
def Xt.ok (p:Xt):Prop:=I64 p.Label∧I64 p.W∧I64 p.H∧p.Flaws.length≤maxLen∧∀ b∈p.Flaws,b.ok
def ZjB.ok (s:ZjB):Prop:=(s.Stock.length≤maxLen∧∀ p∈s.Stock,p.ok)∧(s.Opn.length≤maxLen∧∀ l∈s.Opn,l.ok)∧(s.Done.length≤maxLen∧∀ l∈s.Done,l.ok)∧I64 s.Lost∧I64 s.Came
inductive ZH.ok:ZH→Prop
 | mk {o a p:Int} {t:Bool} {ks:List ZH}:I64 o→I64 a→I64 p→ks.length≤maxLen→(∀ k∈ks,ZH.ok k)→ZH.ok (.mk o a p t ks)
end Go.Abs.L
namespace Go.Proofs.Ytighjmleicikhaa
open Go Go.Abs Go.Abs.E Go.Abs.L
open Nat (reduceMul reduceSub reduceLeDiff reduceEqDiff)
open Int (reduceLE reduceEq reduceToNat reduceNeg)
set_option linter.unusedSimpArgs false
set_option linter.unusedVariables false
set_option maxRecDepth 20000
set_option maxHeartbeats 4000000
abbrev Jh (l:List Int):Prop:=l.Nodup∧∀ x∈l,0≤x∧x<l.length
def rng (n:Nat):List Int:=(List.range n).map fun (k:Nat)=>(k:Int)
theorem Zaq (n:Nat):(rng n).length=n:=by simp[rng]
theorem Zoa {n k:Nat} (h:k<n):(rng n)[k]?=some (k:Int):=by simp[rng,LS h]
theorem Zb5 (n:Nat):rng (n+1)=rng n++[(n:Int)]:=by simp[rng,List.range_succ]
theorem Zb6 {n:Nat} {x:Int}:x∈rng n↔0≤x∧x<n:=by
 simp only[rng,K9,K7];constructor
 ·rintro ⟨k,h,rfl⟩;omega
 ·rintro ⟨h1,h2⟩;exact⟨x.toNat,by omega,by omega⟩
theorem WE (n:Nat):(rng n).Pairwise (· < ·):=by
 rw[rng,List.pairwise_map];exact List.pairwise_lt_range.imp fun h=>by omega
theorem Zl7 (n:Nat):(rng n).Nodup:=(WE n).imp fun h=>by omega
theorem Zi2:∀ {l m:List Int},l.Nodup→(∀ x∈l,x∈m)→l.length=m.length→l.Perm m
 | [],m,_,_,h=>by rw[Kf h.symm]
 | x :: l,m,hn,hs,h=>by
  rw[K2] at hn;have hx:=hs x (by simp);have ih:=Zi2 (l:=l) (m:=m.erase x) hn.2 (fun y hy=>(List.mem_erase_of_ne (by rintro rfl;exact hn.1 hy)).2 (hs y (by simp[hy]))) (by rw[List.length_erase_of_mem hx];simp only[Kv] at h;omega);exact(ih.cons x).trans (List.perm_cons_erase hx).symm
theorem Zfk {l:List Int} (h:Jh l):List.Perm l (rng l.length):=Zi2 h.1 (fun x hx=>Zb6.2 (h.2 x hx)) (by rw[Zaq])
theorem ZcJ (l:List Int):List.Perm (QP l) l:=List.mergeSort_perm l _
theorem Zi3 (l:List Int):(QP l).Pairwise (· ≤ ·):=by
 have:=List.pairwise_mergeSort (le:=fun x y:Int=>decide (x≤y)) (fun a b c h1 h2=>by simp at *;omega) (fun a b=>by simp;omega) l;exact this.imp fun h=>by simpa using h
theorem ZaN {a b:List Int} (h:List.Perm a b) (ha:a.Pairwise (· ≤ ·)) (hb:b.Pairwise (· ≤ ·)):a=b:=
 h.eq_of_pairwise (fun x y _ _ h1 h2=>by omega) ha hb
theorem Zkd {l:List Int} (h:Jh l) (hs:l.Pairwise (· ≤ ·)):l=rng l.length:=
 ZaN (Zfk h) hs ((WE _).imp fun h=>by omega)
def prs (p:Int→Int→Bool) (l:List Int):Nat→Nat
 | 0=>0
 | i+1=>prs p l i+((l.take i).filter fun y=>p y (l.getD i 0)).length
theorem Zke (p:Int→Int→Bool) (l:List Int):∀ i,prs p l i≤i*i
 | 0=>by simp[prs]
 | i+1=>by
  have h1:=Zke p l i;have h2:((l.take i).filter fun y=>p y (l.getD i 0)).length≤i:=Ly (List.length_filter_le _ _) (by simp;omega);have h3:(i+1)*(i+1)=i*i+i+i+1:=by rw[KA,Nat.mul_add];omega
  simp only[prs];omega
theorem Zb7 {p:Int→Int→Bool} {l:List Int}:∀ {n:Nat},prs p l n=0↔∀ i,i<n→∀ y∈l.take i,p y (l.getD i 0)=false
 | 0=>by simp[prs]
 | n+1=>by
  simp only[prs,Nat.add_eq_zero_iff,Zb7 (n:=n),List.length_eq_zero_iff,List.filter_eq_nil_iff];constructor
  ·rintro ⟨h1,h2⟩ i hi y hy
   rcases Nat.lt_succ_iff_lt_or_eq.1 hi with h | rfl
   ·exact h1 i h y hy
   ·simpa using h2 y hy
  ·intro h;exact⟨fun i hi=>h i (by omega),fun y hy=>by simpa using h n (by omega) y hy⟩
theorem Zng {p:Int→Int→Bool} {l:List Int} (h:prs p l l.length=0):l.Pairwise fun y x=>p y x=false:=by
 rw[List.pairwise_iff_getElem];intro j i hj hi aa;have:=Zb7.1 h i hi l[j] (Kl (i:=j) (by rw[List.getElem?_take_of_lt aa];exact Kj hj))
 rwa [KY,Kj hi,LR] at this
theorem Znh {p:Int→Int→Bool} {l:List Int} (h:l.Pairwise fun y x=>p y x=false):prs p l l.length=0:=by
 rw[Zb7];intro i hi y hy;obtain⟨j,hj⟩:=KZ hy;rw[KU] at hj;split at hj
 ·rename_i aa;obtain⟨h1,h2⟩:=Kb.1 hj;have:=(List.pairwise_iff_getElem.1 h) j i h1 hi aa;rw[h2] at this
  rwa [KY,Kj hi,LR]
 ·cases hj
def fI:List Int→Int→Nat
 | [],_=>0
 | t :: ts,x=>if x<t then 0 else fI ts x+1
def upT (tops:List Int) (x:Int):List Int:=if fI tops x<tops.length then tops.set (fI tops x) x else tops++[x]
def stT (tops:List Int):List Int→List Int
 | []=>[]
 | x :: l=>(fI tops x:Int) :: stT (upT tops x) l
def tpT (tops:List Int):List Int→List Int
 | []=>tops
 | x :: l=>tpT (upT tops x) l
theorem Zi4:∀ (t:List Int) (x:Int),fI t x≤t.length
 | [],x=>by simp[fI]
 | t :: ts,x=>by
  have:=Zi4 ts x;simp only[fI,Kv];split<;>omega
theorem Zni:∀ {t:List Int} {x:Int},fI t x<t.length→∃ y,t[fI t x]?=some y∧x<y
 | [],x,h=>by simp at h
 | t :: ts,x,h=>by
  by_cases hx:x<t
  ·exact⟨t,by simp[fI,hx],hx⟩
  ·simp only[fI,hx,Kh,Kv] at h ⊢;obtain⟨y,h1,h2⟩:=Zni (t:=ts) (x:=x) (by omega);exact⟨y,by simpa using h1,h2⟩
theorem ZkW (t:List Int) (x:Int):(upT t x).length≤t.length+1:=by unfold upT;split<;>simp
theorem Znj (t:List Int) (x:Int):(upT t x)[fI t x]?=some x:=by
 unfold upT;split
 ·rename_i h;simp[h]
 ·have:=Zi4 t x;have h2:fI t x=t.length:=by omega
  rw[h2];simp
theorem upT_le {t:List Int} {x y:Int} {k:Nat} (h:t[k]?=some y):∃ z,(upT t x)[k]?=some z∧z≤y:=by
 have hk:=(Kb.1 h).1;unfold upT;split
 ·rename_i hl;by_cases aa:fI t x=k
  ·obtain⟨z,h1,h2⟩:=Zni hl;rw[aa,h] at h1;cases h1;refine⟨x,by rw[← aa];simp[hl],by omega⟩
  ·exact⟨y,by rw[KI aa];exact h,by omega⟩
 ·exact⟨y,by rw[Kq hk];exact h,by omega⟩
theorem Zb8:∀ (l t:List Int),(stT t l).length=l.length
 | [],_=>rfl
 | x :: l,t=>by simp[stT,Zb8 l]
theorem Znk:∀ (l t:List Int),∀ s∈stT t l,0≤s∧s<t.length+l.length
 | [],_,s,h=>by simp[stT] at h
 | x :: l,t,s,h=>by
  have h1:=Zi4 t x;have h2:=ZkW t x;simp only[stT,Ke] at h;simp only[Kv];rcases h with rfl | h
  ·omega
  ·have:=Znk l (upT t x) s h;omega
theorem ZkX:∀ (l t:List Int) {j k:Nat} {x y:Int},(stT t l)[j]?=some (k:Int)→l[j]?=some x→t[k]?=some y→x<y
 | [],_,j,k,x,y,h,_,_=>by simp[stT] at h
 | z :: l,t,0,k,x,y,h1,h2,h3=>by
  simp only[stT,Lh,Option.some.injEq] at h1 h2;subst h2;have hk:fI t z=k:=by omega
  have aa:=(Kb.1 h3).1;obtain⟨y',g1,g2⟩:=Zni (t:=t) (x:=z) (by omega);rw[hk,h3] at g1;cases g1;exact g2
 | z :: l,t,j+1,k,x,y,h1,h2,h3=>by
  simp only[stT,K6] at h1 h2;obtain⟨y',g1,g2⟩:=upT_le (x:=z) h3;have:=ZkX l _ h1 h2 g1;omega
theorem Zi5:∀ (l t:List Int) {i j:Nat} {s x y:Int},i<j→(stT t l)[i]?=some s→(stT t l)[j]?=some s→l[i]?=some x→l[j]?=some y→y<x
 | [],_,i,j,s,x,y,_,h,_,_,_=>by simp[stT] at h
 | z :: l,t,i,0,s,x,y,h,_,_,_,_=>by omega
 | z :: l,t,0,j+1,s,x,y,_,h1,h2,h3,h4=>by
  simp only[stT,Lh,K6,Option.some.injEq] at h1 h2 h3 h4;subst h3;rw[← h1] at h2;exact ZkX l _ h2 h4 (Znj t z)
 | z :: l,t,i+1,j+1,s,x,y,h,h1,h2,h3,h4=>by
  simp only[stT,K6] at h1 h2 h3 h4;exact Zi5 l _ (by omega) h1 h2 h3 h4
theorem Zfl:∀ (l t:List Int) {i:Nat} {x:Int},l[i]?=some x→stT t (l.take (i+1))=stT t (l.take i)++[(fI (tpT t (l.take i)) x:Int)]∧tpT t (l.take (i+1))=upT (tpT t (l.take i)) x
 | [],_,i,x,h=>by simp at h
 | z :: l,t,0,x,h=>by simp at h;subst h;simp[stT,tpT]
 | z :: l,t,i+1,x,h=>by
  simp only[K6] at h;have:=Zfl l (upT t z) h;simp only[List.take_succ_cons,stT,tpT,this.1,this.2,KX,and_self]
theorem ZhG:∀ (l t:List Int),(tpT t l).length≤t.length+l.length
 | [],_=>by simp[tpT]
 | x :: l,t=>by
  have h1:=ZhG l (upT t x);have h2:=ZkW t x;simp only[tpT,Kv];omega
theorem Zob {t:List Int} {x y:Int} (h:y∈upT t x):y∈t∨y=x:=by
 unfold upT at h;split at h
 ·exact List.mem_or_eq_of_mem_set h
 ·simpa using h
theorem ZkY:∀ (l t:List Int) {y:Int},y∈tpT t l→y∈t∨y∈l
 | [],_,y,h=>.inl h
 | x :: l,t,y,h=>by
  rcases ZkY l _ h with h | h
  ·rcases Zob h with h | h
   ·exact .inl h
   ·exact .inr (by simp[h])
  ·exact .inr (by simp[h])
def inO (l:List Int):Bool:=decide (l=rng l.length)
def drn (room:Nat):List Int→List Int→Nat
 | _,[]=>0
 | left,x :: b=>if (x=(left.length:Int)∧inO left=true)∨room<b.length+1 then drn room (left++[x]) b+1 else 0
def psL (room:Nat):List Int→List Int→List Int→List Int
 | left,buf,[]=>left++buf
 | left,buf,x :: l=>psL room (left++(QP (buf++[x])).take (drn room left (QP (buf++[x])))) ((QP (buf++[x])).drop (drn room left (QP (buf++[x])))) l
theorem Zl8 (x:Int):QP [x]=[x]:=by simp[QP]
theorem ZkZ:∀ (l left:List Int),psL 0 left [] l=left++l
 | [],left=>by simp[psL]
 | x :: l,left=>by
  have h1:drn 0 left [x]=1:=by simp[drn]
  simp only[psL,KW,Zl8,h1];rw[show List.take 1 [x]=[x] from rfl,show List.drop 1 [x]=[] from rfl,ZkZ l];simp
theorem ZhH (n:Nat):inO (rng n)=true:=by simp[inO,Zaq]
theorem Zkf {l:List Int}:inO l=true↔l=rng l.length:=by simp[inO]
theorem Zk0 {room:Nat}:∀ {b:List Int} {a:Nat},b.length≤room→rng a++b.take (drn room (rng a) b)=rng (a+drn room (rng a) b)
 | [],a,h=>by simp[drn]
 | x :: b,a,h=>by
  simp only[Kv] at h;have hn:¬room<b.length+1:=by omega
  by_cases hx:x=(a:Int)
  ·have ih:=Zk0 (room:=room) (b:=b) (a:=a+1) (by omega);have e:drn room (rng a) (x :: b)=drn room (rng (a+1)) b+1:=by simp only[drn,Zaq,hx,ZhH,and_self,true_or,Ki,Zb5]
   rw[e,List.take_succ_cons,hx];have:rng a++(a:Int) :: b.take (drn room (rng (a+1)) b)=rng (a+1)++b.take (drn room (rng (a+1)) b):=by rw[Zb5];simp
   rw[this,ih];congr 1;omega
  ·have e:drn room (rng a) (x :: b)=0:=by simp only[drn,Zaq,hx,hn,false_and,or_self,Kh]
   rw[e];simp
theorem ZdQ (room:Nat):∀ (l left buf:List Int),List.Perm (psL room left buf l) (left++buf++l)
 | [],left,buf=>by simp[psL]
 | x :: l,left,buf=>by
  simp only[psL];refine(ZdQ room l _ _).trans ?_;rw[KR left,Lo,KR,KR];refine List.Perm.append_left left ?_;refine(List.Perm.append_right l (ZcJ (buf++[x]))).trans ?_;simp
theorem ZgS {room:Nat}:∀ (l:List Int) {a:Nat} {buf:List Int},buf.Pairwise (· ≤ ·)→buf.length+l.length≤room→∃ a' buf',psL room (rng a) buf l=rng a'++buf'∧buf'.Pairwise (· ≤ ·)
 | [],a,buf,hs,_=>⟨a,buf,by simp[psL],hs⟩
 | x :: l,a,buf,hs,hl=>by
  simp only[Kv] at hl;have aa:(QP (buf++[x])).length=buf.length+1:=by rw[(ZcJ _).length_eq];simp
  simp only[psL];rw[Zk0 (by omega)];exact ZgS l ((Zi3 _).sublist (List.drop_sublist _ _)) (by rw[KM];omega)
theorem Zoc {l:List Int} (h:Jh l):psL l.length [] [] l=rng l.length:=by
 obtain⟨a,b,h1,h2⟩:=ZgS (room:=l.length) l (a:=0) (buf:=[]) List.Pairwise.nil (by simp);have hp:=ZdQ l.length l [] [];have e0:rng 0=[]:=rfl;rw[e0] at h1;simp only[KW] at hp;have aa:=hp.trans (Zfk h);have hd:(rng a++b).Nodup:=by rw[← h1];exact aa.nodup_iff.2 (Zl7 _)
 refine ZaN aa ?_ ((WE _).imp fun h=>by omega);rw[h1,Lr];refine⟨(WE a).imp fun h=>by omega,h2,fun x hx y hy=>?_⟩;have hx:=Zb6.1 hx;have ab:0≤y:=by
  have:y∈rng l.length:=aa.mem_iff.1 (by rw[h1];simp[hy]);exact(Zb6.1 this).1
 rcases Int.lt_or_le y a with h | h
 ·exact absurd hy ((Lt.1 hd).2.2 y (Zb6.2 ⟨ab,h⟩) y · rfl)
 ·omega
end Go.Proofs.Ytighjmleicikhaa
