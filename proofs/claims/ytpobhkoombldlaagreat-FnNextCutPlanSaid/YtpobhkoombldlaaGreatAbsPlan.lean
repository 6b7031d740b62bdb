/- Plans as trees. Own text. -/
import Derived.Test.YtpobhkoombldlaaGreatAbsLib
set_option linter.unusedVariables false
set_option linter.unusedSimpArgs false
namespace Go.Abs.L
open Go Go.Abs Go.Abs.E
inductive BT where
 | waste
 | pane (i:Int) (t:Bool)
 | cut (d:Bool) (a:Int) (l r:BT)
deriving DecidableEq,Inhabited
def QG (d:Bool):Int:=if d then 2 else 3
def BT.plan:BT→Zh
 | .waste=>.mk 0 0 0 false []
 | .pane i t=>.mk 1 0 i t []
 | .cut d a l r=>.mk (QG d) a 0 false [l.plan,r.plan]
def BT.cnt:BT→Nat
 | .waste=>1
 | .pane _ _=>1
 | .cut _ _ l r=>1+l.cnt+r.cnt
theorem BT.cnt_pos (b:BT):1≤b.cnt:=by cases b<;>simp[BT.cnt]<;>omega
def Zh.nodes:Zh→Nat
 | .mk _ _ _ _ ks=>1+nodesL ks
where nodesL:List Zh→Nat
 | []=>0
 | p :: r=>Zh.nodes p+nodesL r
def Zit (o a p:Int) (t:Bool) (l r:Option BT):Option BT:=match l,r with
 | some x,some y=>if p=0∧t=false then some (.cut (decide (o=2)) a x y) else none
 | _,_=>none
mutual
def Y0:Zh→Option BT
 | .mk o a p t ks=>if o=2∨o=3 then ZvK o a p t ks else
   if ks.length=0∧a=0∧o=1 then some (.pane p t) else
   if ks.length=0∧a=0∧o=0∧p=0∧t=false then some .waste else none
def ZvK (o a p:Int) (t:Bool):List Zh→Option BT
 | []=>none
 | x :: r=>Zym o a p t (Y0 x) r
def Zym (o a p:Int) (t:Bool) (l:Option BT):List Zh→Option BT
 | []=>none
 | y :: r=>match r with
  | []=>Zit o a p t l (Y0 y)
  | _=>none
end
theorem Zp9 (o a p:Int) (t:Bool) (x y:Zh) (ho:o=2∨o=3):Y0 (.mk o a p t [x,y])=Zit o a p t (Y0 x) (Y0 y):=by
 simp[Y0,ZvK,Zym,ho]
theorem Zno (o a p:Int) (t:Bool) (ks:List Zh) (ho:o=2∨o=3) (hk:ks.length≠2):Y0 (.mk o a p t ks)=none:=by
 match ks,hk with
 | [],_=>simp[Y0,ZvK,ho]
 | [x],_=>simp[Y0,ZvK,Zym,ho]
 | [x,y],h=>simp at h
 | x :: y :: z :: r,_=>simp[Y0,ZvK,Zym,ho]
theorem Znp:∀ b:BT,Y0 b.plan=some b
 | .waste=>by simp[BT.plan,Y0]
 | .pane i t=>by simp[BT.plan,Y0]
 | .cut d a l r=>by
  rw[BT.plan,Zp9 _ _ _ _ _ _ (by cases d<;>simp[QG]),Znp l,Znp r]
  cases d<;>simp[Zit,QG]
theorem Ziu:∀ (n:Nat) (p:Zh) (b:BT),p.nodes≤n→Y0 p=some b→p=b.plan
 | 0,.mk o a p t ks,b,hn,_=>by simp[Zh.nodes] at hn
 | n+1,.mk o a p t ks,b,hn,h=>by
  by_cases ho:o=2∨o=3
  ·by_cases hk:ks.length=2
   ·match ks,hk with
    | [x,y],_=>
     rw[Zp9 _ _ _ _ _ _ ho] at h
     simp only[Zh.nodes,Zh.nodes.nodesL] at hn
     cases hx:Y0 x with
     | none=>simp[hx,Zit] at h
     | some bx=>
      cases hy:Y0 y with
      | none=>simp[hx,hy,Zit] at h
      | some bY=>
       have e1:=Ziu n x bx (by omega) hx
       have e2:=Ziu n y bY (by omega) hy
       simp only[hx,hy,Zit] at h
       split at h
       ·rename_i hc
        cases h
        obtain⟨rfl,rfl⟩:=hc
        rw[BT.plan,← e1,← e2]
        rcases ho with rfl | rfl<;>rfl
       ·cases h
   ·rw[Zno _ _ _ _ _ ho hk] at h;cases h
  ·simp only[Y0,ho,if_false] at h
   split at h
   ·rename_i hc
    cases h
    obtain⟨h1,rfl,rfl⟩:=hc
    cases ks with
    | nil=>rfl
    | cons x r=>simp at h1
   ·split at h
    ·rename_i hc
     cases h
     obtain⟨h1,rfl,rfl,rfl,rfl⟩:=hc
     cases ks with
     | nil=>rfl
     | cons x r=>simp at h1
    ·cases h
theorem Zkv {p:Zh} {b:BT} (h:Y0 p=some b):p=b.plan:=Ziu _ p b (Nat.le_refl _) h
theorem Zs2 {o a p:Int} {t:Bool} {ks:List Zh} {x y:Zh} (ho:o=2∨o=3) (hk:ks.length=2) (h0:ks[0]?=some x) (h1:ks[1]?=some y):Y0 (.mk o a p t ks)=Zit o a p t (Y0 x) (Y0 y):=by
 match ks,hk with
 | [x',y'],_=>
  simp at h0 h1
  subst h0;subst h1
  exact Zp9 _ _ _ _ _ _ ho
theorem Zqa:∀ {ks:List Zh} {i:Nat} {x:Zh},ks[i]?=some x→x.nodes≤Zh.nodes.nodesL ks
 | [],i,x,h=>by simp at h
 | y :: ks,0,x,h=>by simp at h;subst h;simp[Zh.nodes.nodesL]
 | y :: ks,i+1,x,h=>by
  have:=Zqa (ks:=ks) (i:=i) (x:=x) (by simpa using h)
  simp only[Zh.nodes.nodesL];omega
theorem Zkw {o a p:Int} {t:Bool} {ks:List Zh} {i:Nat} {x:Zh} {n:Nat} (hn:(Zh.mk o a p t ks).nodes≤n+1) (h:ks[i]?=some x):x.nodes≤n:=by
 have:=Zqa h
 simp only[Zh.nodes] at hn;omega
theorem Zh.enc_len (x:Zh):(Zh.enc x).cells.length=5:=by
 obtain⟨o,a,p,t,k⟩:=x;rw[Zh.enc_mk];rfl
theorem Zh.enc_agg (x:Zh):D.agg (Zh.enc x).cells=Zh.enc x:=by
 obtain⟨o,a,p,t,k⟩:=x;rw[Zh.enc_mk];rfl
theorem Zh.take_enc (x:Zh):(Zh.enc x).cells.take 5=(Zh.enc x).cells:=List.take_of_length_le (by rw[Zh.enc_len x];omega)
attribute [go_sem] Zh.enc_len Zh.enc_agg Zh.take_enc
theorem Zqb {o a p:Int} {t:Bool} {ks:List Zh} (ho:¬(o=2∨o=3)):Y0 (.mk o a p t ks)=if ks.length=0∧a=0∧o=1 then some (.pane p t) else
   if ks.length=0∧a=0∧o=0∧p=0∧t=false then some .waste else none:=by
 simp only[Y0,ho,if_false]
def ZF (m:Int):Option BT→Int
 | some b=>if (b.cnt:Int)≤m then (b.cnt:Int) else -1
 | none=>-1
theorem Zfq (m:Int) (h0:0≤m) (b:Option BT) : -1≤ZF m b∧ZF m b≤m∧ZF m b≠0:=by
 cases b with
 | none=>simp[ZF];omega
 | some b=>
  have:=b.cnt_pos
  simp only[ZF]
  split<;>omega
theorem VC (m:Int) (b:BT):((b.cnt:Int)≤m∧ZF m (some b)=b.cnt)∨(m<(b.cnt:Int)∧ZF m (some b)=-1):=by
 unfold ZF
 by_cases h:(b.cnt:Int)≤m
 ·left;exact⟨h,if_pos h⟩
 ·right;exact⟨by omega,if_neg h⟩
theorem Ziv (m o a p:Int) (t:Bool) (l r:Option BT) (h:¬(p=0∧t=false)):ZF m (Zit o a p t l r)=-1:=by
 cases l with
 | none=>rfl
 | some x=>cases r with
  | none=>rfl
  | some y=>simp only[Zit,if_neg h,ZF]
theorem Zxi (m o a:Int) (l r:Option BT):ZF m (Zit o a 0 false l r)=if ZF m l<0∨ZF m r<0∨m<1+ZF m l+ZF m r then -1 else 1+ZF m l+ZF m r:=by
 cases l with
 | none=>simp[Zit,ZF]
 | some x=>cases r with
  | none=>simp[Zit,ZF]
  | some y=>
   have h1:=x.cnt_pos
   have h2:=y.cnt_pos
   have e:(BT.cut (decide (o=2)) a x y).cnt=1+x.cnt+y.cnt:=rfl
   have e0:Zit o a 0 false (some x) (some y)=some (BT.cut (decide (o=2)) a x y):=by simp[Zit]
   rw[e0]
   have hx:=VC m x
   have hy:=VC m y
   have hc:=VC m (BT.cut (decide (o=2)) a x y)
   rw[e] at hc
   generalize ZF m (some x)=sx at *
   generalize ZF m (some y)=sy at *
   generalize ZF m (some (BT.cut (decide (o=2)) a x y))=sc at *
   split<;>omega
theorem ZvL (m o a:Int) (l r:Option BT):ZF m (Zit o a 0 false l r)=if ZF (m-1) l<0∨ZF (m-1-ZF (m-1) l) r<0 then -1 else 1+ZF (m-1) l+ZF (m-1-ZF (m-1) l) r:=by
 cases l with
 | none=>simp[Zit,ZF]
 | some x=>cases r with
  | none=>simp[Zit,ZF]
  | some y=>
   have h1:=x.cnt_pos
   have h2:=y.cnt_pos
   have e:(BT.cut (decide (o=2)) a x y).cnt=1+x.cnt+y.cnt:=rfl
   have e0:Zit o a 0 false (some x) (some y)=some (BT.cut (decide (o=2)) a x y):=by simp[Zit]
   rw[e0]
   have hx:=VC (m-1) x
   have hy:=VC (m-1-ZF (m-1) (some x)) y
   have hc:=VC m (BT.cut (decide (o=2)) a x y)
   rw[e] at hc
   generalize ZF (m-1-ZF (m-1) (some x)) (some y)=sy at *
   generalize ZF (m-1) (some x)=sx at *
   generalize ZF m (some (BT.cut (decide (o=2)) a x y))=sc at *
   split<;>omega
theorem Zxj {m:Int} (h:m<1) (b:Option BT):ZF m b=-1:=by
 cases b with
 | none=>rfl
 | some b=>
  have:=b.cnt_pos
  have:=VC m b
  omega
def YH (ps:List Pane) (i:Int) (t:Bool) (w h:Int):Bool:=decide (0≤i)&&(match ps[i.toNat]? with
 | some q=>if t then q.Turns&&decide (¬q.W=q.H)&&decide (q.H=w)&&decide (q.W=h) else decide (q.W=w∧q.H=h)
 | none=>false)
def YI (ps:List Pane):BT→Int→Int→Bool
 | .waste,_,_=>true
 | .pane i t,w,h=>YH ps i t w h
 | .cut d a l r,w,h=>if d then decide (1≤a∧a≤w-1)&&YI ps l a h&&YI ps r (w-a) h
   else decide (1≤a∧a≤h-1)&&YI ps l w a&&YI ps r w (h-a)
def VPs (ps:List Pane):Prop:=∀ q∈ps,VP q
instance (ps:List Pane):Decidable (VPs ps):=by unfold VPs;infer_instance
def VW (k:ZE):Prop:=1≤k.W∧k.W≤200∧1≤k.H∧k.H≤200∧k.Panes.length≤24∧VPs k.Panes
instance (k:ZE):Decidable (VW k):=by unfold VW;infer_instance
theorem ZvM {ps:List Pane} {k:Nat} {x:Pane} (hx:ps[k]?=some x):VPs (ps.drop k)↔VP x∧VPs (ps.drop (k+1)):=by
 obtain⟨h1,h2⟩:=List.getElem?_eq_some_iff.1 hx
 rw[List.drop_eq_getElem_cons h1,h2]
 simp[VPs]
end Go.Abs.L
