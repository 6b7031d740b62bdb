/- Own text. -/
import Derived.Test.YtnachaiejoflhaaAbsLib
set_option linter.unusedVariables false
set_option linter.unusedSimpArgs false
namespace Go.Abs.L
open Go Go.Abs Go.Abs.E
inductive BT where
 | waste
 | pane (i:Int) (t:Bool)
 | cut (d:Bool) (a:Int) (l r:BT)
deriving DecidableEq,Inhabited
def QN (d:Bool):Int:=if d then 2 else 3
def BT.plan:BT→Zj
 | .waste=>.mk 0 0 0 false []
 | .pane i t=>.mk 1 0 i t []
 | .cut d a l r=>.mk (QN d) a 0 false [l.plan,r.plan]
def BT.cnt:BT→Nat
 | .waste=>1
 | .pane _ _=>1
 | .cut _ _ l r=>1+l.cnt+r.cnt
theorem BT.cnt_pos (b:BT):1≤b.cnt:=by cases b<;>simp[BT.cnt]<;>omega
def Zj.nodes:Zj→Nat
 | .mk _ _ _ _ ks=>1+nodesL ks
where nodesL:List Zj→Nat
 | []=>0
 | p :: r=>Zj.nodes p+nodesL r
def JL (o a p:Int) (t:Bool) (l r:Option BT):Option BT:=match l,r with
 | some x,some y=>if p=0∧t=false then some (.cut (decide (o=2)) a x y) else none
 | _,_=>none
mutual
def Wd:Zj→Option BT
 | .mk o a p t ks=>if o=2∨o=3 then Zk1 o a p t ks else
   if ks.length=0∧a=0∧o=1 then some (.pane p t) else
   if ks.length=0∧a=0∧o=0∧p=0∧t=false then some .waste else none
def Zk1 (o a p:Int) (t:Bool):List Zj→Option BT
 | []=>none
 | x :: r=>Znn o a p t (Wd x) r
def Znn (o a p:Int) (t:Bool) (l:Option BT):List Zj→Option BT
 | []=>none
 | y :: r=>match r with
  | []=>JL o a p t l (Wd y)
  | _=>none
end
theorem Zgk (o a p:Int) (t:Bool) (x y:Zj) (ho:o=2∨o=3):Wd (.mk o a p t [x,y])=JL o a p t (Wd x) (Wd y):=by
 simp[Wd,Zk1,Znn,ho]
theorem Zoj (o a p:Int) (t:Bool) (ks:List Zj) (ho:o=2∨o=3) (hk:ks.length≠2):Wd (.mk o a p t ks)=none:=by
 match ks,hk with
 | [],_=>simp[Wd,Zk1,ho]
 | [x],_=>simp[Wd,Zk1,Znn,ho]
 | [x,y],h=>simp at h
 | x :: y :: z :: r,_=>simp[Wd,Zk1,Znn,ho]
theorem Zbk:∀ b:BT,Wd b.plan=some b
 | .waste=>by simp[BT.plan,Wd]
 | .pane i t=>by simp[BT.plan,Wd]
 | .cut d a l r=>by
  rw[BT.plan,Zgk _ _ _ _ _ _ (by cases d<;>simp[QN]),Zbk l,Zbk r];cases d<;>simp[JL,QN]
theorem JM:∀ (n:Nat) (p:Zj) (b:BT),p.nodes≤n→Wd p=some b→p=b.plan
 | 0,.mk o a p t ks,b,hn,_=>by simp[Zj.nodes] at hn
 | n+1,.mk o a p t ks,b,hn,h=>by
  by_cases ho:o=2∨o=3
  ·by_cases hk:ks.length=2
   ·match ks,hk with
    | [x,y],_=>
     rw[Zgk _ _ _ _ _ _ ho] at h;simp only[Zj.nodes,Zj.nodes.nodesL] at hn;cases hx:Wd x with
     | none=>simp[hx,JL] at h
     | some bx=>
      cases hy:Wd y with
      | none=>simp[hx,hy,JL] at h
      | some bY=>
       have e1:=JM n x bx (by omega) hx;have e2:=JM n y bY (by omega) hy;simp only[hx,hy,JL] at h;split at h
       ·rename_i hc;cases h;obtain⟨rfl,rfl⟩:=hc;rw[BT.plan,← e1,← e2];rcases ho with rfl | rfl<;>rfl
       ·cases h
   ·rw[Zoj _ _ _ _ _ ho hk] at h;cases h
  ·simp only[Wd,ho,Kg] at h;split at h
   ·rename_i hc;cases h;obtain⟨h1,rfl,rfl⟩:=hc;cases ks with
    | nil=>rfl
    | cons x r=>simp at h1
   ·split at h
    ·rename_i hc;cases h;obtain⟨h1,rfl,rfl,rfl,rfl⟩:=hc;cases ks with
     | nil=>rfl
     | cons x r=>simp at h1
    ·cases h
theorem Zok {p:Zj} {b:BT} (h:Wd p=some b):p=b.plan:=JM _ p b (Ke _) h
theorem toBT_two' {o a p:Int} {t:Bool} {ks:List Zj} {x y:Zj} (ho:o=2∨o=3) (hk:ks.length=2) (h0:ks[0]?=some x) (h1:ks[1]?=some y):Wd (.mk o a p t ks)=JL o a p t (Wd x) (Wd y):=by
 match ks,hk with
 | [x',y'],_=>
  simp at h0 h1;subst h0;subst h1;exact Zgk _ _ _ _ _ _ ho
theorem W8:∀ {ks:List Zj} {i:Nat} {x:Zj},ks[i]?=some x→x.nodes≤Zj.nodes.nodesL ks
 | [],i,x,h=>by simp at h
 | y :: ks,0,x,h=>by simp at h;subst h;simp[Zj.nodes.nodesL]
 | y :: ks,i+1,x,h=>by
  have:=W8 (ks:=ks) (i:=i) (x:=x) (by simpa using h);simp only[Zj.nodes.nodesL];omega
theorem Zol {o a p:Int} {t:Bool} {ks:List Zj} {i:Nat} {x:Zj} {n:Nat} (hn:(Zj.mk o a p t ks).nodes≤n+1) (h:ks[i]?=some x):x.nodes≤n:=by
 have:=W8 h;simp only[Zj.nodes] at hn;omega
theorem Zj.enc_len (x:Zj):(Zj.enc x).cells.length=5:=by
 obtain⟨o,a,p,t,k⟩:=x;rw[Zj.enc_mk];rfl
theorem Zj.enc_agg (x:Zj):D.agg (Zj.enc x).cells=Zj.enc x:=by
 obtain⟨o,a,p,t,k⟩:=x;rw[Zj.enc_mk];rfl
theorem Zj.take_enc (x:Zj):(Zj.enc x).cells.take 5=(Zj.enc x).cells:=Ky (by rw[Zj.enc_len x];omega)
attribute [go_sem] Zj.enc_len Zj.enc_agg Zj.take_enc
theorem Zsl {o a p:Int} {t:Bool} {ks:List Zj} (ho:¬(o=2∨o=3)):Wd (.mk o a p t ks)=if ks.length=0∧a=0∧o=1 then some (.pane p t) else
   if ks.length=0∧a=0∧o=0∧p=0∧t=false then some .waste else none:=by
 simp only[Wd,ho,Kg]
def ZU (m:Int):Option BT→Int
 | some b=>if (b.cnt:Int)≤m then (b.cnt:Int) else -1
 | none=>-1
theorem ZqT (m:Int) (h0:0≤m) (b:Option BT) : -1≤ZU m b∧ZU m b≤m∧ZU m b≠0:=by
 cases b with
 | none=>simp[ZU];omega
 | some b=>
  have:=b.cnt_pos;simp only[ZU];split<;>omega
theorem Yf (m:Int) (b:BT):((b.cnt:Int)≤m∧ZU m (some b)=b.cnt)∨(m<(b.cnt:Int)∧ZU m (some b)=-1):=by
 unfold ZU;by_cases h:(b.cnt:Int)≤m
 ·left;exact⟨h,Ko h⟩
 ·right;exact⟨by omega,Kk h⟩
theorem Zsm (m o a p:Int) (t:Bool) (l r:Option BT) (h:¬(p=0∧t=false)):ZU m (JL o a p t l r)=-1:=by
 cases l with
 | none=>rfl
 | some x=>cases r with
  | none=>rfl
  | some y=>simp only[JL,Kk h,ZU]
theorem Zsn (m o a:Int) (l r:Option BT):ZU m (JL o a 0 false l r)=if ZU m l<0∨ZU m r<0∨m<1+ZU m l+ZU m r then -1 else 1+ZU m l+ZU m r:=by
 cases l with
 | none=>simp[JL,ZU]
 | some x=>cases r with
  | none=>simp[JL,ZU]
  | some y=>
   have h1:=x.cnt_pos;have h2:=y.cnt_pos;have e:(BT.cut (decide (o=2)) a x y).cnt=1+x.cnt+y.cnt:=rfl;have e0:JL o a 0 false (some x) (some y)=some (BT.cut (decide (o=2)) a x y):=by simp[JL]
   rw[e0];have hx:=Yf m x;have hy:=Yf m y;have hc:=Yf m (BT.cut (decide (o=2)) a x y);rw[e] at hc;generalize ZU m (some x)=sx at *;generalize ZU m (some y)=sy at *;generalize ZU m (some (BT.cut (decide (o=2)) a x y))=sc at *;split<;>omega
theorem ZrD (m o a:Int) (l r:Option BT):ZU m (JL o a 0 false l r)=if ZU (m-1) l<0∨ZU (m-1-ZU (m-1) l) r<0 then -1 else 1+ZU (m-1) l+ZU (m-1-ZU (m-1) l) r:=by
 cases l with
 | none=>simp[JL,ZU]
 | some x=>cases r with
  | none=>simp[JL,ZU]
  | some y=>
   have h1:=x.cnt_pos;have h2:=y.cnt_pos;have e:(BT.cut (decide (o=2)) a x y).cnt=1+x.cnt+y.cnt:=rfl;have e0:JL o a 0 false (some x) (some y)=some (BT.cut (decide (o=2)) a x y):=by simp[JL]
   rw[e0];have hx:=Yf (m-1) x;have hy:=Yf (m-1-ZU (m-1) (some x)) y;have hc:=Yf m (BT.cut (decide (o=2)) a x y);rw[e] at hc;generalize ZU (m-1-ZU (m-1) (some x)) (some y)=sy at *;generalize ZU (m-1) (some x)=sx at *;generalize ZU m (some (BT.cut (decide (o=2)) a x y))=sc at *;split<;>omega
theorem Zso {m:Int} (h:m<1) (b:Option BT):ZU m b=-1:=by
 cases b with
 | none=>rfl
 | some b=>
  have:=b.cnt_pos;have:=Yf m b;omega
def Xt (ps:List Pane) (i:Int) (t:Bool) (w h:Int):Bool:=decide (0≤i)&&(match ps[i.toNat]? with
 | some q=>if t then q.Turns&&decide (¬q.W=q.H)&&decide (q.H=w)&&decide (q.W=h) else decide (q.W=w∧q.H=h)
 | none=>false)
def Vc (ps:List Pane):BT→Int→Int→Bool
 | .waste,_,_=>true
 | .pane i t,w,h=>Xt ps i t w h
 | .cut d a l r,w,h=>if d then decide (1≤a∧a≤w-1)&&Vc ps l a h&&Vc ps r (w-a) h
   else decide (1≤a∧a≤h-1)&&Vc ps l w a&&Vc ps r w (h-a)
def VPs (ps:List Pane):Prop:=∀ q∈ps,VP q
instance (ps:List Pane):Decidable (VPs ps):=by unfold VPs;infer_instance
def VW (k:Qs):Prop:=1≤k.W∧k.W≤200∧1≤k.H∧k.H≤200∧k.Panes.length≤24∧VPs k.Panes
instance (k:Qs):Decidable (VW k):=by unfold VW;infer_instance
theorem Zk2 {ps:List Pane} {k:Nat} {x:Pane} (hx:ps[k]?=some x):VPs (ps.drop k)↔VP x∧VPs (ps.drop (k+1)):=by
 obtain⟨h1,h2⟩:=Kd.1 hx;rw[K8 h1,h2];simp[VPs]
end Go.Abs.L
