/- Plans as trees. Own text. -/
import Derived.Test.YtpobhkoombldlaaGreatAbsLib
set_option linter.unusedVariables false
set_option linter.unusedSimpArgs false
namespace Go.Abs.L
open Go Go.Abs Go.Abs.E
inductive BT where
 | waste
 | pane (i:Int) (t:Bool)
 | cut (d:Bool) (a:Int) (l r:BT)
deriving DecidableEq,Inhabited
def QF (d:Bool):Int:=if d then 2 else 3
def BT.plan:BT→Zh
 | .waste=>.mk 0 0 0 false []
 | .pane i t=>.mk 1 0 i t []
 | .cut d a l r=>.mk (QF d) a 0 false [l.plan,r.plan]
def BT.cnt:BT→Nat
 | .waste=>1
 | .pane _ _=>1
 | .cut _ _ l r=>1+l.cnt+r.cnt
theorem BT.cnt_pos (b:BT):1≤b.cnt:=by cases b<;>simp[BT.cnt]<;>omega
def Zh.nodes:Zh→Nat
 | .mk _ _ _ _ ks=>1+nodesL ks
where nodesL:List Zh→Nat
 | []=>0
 | p :: r=>Zh.nodes p+nodesL r
def Zgf (o a p:Int) (t:Bool) (l r:Option BT):Option BT:=match l,r with
 | some x,some y=>if p=0∧t=false then some (.cut (decide (o=2)) a x y) else none
 | _,_=>none
mutual
def Y1:Zh→Option BT
 | .mk o a p t ks=>if o=2∨o=3 then Zvz o a p t ks else
   if ks.length=0∧a=0∧o=1 then some (.pane p t) else
   if ks.length=0∧a=0∧o=0∧p=0∧t=false then some .waste else none
def Zvz (o a p:Int) (t:Bool):List Zh→Option BT
 | []=>none
 | x :: r=>Zyd o a p t (Y1 x) r
def Zyd (o a p:Int) (t:Bool) (l:Option BT):List Zh→Option BT
 | []=>none
 | y :: r=>match r with
  | []=>Zgf o a p t l (Y1 y)
  | _=>none
end
theorem ZpO (o a p:Int) (t:Bool) (x y:Zh) (ho:o=2∨o=3):Y1 (.mk o a p t [x,y])=Zgf o a p t (Y1 x) (Y1 y):=by
 simp[Y1,Zvz,Zyd,ho]
theorem ZmQ (o a p:Int) (t:Bool) (ks:List Zh) (ho:o=2∨o=3) (hk:ks.length≠2):Y1 (.mk o a p t ks)=none:=by
 match ks,hk with
 | [],_=>simp[Y1,Zvz,ho]
 | [x],_=>simp[Y1,Zvz,Zyd,ho]
 | [x,y],h=>simp at h
 | x :: y :: z :: r,_=>simp[Y1,Zvz,Zyd,ho]
theorem ZmR:∀ b:BT,Y1 b.plan=some b
 | .waste=>by simp[BT.plan,Y1]
 | .pane i t=>by simp[BT.plan,Y1]
 | .cut d a l r=>by
  rw[BT.plan,ZpO _ _ _ _ _ _ (by cases d<;>simp[QF]),ZmR l,ZmR r]
  cases d<;>simp[Zgf,QF]
theorem Zgg:∀ (n:Nat) (p:Zh) (b:BT),p.nodes≤n→Y1 p=some b→p=b.plan
 | 0,.mk o a p t ks,b,hn,_=>by simp[Zh.nodes] at hn
 | n+1,.mk o a p t ks,b,hn,h=>by
  by_cases ho:o=2∨o=3
  ·by_cases hk:ks.length=2
   ·match ks,hk with
    | [x,y],_=>
     rw[ZpO _ _ _ _ _ _ ho] at h
     simp only[Zh.nodes,Zh.nodes.nodesL] at hn
     cases hx:Y1 x with
     | none=>simp[hx,Zgf] at h
     | some bx=>
      cases hy:Y1 y with
      | none=>simp[hx,hy,Zgf] at h
      | some bY=>
       have e1:=Zgg n x bx (by omega) hx
       have e2:=Zgg n y bY (by omega) hy
       simp only[hx,hy,Zgf] at h
       split at h
       ·rename_i hc
        cases h
        obtain⟨rfl,rfl⟩:=hc
        rw[BT.plan,← e1,← e2]
        rcases ho with rfl | rfl<;>rfl
       ·cases h
   ·rw[ZmQ _ _ _ _ _ ho hk] at h;cases h
  ·simp only[Y1,ho,if_false] at h
   split at h
   ·rename_i hc
    cases h
    obtain⟨h1,rfl,rfl⟩:=hc
    cases ks with
    | nil=>rfl
    | cons x r=>simp at h1
   ·split at h
    ·rename_i hc
     cases h
     obtain⟨h1,rfl,rfl,rfl,rfl⟩:=hc
     cases ks with
     | nil=>rfl
     | cons x r=>simp at h1
    ·cases h
theorem Zi6 {p:Zh} {b:BT} (h:Y1 p=some b):p=b.plan:=Zgg _ p b (Nat.le_refl _) h
theorem ZsR {o a p:Int} {t:Bool} {ks:List Zh} {x y:Zh} (ho:o=2∨o=3) (hk:ks.length=2) (h0:ks[0]?=some x) (h1:ks[1]?=some y):Y1 (.mk o a p t ks)=Zgf o a p t (Y1 x) (Y1 y):=by
 match ks,hk with
 | [x',y'],_=>
  simp at h0 h1
  subst h0;subst h1
  exact ZpO _ _ _ _ _ _ ho
theorem ZpP:∀ {ks:List Zh} {i:Nat} {x:Zh},ks[i]?=some x→x.nodes≤Zh.nodes.nodesL ks
 | [],i,x,h=>by simp at h
 | y :: ks,0,x,h=>by simp at h;subst h;simp[Zh.nodes.nodesL]
 | y :: ks,i+1,x,h=>by
  have:=ZpP (ks:=ks) (i:=i) (x:=x) (by simpa using h)
  simp only[Zh.nodes.nodesL];omega
theorem Zi7 {o a p:Int} {t:Bool} {ks:List Zh} {i:Nat} {x:Zh} {n:Nat} (hn:(Zh.mk o a p t ks).nodes≤n+1) (h:ks[i]?=some x):x.nodes≤n:=by
 have:=ZpP h
 simp only[Zh.nodes] at hn;omega
theorem Zh.enc_len (x:Zh):(Zh.enc x).cells.length=5:=by
 obtain⟨o,a,p,t,k⟩:=x;rw[Zh.enc_mk];rfl
theorem Zh.enc_agg (x:Zh):D.agg (Zh.enc x).cells=Zh.enc x:=by
 obtain⟨o,a,p,t,k⟩:=x;rw[Zh.enc_mk];rfl
theorem Zh.take_enc (x:Zh):(Zh.enc x).cells.take 5=(Zh.enc x).cells:=List.take_of_length_le (by rw[Zh.enc_len x];omega)
attribute [go_sem] Zh.enc_len Zh.enc_agg Zh.take_enc
theorem ZpQ {o a p:Int} {t:Bool} {ks:List Zh} (ho:¬(o=2∨o=3)):Y1 (.mk o a p t ks)=if ks.length=0∧a=0∧o=1 then some (.pane p t) else
   if ks.length=0∧a=0∧o=0∧p=0∧t=false then some .waste else none:=by
 simp only[Y1,ho,if_false]
def ZE (m:Int):Option BT→Int
 | some b=>if (b.cnt:Int)≤m then (b.cnt:Int) else -1
 | none=>-1
theorem Zdp (m:Int) (h0:0≤m) (b:Option BT) : -1≤ZE m b∧ZE m b≤m∧ZE m b≠0:=by
 cases b with
 | none=>simp[ZE];omega
 | some b=>
  have:=b.cnt_pos
  simp only[ZE]
  split<;>omega
theorem Vy (m:Int) (b:BT):((b.cnt:Int)≤m∧ZE m (some b)=b.cnt)∨(m<(b.cnt:Int)∧ZE m (some b)=-1):=by
 unfold ZE
 by_cases h:(b.cnt:Int)≤m
 ·left;exact⟨h,if_pos h⟩
 ·right;exact⟨by omega,if_neg h⟩
theorem Zgh (m o a p:Int) (t:Bool) (l r:Option BT) (h:¬(p=0∧t=false)):ZE m (Zgf o a p t l r)=-1:=by
 cases l with
 | none=>rfl
 | some x=>cases r with
  | none=>rfl
  | some y=>simp only[Zgf,if_neg h,ZE]
theorem Zw9 (m o a:Int) (l r:Option BT):ZE m (Zgf o a 0 false l r)=if ZE m l<0∨ZE m r<0∨m<1+ZE m l+ZE m r then -1 else 1+ZE m l+ZE m r:=by
 cases l with
 | none=>simp[Zgf,ZE]
 | some x=>cases r with
  | none=>simp[Zgf,ZE]
  | some y=>
   have h1:=x.cnt_pos
   have h2:=y.cnt_pos
   have e:(BT.cut (decide (o=2)) a x y).cnt=1+x.cnt+y.cnt:=rfl
   have e0:Zgf o a 0 false (some x) (some y)=some (BT.cut (decide (o=2)) a x y):=by simp[Zgf]
   rw[e0]
   have hx:=Vy m x
   have hy:=Vy m y
   have hc:=Vy m (BT.cut (decide (o=2)) a x y)
   rw[e] at hc
   generalize ZE m (some x)=sx at *
   generalize ZE m (some y)=sy at *
   generalize ZE m (some (BT.cut (decide (o=2)) a x y))=sc at *
   split<;>omega
theorem ZvA (m o a:Int) (l r:Option BT):ZE m (Zgf o a 0 false l r)=if ZE (m-1) l<0∨ZE (m-1-ZE (m-1) l) r<0 then -1 else 1+ZE (m-1) l+ZE (m-1-ZE (m-1) l) r:=by
 cases l with
 | none=>simp[Zgf,ZE]
 | some x=>cases r with
  | none=>simp[Zgf,ZE]
  | some y=>
   have h1:=x.cnt_pos
   have h2:=y.cnt_pos
   have e:(BT.cut (decide (o=2)) a x y).cnt=1+x.cnt+y.cnt:=rfl
   have e0:Zgf o a 0 false (some x) (some y)=some (BT.cut (decide (o=2)) a x y):=by simp[Zgf]
   rw[e0]
   have hx:=Vy (m-1) x
   have hy:=Vy (m-1-ZE (m-1) (some x)) y
   have hc:=Vy m (BT.cut (decide (o=2)) a x y)
   rw[e] at hc
   generalize ZE (m-1-ZE (m-1) (some x)) (some y)=sy at *
   generalize ZE (m-1) (some x)=sx at *
   generalize ZE m (some (BT.cut (decide (o=2)) a x y))=sc at *
   split<;>omega
theorem Zxa {m:Int} (h:m<1) (b:Option BT):ZE m b=-1:=by
 cases b with
 | none=>rfl
 | some b=>
  have:=b.cnt_pos
  have:=Vy m b
  omega
def YL (ps:List Pane) (i:Int) (t:Bool) (w h:Int):Bool:=decide (0≤i)&&(match ps[i.toNat]? with
 | some q=>if t then q.Turns&&decide (¬q.W=q.H)&&decide (q.H=w)&&decide (q.W=h) else decide (q.W=w∧q.H=h)
 | none=>false)
def YM (ps:List Pane):BT→Int→Int→Bool
 | .waste,_,_=>true
 | .pane i t,w,h=>YL ps i t w h
 | .cut d a l r,w,h=>if d then decide (1≤a∧a≤w-1)&&YM ps l a h&&YM ps r (w-a) h
   else decide (1≤a∧a≤h-1)&&YM ps l w a&&YM ps r w (h-a)
def VPs (ps:List Pane):Prop:=∀ q∈ps,VP q
instance (ps:List Pane):Decidable (VPs ps):=by unfold VPs;infer_instance
def VW (k:ZD):Prop:=1≤k.W∧k.W≤200∧1≤k.H∧k.H≤200∧k.Panes.length≤24∧VPs k.Panes
instance (k:ZD):Decidable (VW k):=by unfold VW;infer_instance
theorem ZvB {ps:List Pane} {k:Nat} {x:Pane} (hx:ps[k]?=some x):VPs (ps.drop k)↔VP x∧VPs (ps.drop (k+1)):=by
 obtain⟨h1,h2⟩:=List.getElem?_eq_some_iff.1 hx
 rw[List.drop_eq_getElem_cons h1,h2]
 simp[VPs]
end Go.Abs.L
