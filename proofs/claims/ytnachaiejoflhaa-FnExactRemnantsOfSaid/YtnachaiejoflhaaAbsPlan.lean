/- Own text. -/
import Derived.Test.YtnachaiejoflhaaAbsLib
set_option linter.unusedVariables false
set_option linter.unusedSimpArgs false
namespace Go.Abs.L
open Go Go.Abs Go.Abs.E
inductive BT where
 | waste
 | pane (i:Int) (t:Bool)
 | cut (d:Bool) (a:Int) (l r:BT)
deriving DecidableEq,Inhabited
def UJ (d:Bool):Int:=if d then 2 else 3
def BT.plan:BT→Ze
 | .waste=>.mk 0 0 0 false []
 | .pane i t=>.mk 1 0 i t []
 | .cut d a l r=>.mk (UJ d) a 0 false [l.plan,r.plan]
def BT.cnt:BT→Nat
 | .waste=>1
 | .pane _ _=>1
 | .cut _ _ l r=>1+l.cnt+r.cnt
theorem BT.cnt_pos (b:BT):1≤b.cnt:=by cases b<;>simp[BT.cnt]<;>omega
def Ze.nodes:Ze→Nat
 | .mk _ _ _ _ ks=>1+nodesL ks
where nodesL:List Ze→Nat
 | []=>0
 | p :: r=>Ze.nodes p+nodesL r
def ZaA (o a p:Int) (t:Bool) (l r:Option BT):Option BT:=match l,r with
 | some x,some y=>if p=0∧t=false then some (.cut (decide (o=2)) a x y) else none
 | _,_=>none
mutual
def Xd:Ze→Option BT
 | .mk o a p t ks=>if o=2∨o=3 then Zl5 o a p t ks else
   if ks.length=0∧a=0∧o=1 then some (.pane p t) else
   if ks.length=0∧a=0∧o=0∧p=0∧t=false then some .waste else none
def Zl5 (o a p:Int) (t:Bool):List Ze→Option BT
 | []=>none
 | x :: r=>ZoC o a p t (Xd x) r
def ZoC (o a p:Int) (t:Bool) (l:Option BT):List Ze→Option BT
 | []=>none
 | y :: r=>match r with
  | []=>ZaA o a p t l (Xd y)
  | _=>none
end
theorem Zhr (o a p:Int) (t:Bool) (x y:Ze) (ho:o=2∨o=3):Xd (.mk o a p t [x,y])=ZaA o a p t (Xd x) (Xd y):=by
 simp[Xd,Zl5,ZoC,ho]
theorem ZeV (o a p:Int) (t:Bool) (ks:List Ze) (ho:o=2∨o=3) (hk:ks.length≠2):Xd (.mk o a p t ks)=none:=by
 match ks,hk with
 | [],_=>simp[Xd,Zl5,ho]
 | [x],_=>simp[Xd,Zl5,ZoC,ho]
 | [x,y],h=>simp at h
 | x :: y :: z :: r,_=>simp[Xd,Zl5,ZoC,ho]
theorem ZjF:∀ b:BT,Xd b.plan=some b
 | .waste=>by simp[BT.plan,Xd]
 | .pane i t=>by simp[BT.plan,Xd]
 | .cut d a l r=>by
  rw[BT.plan,Zhr _ _ _ _ _ _ (by cases d<;>simp[UJ]),ZjF l,ZjF r];cases d<;>simp[ZaA,UJ]
theorem ZaB:∀ (n:Nat) (p:Ze) (b:BT),p.nodes≤n→Xd p=some b→p=b.plan
 | 0,.mk o a p t ks,b,hn,_=>by simp[Ze.nodes] at hn
 | n+1,.mk o a p t ks,b,hn,h=>by
  by_cases ho:o=2∨o=3
  ·by_cases hk:ks.length=2
   ·match ks,hk with
    | [x,y],_=>
     rw[Zhr _ _ _ _ _ _ ho] at h;simp only[Ze.nodes,Ze.nodes.nodesL] at hn;cases hx:Xd x with
     | none=>simp[hx,ZaA] at h
     | some bx=>
      cases hy:Xd y with
      | none=>simp[hx,hy,ZaA] at h
      | some bY=>
       have e1:=ZaB n x bx (by omega) hx;have e2:=ZaB n y bY (by omega) hy;simp only[hx,hy,ZaA] at h;split at h
       ·rename_i hc;cases h;obtain⟨rfl,rfl⟩:=hc;rw[BT.plan,← e1,← e2];rcases ho with rfl | rfl<;>rfl
       ·cases h
   ·rw[ZeV _ _ _ _ _ ho hk] at h;cases h
  ·simp only[Xd,ho,Ki] at h;split at h
   ·rename_i hc;cases h;obtain⟨h1,rfl,rfl⟩:=hc;cases ks with
    | nil=>rfl
    | cons x r=>simp at h1
   ·split at h
    ·rename_i hc;cases h;obtain⟨h1,rfl,rfl,rfl,rfl⟩:=hc;cases ks with
     | nil=>rfl
     | cons x r=>simp at h1
    ·cases h
theorem Zcv {p:Ze} {b:BT} (h:Xd p=some b):p=b.plan:=ZaB _ p b (Kf _) h
theorem ZjG {o a p:Int} {t:Bool} {ks:List Ze} {x y:Ze} (ho:o=2∨o=3) (hk:ks.length=2) (h0:ks[0]?=some x) (h1:ks[1]?=some y):Xd (.mk o a p t ks)=ZaA o a p t (Xd x) (Xd y):=by
 match ks,hk with
 | [x',y'],_=>
  simp at h0 h1;subst h0;subst h1;exact Zhr _ _ _ _ _ _ ho
theorem UK:∀ {ks:List Ze} {i:Nat} {x:Ze},ks[i]?=some x→x.nodes≤Ze.nodes.nodesL ks
 | [],i,x,h=>by simp at h
 | y :: ks,0,x,h=>by simp at h;subst h;simp[Ze.nodes.nodesL]
 | y :: ks,i+1,x,h=>by
  have:=UK (ks:=ks) (i:=i) (x:=x) (by simpa using h);simp only[Ze.nodes.nodesL];omega
theorem Wu {o a p:Int} {t:Bool} {ks:List Ze} {i:Nat} {x:Ze} {n:Nat} (hn:(Ze.mk o a p t ks).nodes≤n+1) (h:ks[i]?=some x):x.nodes≤n:=by
 have:=UK h;simp only[Ze.nodes] at hn;omega
theorem Ze.enc_len (x:Ze):(Ze.enc x).cells.length=5:=by
 obtain⟨o,a,p,t,k⟩:=x;rw[Ze.enc_mk];rfl
theorem Ze.enc_agg (x:Ze):D.agg (Ze.enc x).cells=Ze.enc x:=by
 obtain⟨o,a,p,t,k⟩:=x;rw[Ze.enc_mk];rfl
theorem Ze.take_enc (x:Ze):(Ze.enc x).cells.take 5=(Ze.enc x).cells:=List.take_of_length_le (by rw[Ze.enc_len x];omega)
attribute [go_sem] Ze.enc_len Ze.enc_agg Ze.take_enc
theorem Zhs {o a p:Int} {t:Bool} {ks:List Ze} (ho:¬(o=2∨o=3)):Xd (.mk o a p t ks)=if ks.length=0∧a=0∧o=1 then some (.pane p t) else
   if ks.length=0∧a=0∧o=0∧p=0∧t=false then some .waste else none:=by
 simp only[Xd,ho,Ki]
def Zm (m:Int):Option BT→Int
 | some b=>if (b.cnt:Int)≤m then (b.cnt:Int) else -1
 | none=>-1
theorem Uh (m:Int) (h0:0≤m) (b:Option BT) : -1≤Zm m b∧Zm m b≤m∧Zm m b≠0:=by
 cases b with
 | none=>simp[Zm];omega
 | some b=>
  have:=b.cnt_pos;simp only[Zm];split<;>omega
theorem Xl (m:Int) (b:BT):((b.cnt:Int)≤m∧Zm m (some b)=b.cnt)∨(m<(b.cnt:Int)∧Zm m (some b)=-1):=by
 unfold Zm;by_cases h:(b.cnt:Int)≤m
 ·left;exact⟨h,Kt h⟩
 ·right;exact⟨by omega,Ko h⟩
theorem ZaC (m o a p:Int) (t:Bool) (l r:Option BT) (h:¬(p=0∧t=false)):Zm m (ZaA o a p t l r)=-1:=by
 cases l with
 | none=>rfl
 | some x=>cases r with
  | none=>rfl
  | some y=>simp only[ZaA,Ko h,Zm]
theorem ZnB (m o a:Int) (l r:Option BT):Zm m (ZaA o a 0 false l r)=if Zm m l<0∨Zm m r<0∨m<1+Zm m l+Zm m r then -1 else 1+Zm m l+Zm m r:=by
 cases l with
 | none=>simp[ZaA,Zm]
 | some x=>cases r with
  | none=>simp[ZaA,Zm]
  | some y=>
   have h1:=x.cnt_pos;have h2:=y.cnt_pos;have e:(BT.cut (decide (o=2)) a x y).cnt=1+x.cnt+y.cnt:=rfl;have e0:ZaA o a 0 false (some x) (some y)=some (BT.cut (decide (o=2)) a x y):=by simp[ZaA]
   rw[e0];have hx:=Xl m x;have hy:=Xl m y;have hc:=Xl m (BT.cut (decide (o=2)) a x y);rw[e] at hc;generalize Zm m (some x)=sx at *;generalize Zm m (some y)=sy at *;generalize Zm m (some (BT.cut (decide (o=2)) a x y))=sc at *;split<;>omega
theorem Zl6 (m o a:Int) (l r:Option BT):Zm m (ZaA o a 0 false l r)=if Zm (m-1) l<0∨Zm (m-1-Zm (m-1) l) r<0 then -1 else 1+Zm (m-1) l+Zm (m-1-Zm (m-1) l) r:=by
 cases l with
 | none=>simp[ZaA,Zm]
 | some x=>cases r with
  | none=>simp[ZaA,Zm]
  | some y=>
   have h1:=x.cnt_pos;have h2:=y.cnt_pos;have e:(BT.cut (decide (o=2)) a x y).cnt=1+x.cnt+y.cnt:=rfl;have e0:ZaA o a 0 false (some x) (some y)=some (BT.cut (decide (o=2)) a x y):=by simp[ZaA]
   rw[e0];have hx:=Xl (m-1) x;have hy:=Xl (m-1-Zm (m-1) (some x)) y;have hc:=Xl m (BT.cut (decide (o=2)) a x y);rw[e] at hc;generalize Zm (m-1-Zm (m-1) (some x)) (some y)=sy at *;generalize Zm (m-1) (some x)=sx at *;generalize Zm m (some (BT.cut (decide (o=2)) a x y))=sc at *;split<;>omega
theorem ZnC {m:Int} (h:m<1) (b:Option BT):Zm m b=-1:=by
 cases b with
 | none=>rfl
 | some b=>
  have:=b.cnt_pos;have:=Xl m b;omega
def WR (ps:List Pane) (i:Int) (t:Bool) (w h:Int):Bool:=decide (0≤i)&&(match ps[i.toNat]? with
 | some q=>if t then q.Turns&&decide (¬q.W=q.H)&&decide (q.H=w)&&decide (q.W=h) else decide (q.W=w∧q.H=h)
 | none=>false)
def Xe (ps:List Pane):BT→Int→Int→Bool
 | .waste,_,_=>true
 | .pane i t,w,h=>WR ps i t w h
 | .cut d a l r,w,h=>if d then decide (1≤a∧a≤w-1)&&Xe ps l a h&&Xe ps r (w-a) h
   else decide (1≤a∧a≤h-1)&&Xe ps l w a&&Xe ps r w (h-a)
def VPs (ps:List Pane):Prop:=∀ q∈ps,VP q
instance (ps:List Pane):Decidable (VPs ps):=by unfold VPs;infer_instance
def VW (k:ZI):Prop:=1≤k.W∧k.W≤200∧1≤k.H∧k.H≤200∧k.Panes.length≤24∧VPs k.Panes
instance (k:ZI):Decidable (VW k):=by unfold VW;infer_instance
theorem Zl7 {ps:List Pane} {k:Nat} {x:Pane} (hx:ps[k]?=some x):VPs (ps.drop k)↔VP x∧VPs (ps.drop (k+1)):=by
 obtain⟨h1,h2⟩:=Kd.1 hx;rw[La h1,h2];simp[VPs]
end Go.Abs.L
