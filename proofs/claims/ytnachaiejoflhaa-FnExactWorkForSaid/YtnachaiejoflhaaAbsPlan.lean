/- Own text. -/
import Derived.Test.YtnachaiejoflhaaAbsLib
set_option linter.unusedVariables false
set_option linter.unusedSimpArgs false
namespace Go.Abs.L
open Go Go.Abs Go.Abs.E
inductive BT where
 | waste
 | pane (i:Int) (t:Bool)
 | cut (d:Bool) (a:Int) (l r:BT)
deriving DecidableEq,Inhabited
def opOf (d:Bool):Int:=if d then 2 else 3
def BT.plan:BT→ZA
 | .waste=>.mk 0 0 0 false []
 | .pane i t=>.mk 1 0 i t []
 | .cut d a l r=>.mk (opOf d) a 0 false [l.plan,r.plan]
def BT.cnt:BT→Nat
 | .waste=>1
 | .pane _ _=>1
 | .cut _ _ l r=>1+l.cnt+r.cnt
theorem BT.cnt_pos (b:BT):1≤b.cnt:=by cases b<;>simp[BT.cnt]<;>omega
def ZA.nodes:ZA→Nat
 | .mk _ _ _ _ ks=>1+nodesL ks
where nodesL:List ZA→Nat
 | []=>0
 | p :: r=>ZA.nodes p+nodesL r
def J2 (o a p:Int) (t:Bool) (l r:Option BT):Option BT:=match l,r with
 | some x,some y=>if p=0∧t=false then some (.cut (decide (o=2)) a x y) else none
 | _,_=>none
mutual
def Wl:ZA→Option BT
 | .mk o a p t ks=>if o=2∨o=3 then ZlB o a p t ks else
   if ks.length=0∧a=0∧o=1 then some (.pane p t) else
   if ks.length=0∧a=0∧o=0∧p=0∧t=false then some .waste else none
def ZlB (o a p:Int) (t:Bool):List ZA→Option BT
 | []=>none
 | x :: r=>Znx o a p t (Wl x) r
def Znx (o a p:Int) (t:Bool) (l:Option BT):List ZA→Option BT
 | []=>none
 | y :: r=>match r with
  | []=>J2 o a p t l (Wl y)
  | _=>none
end
theorem ZgX (o a p:Int) (t:Bool) (x y:ZA) (ho:o=2∨o=3):Wl (.mk o a p t [x,y])=J2 o a p t (Wl x) (Wl y):=by
 simp[Wl,ZlB,Znx,ho]
theorem Zov (o a p:Int) (t:Bool) (ks:List ZA) (ho:o=2∨o=3) (hk:ks.length≠2):Wl (.mk o a p t ks)=none:=by
 match ks,hk with
 | [],_=>simp[Wl,ZlB,ho]
 | [x],_=>simp[Wl,ZlB,Znx,ho]
 | [x,y],h=>simp at h
 | x :: y :: z :: r,_=>simp[Wl,ZlB,Znx,ho]
theorem ZiK:∀ b:BT,Wl b.plan=some b
 | .waste=>by simp[BT.plan,Wl]
 | .pane i t=>by simp[BT.plan,Wl]
 | .cut d a l r=>by
  rw[BT.plan,ZgX _ _ _ _ _ _ (by cases d<;>simp[opOf]),ZiK l,ZiK r];cases d<;>simp[J2,opOf]
theorem J3:∀ (n:Nat) (p:ZA) (b:BT),p.nodes≤n→Wl p=some b→p=b.plan
 | 0,.mk o a p t ks,b,hn,_=>by simp[ZA.nodes] at hn
 | n+1,.mk o a p t ks,b,hn,h=>by
  by_cases ho:o=2∨o=3
  ·by_cases hk:ks.length=2
   ·match ks,hk with
    | [x,y],_=>
     rw[ZgX _ _ _ _ _ _ ho] at h;simp only[ZA.nodes,ZA.nodes.nodesL] at hn;cases hx:Wl x with
     | none=>simp[hx,J2] at h
     | some bx=>
      cases hy:Wl y with
      | none=>simp[hx,hy,J2] at h
      | some bY=>
       have e1:=J3 n x bx (by omega) hx;have e2:=J3 n y bY (by omega) hy;simp only[hx,hy,J2] at h;split at h
       ·rename_i hc;cases h;obtain⟨rfl,rfl⟩:=hc;rw[BT.plan,← e1,← e2];rcases ho with rfl | rfl<;>rfl
       ·cases h
   ·rw[Zov _ _ _ _ _ ho hk] at h;cases h
  ·simp only[Wl,ho,Kh] at h;split at h
   ·rename_i hc;cases h;obtain⟨h1,rfl,rfl⟩:=hc;cases ks with
    | nil=>rfl
    | cons x r=>simp at h1
   ·split at h
    ·rename_i hc;cases h;obtain⟨h1,rfl,rfl,rfl,rfl⟩:=hc;cases ks with
     | nil=>rfl
     | cons x r=>simp at h1
    ·cases h
theorem Zow {p:ZA} {b:BT} (h:Wl p=some b):p=b.plan:=J3 _ p b (Kf _) h
theorem toBT_two' {o a p:Int} {t:Bool} {ks:List ZA} {x y:ZA} (ho:o=2∨o=3) (hk:ks.length=2) (h0:ks[0]?=some x) (h1:ks[1]?=some y):Wl (.mk o a p t ks)=J2 o a p t (Wl x) (Wl y):=by
 match ks,hk with
 | [x',y'],_=>
  simp at h0 h1;subst h0;subst h1;exact ZgX _ _ _ _ _ _ ho
theorem ZgY:∀ {ks:List ZA} {i:Nat} {x:ZA},ks[i]?=some x→x.nodes≤ZA.nodes.nodesL ks
 | [],i,x,h=>by simp at h
 | y :: ks,0,x,h=>by simp at h;subst h;simp[ZA.nodes.nodesL]
 | y :: ks,i+1,x,h=>by
  have:=ZgY (ks:=ks) (i:=i) (x:=x) (by simpa using h);simp only[ZA.nodes.nodesL];omega
theorem nodes_get {o a p:Int} {t:Bool} {ks:List ZA} {i:Nat} {x:ZA} {n:Nat} (hn:(ZA.mk o a p t ks).nodes≤n+1) (h:ks[i]?=some x):x.nodes≤n:=by
 have:=ZgY h;simp only[ZA.nodes] at hn;omega
theorem ZA.enc_len (x:ZA):(ZA.enc x).cells.length=5:=by
 obtain⟨o,a,p,t,k⟩:=x;rw[ZA.enc_mk];rfl
theorem ZA.enc_agg (x:ZA):D.agg (ZA.enc x).cells=ZA.enc x:=by
 obtain⟨o,a,p,t,k⟩:=x;rw[ZA.enc_mk];rfl
theorem ZA.take_enc (x:ZA):(ZA.enc x).cells.take 5=(ZA.enc x).cells:=Le (by rw[ZA.enc_len x];omega)
attribute [go_sem] ZA.enc_len ZA.enc_agg ZA.take_enc
theorem Zst {o a p:Int} {t:Bool} {ks:List ZA} (ho:¬(o=2∨o=3)):Wl (.mk o a p t ks)=if ks.length=0∧a=0∧o=1 then some (.pane p t) else
   if ks.length=0∧a=0∧o=0∧p=0∧t=false then some .waste else none:=by
 simp only[Wl,ho,Kh]
def ZV (m:Int):Option BT→Int
 | some b=>if (b.cnt:Int)≤m then (b.cnt:Int) else -1
 | none=>-1
theorem Zq5 (m:Int) (h0:0≤m) (b:Option BT) : -1≤ZV m b∧ZV m b≤m∧ZV m b≠0:=by
 cases b with
 | none=>simp[ZV];omega
 | some b=>
  have:=b.cnt_pos;simp only[ZV];split<;>omega
theorem X5 (m:Int) (b:BT):((b.cnt:Int)≤m∧ZV m (some b)=b.cnt)∨(m<(b.cnt:Int)∧ZV m (some b)=-1):=by
 unfold ZV;by_cases h:(b.cnt:Int)≤m
 ·left;exact⟨h,Kw h⟩
 ·right;exact⟨by omega,Ko h⟩
theorem Zsu (m o a p:Int) (t:Bool) (l r:Option BT) (h:¬(p=0∧t=false)):ZV m (J2 o a p t l r)=-1:=by
 cases l with
 | none=>rfl
 | some x=>cases r with
  | none=>rfl
  | some y=>simp only[J2,Ko h,ZV]
theorem Zsv (m o a:Int) (l r:Option BT):ZV m (J2 o a 0 false l r)=if ZV m l<0∨ZV m r<0∨m<1+ZV m l+ZV m r then -1 else 1+ZV m l+ZV m r:=by
 cases l with
 | none=>simp[J2,ZV]
 | some x=>cases r with
  | none=>simp[J2,ZV]
  | some y=>
   have h1:=x.cnt_pos;have h2:=y.cnt_pos;have e:(BT.cut (decide (o=2)) a x y).cnt=1+x.cnt+y.cnt:=rfl;have e0:J2 o a 0 false (some x) (some y)=some (BT.cut (decide (o=2)) a x y):=by simp[J2]
   rw[e0];have hx:=X5 m x;have hy:=X5 m y;have hc:=X5 m (BT.cut (decide (o=2)) a x y);rw[e] at hc;generalize ZV m (some x)=sx at *;generalize ZV m (some y)=sy at *;generalize ZV m (some (BT.cut (decide (o=2)) a x y))=sc at *;split<;>omega
theorem ZrL (m o a:Int) (l r:Option BT):ZV m (J2 o a 0 false l r)=if ZV (m-1) l<0∨ZV (m-1-ZV (m-1) l) r<0 then -1 else 1+ZV (m-1) l+ZV (m-1-ZV (m-1) l) r:=by
 cases l with
 | none=>simp[J2,ZV]
 | some x=>cases r with
  | none=>simp[J2,ZV]
  | some y=>
   have h1:=x.cnt_pos;have h2:=y.cnt_pos;have e:(BT.cut (decide (o=2)) a x y).cnt=1+x.cnt+y.cnt:=rfl;have e0:J2 o a 0 false (some x) (some y)=some (BT.cut (decide (o=2)) a x y):=by simp[J2]
   rw[e0];have hx:=X5 (m-1) x;have hy:=X5 (m-1-ZV (m-1) (some x)) y;have hc:=X5 m (BT.cut (decide (o=2)) a x y);rw[e] at hc;generalize ZV (m-1-ZV (m-1) (some x)) (some y)=sy at *;generalize ZV (m-1) (some x)=sx at *;generalize ZV m (some (BT.cut (decide (o=2)) a x y))=sc at *;split<;>omega
theorem Zsw {m:Int} (h:m<1) (b:Option BT):ZV m b=-1:=by
 cases b with
 | none=>rfl
 | some b=>
  have:=b.cnt_pos;have:=X5 m b;omega
def ZlC (ps:List Pane) (i:Int) (t:Bool) (w h:Int):Bool:=decide (0≤i)&&(match ps[i.toNat]? with
 | some q=>if t then q.Turns&&decide (¬q.W=q.H)&&decide (q.H=w)&&decide (q.W=h) else decide (q.W=w∧q.H=h)
 | none=>false)
def J4 (ps:List Pane):BT→Int→Int→Bool
 | .waste,_,_=>true
 | .pane i t,w,h=>ZlC ps i t w h
 | .cut d a l r,w,h=>if d then decide (1≤a∧a≤w-1)&&J4 ps l a h&&J4 ps r (w-a) h
   else decide (1≤a∧a≤h-1)&&J4 ps l w a&&J4 ps r w (h-a)
def VPs (ps:List Pane):Prop:=∀ q∈ps,VP q
instance (ps:List Pane):Decidable (VPs ps):=by unfold VPs;infer_instance
def VW (k:VS):Prop:=1≤k.W∧k.W≤200∧1≤k.H∧k.H≤200∧k.Panes.length≤24∧VPs k.Panes
instance (k:VS):Decidable (VW k):=by unfold VW;infer_instance
theorem VPs_drop {ps:List Pane} {k:Nat} {x:Pane} (hx:ps[k]?=some x):VPs (ps.drop k)↔VP x∧VPs (ps.drop (k+1)):=by
 obtain⟨h1,h2⟩:=Kc.1 hx;rw[KI h1,h2];simp[VPs]
end Go.Abs.L
