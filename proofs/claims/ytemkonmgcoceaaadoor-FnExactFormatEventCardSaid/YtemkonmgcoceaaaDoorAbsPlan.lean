/- Plans as trees. Own text. -/
import Derived.Test.YtemkonmgcoceaaaDoorAbsLib
set_option linter.unusedVariables false
set_option linter.unusedSimpArgs false
namespace Go.Abs.L
open Go Go.Abs Go.Abs.E
inductive BT where
 | waste
 | pane (i:Int) (t:Bool)
 | cut (d:Bool) (a:Int) (l r:BT)
deriving DecidableEq,Inhabited
def Zoj (d:Bool):Int:=if d then 2 else 3
def BT.plan:BT→Ze
 | .waste=>.mk 0 0 0 false []
 | .pane i t=>.mk 1 0 i t []
 | .cut d a l r=>.mk (Zoj d) a 0 false [l.plan,r.plan]
def BT.cnt:BT→Nat
 | .waste=>1
 | .pane _ _=>1
 | .cut _ _ l r=>1+l.cnt+r.cnt
theorem BT.cnt_pos (b:BT):1≤b.cnt:=by cases b<;>simp[BT.cnt]<;>omega
def Ze.nodes:Ze→Nat
 | .mk _ _ _ _ ks=>1+nodesL ks
where nodesL:List Ze→Nat
 | []=>0
 | p :: r=>Ze.nodes p+nodesL r
def ZaD (o a p:Int) (t:Bool) (l r:Option BT):Option BT:=match l,r with
 | some x,some y=>if p=0∧t=false then some (.cut (decide (o=2)) a x y) else none
 | _,_=>none
mutual
def QC:Ze→Option BT
 | .mk o a p t ks=>if o=2∨o=3 then Zk6 o a p t ks else
   if ks.length=0∧a=0∧o=1 then some (.pane p t) else
   if ks.length=0∧a=0∧o=0∧p=0∧t=false then some .waste else none
def Zk6 (o a p:Int) (t:Bool):List Ze→Option BT
 | []=>none
 | x :: r=>Znj o a p t (QC x) r
def Znj (o a p:Int) (t:Bool) (l:Option BT):List Ze→Option BT
 | []=>none
 | y :: r=>match r with
  | []=>ZaD o a p t l (QC y)
  | _=>none
end
theorem Zg1 (o a p:Int) (t:Bool) (x y:Ze) (ho:o=2∨o=3):QC (.mk o a p t [x,y])=ZaD o a p t (QC x) (QC y):=by
 simp[QC,Zk6,Znj,ho]
theorem Zev (o a p:Int) (t:Bool) (ks:List Ze) (ho:o=2∨o=3) (hk:ks.length≠2):QC (.mk o a p t ks)=none:=by
 match ks,hk with
 | [],_=>simp[QC,Zk6,ho]
 | [x],_=>simp[QC,Zk6,Znj,ho]
 | [x,y],h=>simp at h
 | x :: y :: z :: r,_=>simp[QC,Zk6,Znj,ho]
theorem Zew:∀ b:BT,QC b.plan=some b
 | .waste=>by simp[BT.plan,QC]
 | .pane i t=>by simp[BT.plan,QC]
 | .cut d a l r=>by
  rw[BT.plan,Zg1 _ _ _ _ _ _ (by cases d<;>simp[Zoj]),Zew l,Zew r]
  cases d<;>simp[ZaD,Zoj]
theorem ZaE:∀ (n:Nat) (p:Ze) (b:BT),p.nodes≤n→QC p=some b→p=b.plan
 | 0,.mk o a p t ks,b,hn,_=>by simp[Ze.nodes] at hn
 | n+1,.mk o a p t ks,b,hn,h=>by
  by_cases ho:o=2∨o=3
  ·by_cases hk:ks.length=2
   ·match ks,hk with
    | [x,y],_=>
     rw[Zg1 _ _ _ _ _ _ ho] at h
     simp only[Ze.nodes,Ze.nodes.nodesL] at hn
     cases hx:QC x with
     | none=>simp[hx,ZaD] at h
     | some bx=>
      cases hy:QC y with
      | none=>simp[hx,hy,ZaD] at h
      | some bY=>
       have e1:=ZaE n x bx (by omega) hx
       have e2:=ZaE n y bY (by omega) hy
       simp only[hx,hy,ZaD] at h
       split at h
       ·rename_i hc
        cases h
        obtain⟨rfl,rfl⟩:=hc
        rw[BT.plan,← e1,← e2]
        rcases ho with rfl | rfl<;>rfl
       ·cases h
   ·rw[Zev _ _ _ _ _ ho hk] at h;cases h
  ·simp only[QC,ho,if_false] at h
   split at h
   ·rename_i hc
    cases h
    obtain⟨h1,rfl,rfl⟩:=hc
    cases ks with
    | nil=>rfl
    | cons x r=>simp at h1
   ·split at h
    ·rename_i hc
     cases h
     obtain⟨h1,rfl,rfl,rfl,rfl⟩:=hc
     cases ks with
     | nil=>rfl
     | cons x r=>simp at h1
    ·cases h
theorem Zab {p:Ze} {b:BT} (h:QC p=some b):p=b.plan:=ZaE _ p b (Nat.le_refl _) h
theorem ZiG {o a p:Int} {t:Bool} {ks:List Ze} {x y:Ze} (ho:o=2∨o=3) (hk:ks.length=2) (h0:ks[0]?=some x) (h1:ks[1]?=some y):QC (.mk o a p t ks)=ZaD o a p t (QC x) (QC y):=by
 match ks,hk with
 | [x',y'],_=>
  simp at h0 h1
  subst h0;subst h1
  exact Zg1 _ _ _ _ _ _ ho
theorem ZaF:∀ {ks:List Ze} {i:Nat} {x:Ze},ks[i]?=some x→x.nodes≤Ze.nodes.nodesL ks
 | [],i,x,h=>by simp at h
 | y :: ks,0,x,h=>by simp at h;subst h;simp[Ze.nodes.nodesL]
 | y :: ks,i+1,x,h=>by
  have:=ZaF (ks:=ks) (i:=i) (x:=x) (by simpa using h)
  simp only[Ze.nodes.nodesL];omega
theorem Wp {o a p:Int} {t:Bool} {ks:List Ze} {i:Nat} {x:Ze} {n:Nat} (hn:(Ze.mk o a p t ks).nodes≤n+1) (h:ks[i]?=some x):x.nodes≤n:=by
 have:=ZaF h
 simp only[Ze.nodes] at hn;omega
theorem Ze.enc_len (x:Ze):(Ze.enc x).cells.length=5:=by
 obtain⟨o,a,p,t,k⟩:=x;rw[Ze.enc_mk];rfl
theorem Ze.enc_agg (x:Ze):D.agg (Ze.enc x).cells=Ze.enc x:=by
 obtain⟨o,a,p,t,k⟩:=x;rw[Ze.enc_mk];rfl
theorem Ze.take_enc (x:Ze):(Ze.enc x).cells.take 5=(Ze.enc x).cells:=List.take_of_length_le (by rw[Ze.enc_len x];omega)
attribute [go_sem] Ze.enc_len Ze.enc_agg Ze.take_enc
theorem Zg2 {o a p:Int} {t:Bool} {ks:List Ze} (ho:¬(o=2∨o=3)):QC (.mk o a p t ks)=if ks.length=0∧a=0∧o=1 then some (.pane p t) else
   if ks.length=0∧a=0∧o=0∧p=0∧t=false then some .waste else none:=by
 simp only[QC,ho,if_false]
def Zr (m:Int):Option BT→Int
 | some b=>if (b.cnt:Int)≤m then (b.cnt:Int) else -1
 | none=>-1
theorem Ui (m:Int) (h0:0≤m) (b:Option BT) : -1≤Zr m b∧Zr m b≤m∧Zr m b≠0:=by
 cases b with
 | none=>simp[Zr];omega
 | some b=>
  have:=b.cnt_pos
  simp only[Zr]
  split<;>omega
theorem Xe (m:Int) (b:BT):((b.cnt:Int)≤m∧Zr m (some b)=b.cnt)∨(m<(b.cnt:Int)∧Zr m (some b)=-1):=by
 unfold Zr
 by_cases h:(b.cnt:Int)≤m
 ·left;exact⟨h,if_pos h⟩
 ·right;exact⟨by omega,if_neg h⟩
theorem ZaG (m o a p:Int) (t:Bool) (l r:Option BT) (h:¬(p=0∧t=false)):Zr m (ZaD o a p t l r)=-1:=by
 cases l with
 | none=>rfl
 | some x=>cases r with
  | none=>rfl
  | some y=>simp only[ZaD,if_neg h,Zr]
theorem Zmp (m o a:Int) (l r:Option BT):Zr m (ZaD o a 0 false l r)=if Zr m l<0∨Zr m r<0∨m<1+Zr m l+Zr m r then -1 else 1+Zr m l+Zr m r:=by
 cases l with
 | none=>simp[ZaD,Zr]
 | some x=>cases r with
  | none=>simp[ZaD,Zr]
  | some y=>
   have h1:=x.cnt_pos
   have h2:=y.cnt_pos
   have e:(BT.cut (decide (o=2)) a x y).cnt=1+x.cnt+y.cnt:=rfl
   have e0:ZaD o a 0 false (some x) (some y)=some (BT.cut (decide (o=2)) a x y):=by simp[ZaD]
   rw[e0]
   have hx:=Xe m x
   have hy:=Xe m y
   have hc:=Xe m (BT.cut (decide (o=2)) a x y)
   rw[e] at hc
   generalize Zr m (some x)=sx at *
   generalize Zr m (some y)=sy at *
   generalize Zr m (some (BT.cut (decide (o=2)) a x y))=sc at *
   split<;>omega
theorem Zk7 (m o a:Int) (l r:Option BT):Zr m (ZaD o a 0 false l r)=if Zr (m-1) l<0∨Zr (m-1-Zr (m-1) l) r<0 then -1 else 1+Zr (m-1) l+Zr (m-1-Zr (m-1) l) r:=by
 cases l with
 | none=>simp[ZaD,Zr]
 | some x=>cases r with
  | none=>simp[ZaD,Zr]
  | some y=>
   have h1:=x.cnt_pos
   have h2:=y.cnt_pos
   have e:(BT.cut (decide (o=2)) a x y).cnt=1+x.cnt+y.cnt:=rfl
   have e0:ZaD o a 0 false (some x) (some y)=some (BT.cut (decide (o=2)) a x y):=by simp[ZaD]
   rw[e0]
   have hx:=Xe (m-1) x
   have hy:=Xe (m-1-Zr (m-1) (some x)) y
   have hc:=Xe m (BT.cut (decide (o=2)) a x y)
   rw[e] at hc
   generalize Zr (m-1-Zr (m-1) (some x)) (some y)=sy at *
   generalize Zr (m-1) (some x)=sx at *
   generalize Zr m (some (BT.cut (decide (o=2)) a x y))=sc at *
   split<;>omega
theorem Zmq {m:Int} (h:m<1) (b:Option BT):Zr m b=-1:=by
 cases b with
 | none=>rfl
 | some b=>
  have:=b.cnt_pos
  have:=Xe m b
  omega
def Zk8 (ps:List Pane) (i:Int) (t:Bool) (w h:Int):Bool:=decide (0≤i)&&(match ps[i.toNat]? with
 | some q=>if t then q.Turns&&decide (¬q.W=q.H)&&decide (q.H=w)&&decide (q.W=h) else decide (q.W=w∧q.H=h)
 | none=>false)
def ZaH (ps:List Pane):BT→Int→Int→Bool
 | .waste,_,_=>true
 | .pane i t,w,h=>Zk8 ps i t w h
 | .cut d a l r,w,h=>if d then decide (1≤a∧a≤w-1)&&ZaH ps l a h&&ZaH ps r (w-a) h
   else decide (1≤a∧a≤h-1)&&ZaH ps l w a&&ZaH ps r w (h-a)
def VPs (ps:List Pane):Prop:=∀ q∈ps,VP q
instance (ps:List Pane):Decidable (VPs ps):=by unfold VPs;infer_instance
def VW (k:Ue):Prop:=1≤k.W∧k.W≤200∧1≤k.H∧k.H≤200∧k.Panes.length≤24∧VPs k.Panes
instance (k:Ue):Decidable (VW k):=by unfold VW;infer_instance
theorem VPs_drop {ps:List Pane} {k:Nat} {x:Pane} (hx:ps[k]?=some x):VPs (ps.drop k)↔VP x∧VPs (ps.drop (k+1)):=by
 obtain⟨h1,h2⟩:=List.getElem?_eq_some_iff.1 hx
 rw[List.drop_eq_getElem_cons h1,h2]
 simp[VPs]
end Go.Abs.L
