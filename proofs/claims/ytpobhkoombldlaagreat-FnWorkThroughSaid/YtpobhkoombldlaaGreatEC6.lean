/- Contracts of the functions,by the abstract semantics. -/
import Derived.Test.YtpobhkoombldlaaGreatECode
import Derived.Test.YtpobhkoombldlaaGreatAbsParts
import Derived.Test.YtpobhkoombldlaaGreatEC5
namespace Go.Proofs.YtpobhkoombldlaaGreat
open Go Go.Abs Go.Abs.E Go.Abs.L
open Nat (reduceMul reduceSub reduceLeDiff reduceEqDiff)
open Int (reduceLE reduceEq reduceToNat reduceNeg)
set_option linter.unusedSimpArgs false
set_option linter.unusedVariables false
set_option maxRecDepth 20000
set_option maxHeartbeats 4000000
def loP (d:Bool) (b:Box):Int:=if d then b.X else b.Y
def hiP (d:Bool) (b:Box):Int:=if d then b.X+b.W else b.Y+b.H
def tch (d:Bool) (l:List L.Place) (t:Int):Bool:=l.any fun c=>decide (t=loP d c.Box∨t=hiP d c.Box)
def crs (d:Bool) (l:List L.Place) (t:Int):Bool:=l.any fun c=>decide (loP d c.Box<t∧t<hiP d c.Box)
def UP (d:Bool) (l:List L.Place) (fr:Int):Nat→List Int
 | 0=>[]
 | n+1=>UP d l fr n++(if tch d l (fr+1+n)=true then [fr+1+(n:Int)] else [])
def ZfF (d:Bool) (l:List L.Place) (fr:Int):Nat→Option Int
 | 0=>none
 | n+1=>match ZfF d l fr n with
  | some x=>some x
  | none=>if tch d l (fr+1+n)=true∧crs d l (fr+1+n)=false then some (fr+1+(n:Int)) else none
def YW (d:Bool) (l:List L.Place) (t:Int) (f:Bool):List L.Place:=l.filter fun c=>f==decide (hiP d c.Box≤t)
theorem Zv4 {d:Bool} {l:List L.Place} {t:Int} {k:Nat} {c:L.Place} (hx:l[k]?=some c):tch d (l.take (k+1)) t=(tch d (l.take k) t || decide (t=loP d c.Box∨t=hiP d c.Box)):=by
 unfold tch;rw[List.take_add_one,hx,List.any_append];simp
theorem Zv5 {d:Bool} {l:List L.Place} {t:Int} {k:Nat} {c:L.Place} (hx:l[k]?=some c):crs d (l.take (k+1)) t=(crs d (l.take k) t || decide (loP d c.Box<t∧t<hiP d c.Box)):=by
 unfold crs;rw[List.take_add_one,hx,List.any_append];simp
theorem Zk4 {d:Bool} {l:List L.Place} {t:Int} {f:Bool} {k:Nat} {c:L.Place} (hx:l[k]?=some c):YW d (l.take (k+1)) t f=YW d (l.take k) t f++(if f=decide (hiP d c.Box≤t) then [c] else []):=by
 unfold YW
 rw[List.take_add_one,hx,List.filter_append]
 by_cases h:f=decide (hiP d c.Box≤t)
 ·simp[h]
 ·rw[if_neg h]
  have:(f==decide (hiP d c.Box≤t))=false:=by simpa using h
  simp[this]
theorem Zmb {d:Bool} {l:List L.Place} {fr:Int}:∀ {n:Nat} {x:Int},x∈UP d l fr n→fr<x∧x<fr+1+n
 | 0,x,h=>by simp[UP] at h
 | n+1,x,h=>by
  unfold UP at h
  rcases List.mem_append.1 h with h | h
  ·have:=Zmb h;omega
  ·split at h
   ·simp at h;omega
   ·simp at h
theorem Zji {d:Bool} {l:List L.Place} {fr:Int}:∀ (n:Nat),(UP d l fr n).length≤n
 | 0=>by simp[UP]
 | n+1=>by
  have:=Zji (d:=d) (l:=l) (fr:=fr) n
  unfold UP
  split<;>simp<;>omega
theorem Zk5 {d:Bool} {l:List L.Place} {fr:Int}:∀ (n:Nat),(UP d l fr n).find? (fun x=>!crs d l x)=ZfF d l fr n
 | 0=>rfl
 | n+1=>by
  unfold UP ZfF
  rw[List.find?_append,Zk5 n]
  cases hc:ZfF d l fr n with
  | some x=>rfl
  | none=>
   by_cases ht:tch d l (fr+1+n)=true
   ·rw[if_pos ht]
    by_cases hx:crs d l (fr+1+n)=false
    ·rw[if_pos ⟨ht,hx⟩];simp[hx]
    ·rw[if_neg (fun h=>hx h.2)];simp only[Bool.not_eq_false] at hx;simp[hx]
   ·rw[if_neg ht,if_neg (fun h=>ht h.1)];rfl
theorem ZfG {d:Bool} {l:List L.Place} {fr:Int}:∀ {n:Nat} {x:Int},ZfF d l fr n=some x→fr<x∧x<fr+1+n∧crs d l x=false∧tch d l x=true
 | 0,x,h=>by simp[ZfF] at h
 | n+1,x,h=>by
  unfold ZfF at h
  split at h
  ·rename_i y hy
   cases h
   have:=ZfG hy
   exact⟨this.1,by omega,this.2.2⟩
  ·split at h
   ·rename_i hc
    cases h
    exact⟨by omega,by omega,hc.2,hc.1⟩
   ·cases h
theorem ZjM:∀ (l:List Int) (k:Nat) (n:Int),n∉l→Yh k l n=-1
 | [],_,_,_=>rfl
 | x :: l,k,n,h=>by
  simp only[List.mem_cons,not_or] at h
  unfold Yh
  rw[if_neg (fun e=>h.1 e.symm),ZjM l (k+1) n h.2]
theorem ZjN:∀ (l:List Int) (k:Nat) (n:Int),n∈l→0≤Yh k l n
 | [],_,_,h=>by simp at h
 | x :: l,k,n,h=>by
  unfold Yh
  split
  ·omega
  ·rename_i hne
   rcases List.mem_cons.1 h with rfl | h
   ·exact absurd rfl hne
   ·exact ZjN l (k+1) n h
def Zc5 (d:Bool) (b:Box) (a:Int):Box:=if d then ⟨b.X,b.Y,a,b.H⟩ else ⟨b.X,b.Y,b.W,a⟩
def J3 (d:Bool) (b:Box) (a:Int):Box:=if d then ⟨b.X+a,b.Y,b.W-a,b.H⟩ else ⟨b.X,b.Y+a,b.W,b.H-a⟩
def ZgL (d:Bool) (a:Int):Option BT→Option BT→Option BT
 | some p,some q=>some (.cut d a p q)
 | _,_=>none
def Zeh (l:List L.Place) (b:Box):Option (Bool×Int):=match ZfF true l b.X (b.W-1).toNat with
 | some x=>some (true,x)
 | none=>match ZfF false l b.Y (b.H-1).toNat with
  | some y=>some (false,y)
  | none=>none
def Wi:Nat→List L.Place→Box→Option BT
 | 0,_,_=>none
 | n+1,l,b=>match l with
  | []=>some .waste
  | c :: r=>if r=[]∧c.Box=b then some (.pane c.Pane c.Turned) else match Zeh (c :: r) b with
   | some (d,x)=>ZgL d (x-loP d b) (Wi n (YW d (c :: r) x true) (Zc5 d b (x-loP d b))) (Wi n (YW d (c :: r) x false) (J3 d b (x-loP d b)))
   | none=>none
def InL (l:List L.Place) (b:Box):Prop:=∀ c∈l,VB c.Box∧QP c.Box b
theorem Zgz {l:List L.Place} {b:Box} {d:Bool} {x:Int} (h:Zeh l b=some (d,x)):loP d b<x∧x<hiP d b∧crs d l x=false:=by
 unfold Zeh at h
 split at h
 ·rename_i y hy
  cases h
  have:=ZfG hy
  exact⟨this.1,by simp only[hiP,if_true];omega,this.2.2.1⟩
 ·split at h
  ·rename_i y hy
   cases h
   have:=ZfG hy
   exact⟨this.1,by simp only[hiP,Bool.false_eq_true,if_false];omega,this.2.2.1⟩
  ·cases h
theorem Zyo {d:Bool} {l:List L.Place} {x:Int} (h:crs d l x=false):∀ c∈l,hiP d c.Box≤x∨x≤loP d c.Box:=fun c hc=>by
 have:=List.any_eq_false.1 h c hc
 simp only[decide_eq_true_eq] at this
 omega
theorem Zo2 {l:List L.Place} {b:Box} {d:Bool} {x:Int} (hb:VB b) (h:InL l b) (hx:loP d b<x∧x<hiP d b) (hc:crs d l x=false) :
  (VB (Zc5 d b (x-loP d b))∧InL (YW d l x true) (Zc5 d b (x-loP d b)))∧VB (J3 d b (x-loP d b))∧InL (YW d l x false) (J3 d b (x-loP d b)):=by
 have hn:=Zyo hc
 cases d
 ·simp only[loP,hiP,Zc5,J3,Bool.false_eq_true,if_false] at hx hn ⊢
  simp only[VB] at hb
  refine⟨⟨by simp only[VB];omega,fun c hm=>?_⟩,by simp only[VB];omega,fun c hm=>?_⟩
  ·obtain⟨h1,h2⟩:=List.mem_filter.1 hm
   have h3:=h c h1
   simp only[hiP,Bool.false_eq_true,if_false,beq_iff_eq] at h2
   have h4:=of_decide_eq_true h2.symm
   simp only[QP] at h3 ⊢
   exact⟨h3.1,by omega⟩
  ·obtain⟨h1,h2⟩:=List.mem_filter.1 hm
   have h3:=h c h1
   have h5:=hn c h1
   simp only[hiP,Bool.false_eq_true,if_false,beq_iff_eq] at h2
   have h4:=of_decide_eq_false h2.symm
   simp only[QP] at h3 ⊢
   exact⟨h3.1,by omega⟩
 ·simp only[loP,hiP,Zc5,J3,if_true] at hx hn ⊢
  simp only[VB] at hb
  refine⟨⟨by simp only[VB];omega,fun c hm=>?_⟩,by simp only[VB];omega,fun c hm=>?_⟩
  ·obtain⟨h1,h2⟩:=List.mem_filter.1 hm
   have h3:=h c h1
   simp only[hiP,if_true,beq_iff_eq] at h2
   have h4:=of_decide_eq_true h2.symm
   simp only[QP] at h3 ⊢
   exact⟨h3.1,by omega⟩
  ·obtain⟨h1,h2⟩:=List.mem_filter.1 hm
   have h3:=h c h1
   have h5:=hn c h1
   simp only[hiP,if_true,beq_iff_eq] at h2
   have h4:=of_decide_eq_false h2.symm
   simp only[QP] at h3 ⊢
   exact⟨h3.1,by omega⟩
def plV:Option BT→AV×List Zt
 | some b=>match b.plan with
  | .mk o a q t ks=>(.tup [.agg [(.d (J o)),(.d (J a)),(.d (J q)),(.d (.bool t)),.own 0],(.d (.bool true))],[.row 5 (ks.map Zh.enc) true false])
 | none=>(.tup [.agg [(.d (J 0)),(.d (J 0)),(.d (J 0)),(.d (.bool false)),.own 0],(.d (.bool false))],[.row 5 [] true false])
theorem Zn1 (l:List L.Place) (d:Bool) (fr to:Int) (hl:l.length≤1000) (hc:∀ c∈l,VB c.Box) (h0:0≤fr) (h1:fr<to) (h2:to≤1000):Zg Xs Ms Zcc [(.d (.sl (l.map Place.enc))),(.d (J (QF d))),(.d (J fr)),(.d (J to))] []=some (.own 0,[.row 1 ((UP d l fr (to-fr-1).toNat).map ZbI) true false]):=by
 have w0:=wi (fr+1) (by omega) (by omega)
 refine Zd Xs Ms Zcg Ztu (by show 4≤_;decide) ?_
 simp +contextual -implicitDefEqProofs (maxSteps:=10^7) only[go_sem,seval,↓gZ,Zcg,w0]
 refine Zr Xs Ms (st0:=?st0) (α:=Nat) (fun n=>[(10,.d (J (fr+1+(n:Int))))]) (fun n=>[(0,.row 1 ((UP d l fr n).map ZbI) true false)]) (fun n=>(n:Int)≤to-fr-1) (fun n=>(to-fr-1).toNat-n) 0 ?hc (by omega) ?h0 ?step
 case hc=>simp +contextual -implicitDefEqProofs (maxSteps:=10^7) only[go_sem,seval,↓gZ]<;>exact rfl
 case h0=>simp only[UP,List.map_nil,Int.natCast_zero,Int.add_zero];rfl
 case step=>
  intro n hn ih
  by_cases hlt:fr+1+(n:Int)<to
  ·have wt:=wi (fr+1+(n:Int)+1) (by omega) (by omega)
   have hel:=Zji (d:=d) (l:=l) (fr:=fr) n
   have hno:fr+1+(n:Int)∉UP d l fr n:=fun h=>by have:=Zmb h;omega
   have hwn:fr+1+((n+1:Nat):Int)=fr+1+(n:Int)+1:=by omega
   have hsucc:UP d l fr (n+1)=UP d l fr n++(if tch d l (fr+1+n)=true then [fr+1+(n:Int)] else []):=rfl
   generalize ht:fr+1+(n:Int)=t at *
   simp +contextual -implicitDefEqProofs (maxSteps:=10^7) only[go_sem,seval,↓gZ,hlt]
   refine Zr Xs Ms (st0:=?st1) (α:=Nat) (fun i=>[(11,.d (J (i:Int)))]) (fun i=>[(0,.row 1 ((UP d l fr n++(if tch d (l.take i) t=true then [t] else [])).map ZbI) true false)]) (fun i=>i≤l.length) (fun i=>l.length-i) 0 ?hc2 (by omega) ?h02 ?step2
   case hc2=>simp +contextual -implicitDefEqProofs (maxSteps:=10^7) only[go_sem,seval,↓gZ]<;>exact rfl
   case h02=>
    have e:tch d (l.take 0) t=false:=by simp[tch]
    simp only[e,Bool.false_eq_true,if_false,List.append_nil]
    rfl
   case step2=>
    intro i hi ih2
    by_cases hil:i<l.length
    ·obtain⟨c,hx⟩:=Zp hil
     have hw:=Zl (k:=i) (by omega)
     have htk:=Zv4 (d:=d) (t:=t) hx
     have hcb:=hc c (List.mem_of_getElem? hx)
     obtain⟨P,T,⟨X,Y,W,H⟩⟩:=c
     simp only[VB] at hcb
     simp only[loP,hiP] at htk
     have wx:=wi (X+W) (by omega) (by omega)
     have wy:=wi (Y+H) (by omega) (by omega)
     have epl:=ZlU (UP d l fr n++(if tch d (l.take i) t=true then [t] else [])) t (by split<;>simp<;>omega)
     by_cases hb:tch d (l.take i) t=true
     ·rw[if_pos hb] at epl ⊢
      have hyes:=ZjN (UP d l fr n++[t]) 0 t (by simp)
      generalize Yh 0 (UP d l fr n++[t]) t=z at epl hyes
      have hz:¬z<0:=by omega
      rw[hb,Bool.true_or] at htk
      cases d with
      | true=>
       by_cases hm:t=X∨t=X+W
       ·simp +contextual -implicitDefEqProofs (maxSteps:=10^7) only[go_sem,seval,↓gZ,hx,hil,hw,wx,wy,QF,hm,epl,hz,← Bool.decide_or]
        refine ih2 (i+1) _ (by omega) (by omega) ?_
        rw[htk]
        simp +contextual -implicitDefEqProofs (maxSteps:=10^7) only[go_sem,seval,↓gZ,QF]
       ·simp +contextual -implicitDefEqProofs (maxSteps:=10^7) only[go_sem,seval,↓gZ,hx,hil,hw,wx,wy,QF,hm,← Bool.decide_or]
        refine ih2 (i+1) _ (by omega) (by omega) ?_
        rw[htk]
        simp +contextual -implicitDefEqProofs (maxSteps:=10^7) only[go_sem,seval,↓gZ,QF]
      | false=>
       by_cases hm:t=Y∨t=Y+H
       ·simp +contextual -implicitDefEqProofs (maxSteps:=10^7) only[go_sem,seval,↓gZ,hx,hil,hw,wx,wy,QF,hm,epl,hz,← Bool.decide_or]
        refine ih2 (i+1) _ (by omega) (by omega) ?_
        rw[htk]
        simp +contextual -implicitDefEqProofs (maxSteps:=10^7) only[go_sem,seval,↓gZ,QF]
       ·simp +contextual -implicitDefEqProofs (maxSteps:=10^7) only[go_sem,seval,↓gZ,hx,hil,hw,wx,wy,QF,hm,← Bool.decide_or]
        refine ih2 (i+1) _ (by omega) (by omega) ?_
        rw[htk]
        simp +contextual -implicitDefEqProofs (maxSteps:=10^7) only[go_sem,seval,↓gZ,QF]
     ·rw[if_neg hb,List.append_nil] at epl ⊢
      rw[ZjM _ _ _ hno] at epl
      simp only[Bool.not_eq_true] at hb
      rw[hb,Bool.false_or] at htk
      have hr:((UP d l fr n).length+1)*8≤140737488355328∧(UP d l fr n).length≤140737488355327:=by omega
      cases d with
      | true=>
       simp only[if_true] at htk
       by_cases hm:t=X∨t=X+W
       ·rw[decide_eq_true hm] at htk
        simp +contextual -implicitDefEqProofs (maxSteps:=10^7) only[go_sem,seval,↓gZ,hx,hil,hw,wx,wy,QF,hm,epl,hr,← Bool.decide_or]
        refine ih2 (i+1) _ (by omega) (by omega) ?_
        rw[htk]
        simp +contextual -implicitDefEqProofs (maxSteps:=10^7) only[go_sem,seval,↓gZ,QF,List.map_append]
       ·rw[decide_eq_false hm] at htk
        simp +contextual -implicitDefEqProofs (maxSteps:=10^7) only[go_sem,seval,↓gZ,hx,hil,hw,wx,wy,QF,hm,← Bool.decide_or]
        refine ih2 (i+1) _ (by omega) (by omega) ?_
        rw[htk]
        simp +contextual -implicitDefEqProofs (maxSteps:=10^7) only[go_sem,seval,↓gZ,QF,List.append_nil]
      | false=>
       simp only[Bool.false_eq_true,if_false] at htk
       by_cases hm:t=Y∨t=Y+H
       ·rw[decide_eq_true hm] at htk
        simp +contextual -implicitDefEqProofs (maxSteps:=10^7) only[go_sem,seval,↓gZ,hx,hil,hw,wx,wy,QF,hm,epl,hr,← Bool.decide_or]
        refine ih2 (i+1) _ (by omega) (by omega) ?_
        rw[htk]
        simp +contextual -implicitDefEqProofs (maxSteps:=10^7) only[go_sem,seval,↓gZ,QF,List.map_append]
       ·rw[decide_eq_false hm] at htk
        simp +contextual -implicitDefEqProofs (maxSteps:=10^7) only[go_sem,seval,↓gZ,hx,hil,hw,wx,wy,QF,hm,← Bool.decide_or]
        refine ih2 (i+1) _ (by omega) (by omega) ?_
        rw[htk]
        simp +contextual -implicitDefEqProofs (maxSteps:=10^7) only[go_sem,seval,↓gZ,QF,List.append_nil]
    ·have:i=l.length:=by omega
     subst this
     rw[List.take_of_length_le (Nat.le_refl _)]
     rw[← hsucc]
     simp +contextual -implicitDefEqProofs (maxSteps:=10^7) only[go_sem,seval,↓gZ,wt]
     refine ih (n+1) _ (by omega) (by omega) ?_
     simp +contextual -implicitDefEqProofs (maxSteps:=10^7) only[go_sem,seval,↓gZ,hwn]
  ·have:(to-fr-1).toNat=n:=by omega
   rw[this]
   simp +contextual -implicitDefEqProofs (maxSteps:=10^7) only[go_sem,seval,↓gZ,hlt]
theorem ZCs {d:Bool} {l:List L.Place} {t:Int} {c:L.Place} (hc:c∈l) (h:loP d c.Box<t∧t<hiP d c.Box):crs d l t=true:=List.any_eq_true.2 ⟨c,hc,decide_eq_true h⟩
def Ztn (d:Bool) (l:List L.Place) (t:Int) (f:Bool):AV×List Zt:=if crs d l t=true then (.tup [.own 0,(.d (.bool false))],[.row 6 [] true false]) else (.tup [.own 0,(.d (.bool true))],[.row 6 ((YW d l t f).map Place.enc) true false])
theorem ZqG (l:List L.Place) (d:Bool) (t:Int) (f:Bool) (hl:l.length≤1000) (hc:∀ c∈l,VB c.Box):Zg Xs Ms ZcK [(.d (.sl (l.map Place.enc))),(.d (J (QF d))),(.d (J t)),(.d (.bool f))] []=some (Ztn d l t f):=by
 have bb:∀ a b:Bool,Zfp .eql true (.d (.bool a)) (.d (.bool b))=Qs (.d (.bool (a==b))):=fun _ _=>rfl
 refine Zd Xs Ms ZcS Zws (by show 4≤_;decide) ?_
 simp +contextual -implicitDefEqProofs (maxSteps:=10^7) only[go_sem,seval,↓gZ,ZcS]
 refine Zr Xs Ms (st0:=?st0) (α:=Nat) (fun i=>[(11,.d (J (i:Int)))]) (fun i=>[(0,.row 6 ((YW d (l.take i) t f).map Place.enc) true false)]) (fun i=>i≤l.length∧crs d (l.take i) t=false) (fun i=>l.length-i) 0 ?hc ⟨by omega,by simp[crs]⟩ ?h0 ?step
 case hc=>simp +contextual -implicitDefEqProofs (maxSteps:=10^7) only[go_sem,seval,↓gZ]<;>exact rfl
 case h0=>rfl
 case step=>
  intro i ⟨hi,hp⟩ ih
  by_cases hlt:i<l.length
  ·obtain⟨c,hx⟩:=Zp hlt
   have hw:=Zl (k:=i) (by omega)
   have hct:=Zv5 (d:=d) (t:=t) hx
   have hpt:=Zk4 (d:=d) (t:=t) (f:=f) hx
   have hcm:=@ZCs d l t c (List.mem_of_getElem? hx)
   have hcb:=hc c (List.mem_of_getElem? hx)
   have hlk:(YW d (l.take i) t f).length≤i:=Nat.le_trans (List.length_filter_le _ _) (by simp;omega)
   have hr:((YW d (l.take i) t f).length+1)*48≤140737488355328∧(YW d (l.take i) t f).length≤140737488355327:=by omega
   obtain⟨P,T,⟨X,Y,W,H⟩⟩:=c
   simp only[VB] at hcb
   simp only[loP,hiP] at hct hpt hcm
   have wx:=wi (X+W) (by omega) (by omega)
   have wy:=wi (Y+H) (by omega) (by omega)
   rw[hp,Bool.false_or] at hct
   cases d with
   | true=>
    simp only[if_true] at hct hpt hcm
    by_cases hm:X<t∧t<X+W
    ·have hcr:=hcm hm
     unfold Ztn
     rw[if_pos hcr]
     simp +contextual -implicitDefEqProofs (maxSteps:=10^7) only[go_sem,seval,↓gZ,hx,hlt,hw,wx,wy,QF,hm,← Bool.decide_and]
    ·rw[decide_eq_false hm] at hct
     by_cases hf:f=decide (X+W≤t)
     ·have hg:(f==decide (X+W≤t))=true:=by rw[hf];simp
      rw[if_pos hf] at hpt
      simp +contextual -implicitDefEqProofs (maxSteps:=10^7) only[go_sem,seval,↓gZ,hx,hlt,hw,wx,wy,QF,hm,bb,hg,hr,← Bool.decide_and]
      refine ih (i+1) _ ⟨by omega,hct⟩ (by omega) ?_
      rw[hpt]
      simp +contextual -implicitDefEqProofs (maxSteps:=10^7) only[go_sem,seval,↓gZ,QF,List.map_append]
     ·have hg:(f==decide (X+W≤t))=false:=by simpa using hf
      rw[if_neg hf] at hpt
      simp +contextual -implicitDefEqProofs (maxSteps:=10^7) only[go_sem,seval,↓gZ,hx,hlt,hw,wx,wy,QF,hm,bb,hg,← Bool.decide_and]
      refine ih (i+1) _ ⟨by omega,hct⟩ (by omega) ?_
      rw[hpt]
      simp +contextual -implicitDefEqProofs (maxSteps:=10^7) only[go_sem,seval,↓gZ,QF,List.append_nil]
   | false=>
    simp only[Bool.false_eq_true,if_false] at hct hpt hcm
    by_cases hm:Y<t∧t<Y+H
    ·have hcr:=hcm hm
     unfold Ztn
     rw[if_pos hcr]
     simp +contextual -implicitDefEqProofs (maxSteps:=10^7) only[go_sem,seval,↓gZ,hx,hlt,hw,wx,wy,QF,hm,← Bool.decide_and]
    ·rw[decide_eq_false hm] at hct
     by_cases hf:f=decide (Y+H≤t)
     ·have hg:(f==decide (Y+H≤t))=true:=by rw[hf];simp
      rw[if_pos hf] at hpt
      simp +contextual -implicitDefEqProofs (maxSteps:=10^7) only[go_sem,seval,↓gZ,hx,hlt,hw,wx,wy,QF,hm,bb,hg,hr,← Bool.decide_and]
      refine ih (i+1) _ ⟨by omega,hct⟩ (by omega) ?_
      rw[hpt]
      simp +contextual -implicitDefEqProofs (maxSteps:=10^7) only[go_sem,seval,↓gZ,QF,List.map_append]
     ·have hg:(f==decide (Y+H≤t))=false:=by simpa using hf
      rw[if_neg hf] at hpt
      simp +contextual -implicitDefEqProofs (maxSteps:=10^7) only[go_sem,seval,↓gZ,hx,hlt,hw,wx,wy,QF,hm,bb,hg,← Bool.decide_and]
      refine ih (i+1) _ ⟨by omega,hct⟩ (by omega) ?_
      rw[hpt]
      simp +contextual -implicitDefEqProofs (maxSteps:=10^7) only[go_sem,seval,↓gZ,QF,List.append_nil]
  ·have:i=l.length:=by omega
   subst this
   rw[List.take_of_length_le (Nat.le_refl _)] at hp
   unfold Ztn
   rw[if_neg (by rw[hp];simp)]
   simp +contextual -implicitDefEqProofs (maxSteps:=10^7) only[go_sem,seval,↓gZ,List.take_length]
theorem ZxE (A B:List L.Place) (bX bY bW bH:Int) (d:Bool) (a:Int) (l r:Option BT) (hb:VB (Box.mk bX bY bW bH)) (ha:0≤a∧a≤400)
  (hl:Zg Xs Ms Qf [(.d (.sl (A.map Place.enc))),.d (Zc5 d (Box.mk bX bY bW bH) a).enc] []=some (plV l))
  (hr:Zg Xs Ms Qf [(.d (.sl (B.map Place.enc))),.d (J3 d (Box.mk bX bY bW bH) a).enc] []=some (plV r)) :
  Zg Xs Ms Yr [(.d (.sl (A.map Place.enc))),(.d (.sl (B.map Place.enc))),(.d (.agg [J bX,J bY,J bW,J bH])),(.d (J (QF d))),(.d (J a))] []=some (plV (ZgL d a l r)):=by
 simp only[VB] at hb
 have w1:=wi (bX+a) (by omega) (by omega)
 have w2:=wi (bY+a) (by omega) (by omega)
 have w3:=wi (bW-a) (by omega) (by omega)
 have w4:=wi (bH-a) (by omega) (by omega)
 have hpl:∀ b:BT,∃ o a q t ks,b.plan=.mk o a q t ks:=fun b=>by cases b.plan;exact⟨_,_,_,_,_,rfl⟩
 cases l with
 | none=>
  cases r with
  | none=>
   simp only[ZgL,plV] at hl hr ⊢
   cases d<;>simp only[Zc5,J3,Box.enc,QF,if_true,Bool.false_eq_true,if_false] at hl hr ⊢
   ·refine Zd Xs Ms ZO XC (by show 5≤_;decide) ?_
    simp +contextual -implicitDefEqProofs (maxSteps:=10^7) only[go_sem,seval,↓gZ,ZO,w1,w2,w3,w4,hl,hr]
   ·refine Zd Xs Ms ZO XC (by show 5≤_;decide) ?_
    simp +contextual -implicitDefEqProofs (maxSteps:=10^7) only[go_sem,seval,↓gZ,ZO,w1,w2,w3,w4,hl,hr]
  | some q=>
   obtain⟨ro,ra,rq,rt,rk,er⟩:=hpl q
   simp only[ZgL,plV,er] at hl hr ⊢
   cases d<;>simp only[Zc5,J3,Box.enc,QF,if_true,Bool.false_eq_true,if_false] at hl hr ⊢
   ·refine Zd Xs Ms ZO XC (by show 5≤_;decide) ?_
    simp +contextual -implicitDefEqProofs (maxSteps:=10^7) only[go_sem,seval,↓gZ,ZO,w1,w2,w3,w4,hl,hr]
   ·refine Zd Xs Ms ZO XC (by show 5≤_;decide) ?_
    simp +contextual -implicitDefEqProofs (maxSteps:=10^7) only[go_sem,seval,↓gZ,ZO,w1,w2,w3,w4,hl,hr]
 | some p=>
  obtain⟨lo,la,lq,lt,lk,el⟩:=hpl p
  cases r with
  | none=>
   simp only[ZgL,plV,el] at hl hr ⊢
   cases d<;>simp only[Zc5,J3,Box.enc,QF,if_true,Bool.false_eq_true,if_false] at hl hr ⊢
   ·refine Zd Xs Ms ZO XC (by show 5≤_;decide) ?_
    simp +contextual -implicitDefEqProofs (maxSteps:=10^7) only[go_sem,seval,↓gZ,ZO,w1,w2,w3,w4,hl,hr]
   ·refine Zd Xs Ms ZO XC (by show 5≤_;decide) ?_
    simp +contextual -implicitDefEqProofs (maxSteps:=10^7) only[go_sem,seval,↓gZ,ZO,w1,w2,w3,w4,hl,hr]
  | some q=>
   obtain⟨ro,ra,rq,rt,rk,er⟩:=hpl q
   simp only[ZgL,plV,BT.plan,el,er] at hl hr ⊢
   cases d<;>simp only[Zc5,J3,Box.enc,QF,if_true,Bool.false_eq_true,if_false] at hl hr ⊢
   ·refine Zd Xs Ms ZO XC (by show 5≤_;decide) ?_
    simp +contextual -implicitDefEqProofs (maxSteps:=10^7) only[go_sem,seval,↓gZ,ZO,w1,w2,w3,w4,hl,hr]
   ·refine Zd Xs Ms ZO XC (by show 5≤_;decide) ?_
    simp +contextual -implicitDefEqProofs (maxSteps:=10^7) only[go_sem,seval,↓gZ,ZO,w1,w2,w3,w4,hl,hr]
theorem Zto {l:List Int} {p:Int→Bool} {k:Nat} {x:Int} (hx:l[k]?=some x):(l.drop k).find? p=if p x=true then some x else (l.drop (k+1)).find? p:=by
 obtain⟨h1,h2⟩:=List.getElem?_eq_some_iff.1 hx
 rw[List.drop_eq_getElem_cons h1,h2,List.find?_cons]
 cases p x<;>rfl
theorem Zzm {n:Nat} {c:L.Place} {r:List L.Place} {b:Box} {d:Bool} {x:Int} (hn:¬(r=[]∧c.Box=b)) (h:Zeh (c :: r) b=some (d,x)) :
  Wi (n+1) (c :: r) b=ZgL d (x-loP d b) (Wi n (YW d (c :: r) x true) (Zc5 d b (x-loP d b))) (Wi n (YW d (c :: r) x false) (J3 d b (x-loP d b))):=by
 rw[Wi,if_neg hn,h]
theorem ZAz {n:Nat} {c:L.Place} {r:List L.Place} {b:Box} (hn:¬(r=[]∧c.Box=b)) (h:Zeh (c :: r) b=none):Wi (n+1) (c :: r) b=none:=by
 rw[Wi,if_neg hn,h]
theorem ZfH (b:BT):∃ o a q t ks,b.plan=.mk o a q t ks:=by cases b.plan;exact⟨_,_,_,_,_,rfl⟩
theorem ZqH {b:Box} {d:Bool} {x:Int} (hb:VB b) (hx:loP d b<x∧x<hiP d b) :
  ((Zc5 d b (x-loP d b)).W+(Zc5 d b (x-loP d b)).H).toNat<(b.W+b.H).toNat∧((J3 d b (x-loP d b)).W+(J3 d b (x-loP d b)).H).toNat<(b.W+b.H).toNat:=by
 simp only[VB] at hb
 cases d<;>simp only[loP,hiP,Zc5,J3,if_true,Bool.false_eq_true,if_false] at hx ⊢ <;> omega
theorem Zjj (d:Bool) (l:List L.Place) (t:Int) (f:Bool):(YW d l t f).length≤l.length:=List.length_filter_le _ _
theorem ZrT:∀ (n:Nat) (l:List L.Place) (bX bY bW bH:Int),VB (Box.mk bX bY bW bH)→InL l (Box.mk bX bY bW bH)→(bW+bH).toNat≤n→l.length≤1000→Zg Xs Ms Qf [(.d (.sl (l.map Place.enc))),(.d (.agg [J bX,J bY,J bW,J bH]))] []=some (plV (Wi n l (Box.mk bX bY bW bH))):=by
 intro n
 induction n with
 | zero=>
  intro l bX bY bW bH hb _ hn _
  simp only[VB] at hb
  omega
 | succ n IH=>
  intro l bX bY bW bH hb hl hn hlen
  cases l with
  | nil=>
   simp only[Wi,plV,BT.plan,List.map_nil]
   refine Zd Xs Ms Qu UR (by show 2≤_;decide) ?_
   simp +contextual -implicitDefEqProofs (maxSteps:=10^7) only[go_sem,seval,↓gZ,Qu]
  | cons c r=>
   have hcV:∀ y∈c :: r,VB y.Box:=fun y hy=>(hl y hy).1
   by_cases hp:r=[]∧c.Box=(Box.mk bX bY bW bH)
   ·obtain⟨rfl,hcb⟩:=hp
    obtain⟨P,T,⟨X,Y,W,H⟩⟩:=c
    simp only at hcb
    have hpl:Wi (n+1) [⟨P,T,⟨X,Y,W,H⟩⟩] (Box.mk bX bY bW bH)=some (.pane P T):=by rw[Wi,if_pos ⟨rfl,hcb⟩]
    rw[hpl]
    simp only[Box.mk.injEq] at hcb
    obtain⟨rfl,rfl,rfl,rfl⟩:=hcb
    simp only[plV,BT.plan]
    refine Zd Xs Ms Qu UR (by show 2≤_;decide) ?_
    simp +contextual -implicitDefEqProofs (maxSteps:=10^7) only[go_sem,seval,↓gZ,Qu]
   ·have hbv:=hb
    simp only[VB] at hb
    have hne:(r=[]→¬(c.Box.X=bX∧c.Box.Y=bY∧c.Box.W=bW∧c.Box.H=bH)):=fun e h=>hp ⟨e,by cases hcB:c.Box;rw[hcB] at h;obtain⟨h1,h2,h3,h4⟩:=h;simp only at h1 h2 h3 h4;rw[h1,h2,h3,h4]⟩
    have e1:=Zn1 (c :: r) true bX (bX+bW)
    have e2:=Zn1 (c :: r) false bY (bY+bH)
    have hbs:∀ d x,Zeh (c :: r) (Box.mk bX bY bW bH)=some (d,x)→Zg Xs Ms Yr [.d (.sl ((YW d (c :: r) x true).map Place.enc)),.d (.sl ((YW d (c :: r) x false).map Place.enc)),(.d (.agg [J bX,J bY,J bW,J bH])),(.d (J (QF d))),(.d (J (x-loP d (Box.mk bX bY bW bH))))] []=some (plV (Wi (n+1) (c :: r) (Box.mk bX bY bW bH))):=fun d x h=>by
     obtain⟨h1,h2,h3⟩:=Zgz h
     obtain⟨⟨g1,g2⟩,g3,g4⟩:=Zo2 hbv hl ⟨h1,h2⟩ h3
     obtain⟨s1,s2⟩:=ZqH hbv ⟨h1,h2⟩
     rw[Zzm hp h]
     simp only at s1 s2
     refine ZxE _ _ bX bY bW bH d _ _ _ hbv (by cases d<;>simp only[loP,hiP,if_true,Bool.false_eq_true,if_false] at h1 h2 ⊢ <;> omega) ?_ ?_
     ·exact IH _ _ _ _ _ g1 g2 (by omega) (Nat.le_trans (Zjj _ _ _ _) hlen)
     ·exact IH _ _ _ _ _ g3 g4 (by omega) (Nat.le_trans (Zjj _ _ _ _) hlen)
    have pT:=fun d t=>ZqG (c :: r) d t true hlen hcV
    have pF:=fun d t=>ZqG (c :: r) d t false hlen hcV
    have w1:=wi (bX+bW) (by omega) (by omega)
    have w2:=wi (bY+bH) (by omega) (by omega)
    have hn1:(bX+bW-bX-1).toNat=(bW-1).toNat:=by omega
    have hn2:(bY+bH-bY-1).toNat=(bH-1).toNat:=by omega
    have E1:=e1 hlen hcV (by omega) (by omega) (by omega)
    have E2:=e2 hlen hcV (by omega) (by omega) (by omega)
    rw[hn1] at E1
    rw[hn2] at E2
    have F1:=Zk5 (d:=true) (l:=c :: r) (fr:=bX) (bW-1).toNat
    have F2:=Zk5 (d:=false) (l:=c :: r) (fr:=bY) (bH-1).toNat
    have L1:=Zji (d:=true) (l:=c :: r) (fr:=bX) (bW-1).toNat
    have L2:=Zji (d:=false) (l:=c :: r) (fr:=bY) (bH-1).toNat
    have B1:=fun x=>@Zmb true (c :: r) bX (bW-1).toNat x
    have B2:=fun x=>@Zmb false (c :: r) bY (bH-1).toNat x
    generalize hG1:UP true (c :: r) bX (bW-1).toNat=G1 at E1 F1 L1 B1
    generalize hG2:UP false (c :: r) bY (bH-1).toNat=G2 at E2 F2 L2 B2
    have hcut:Zeh (c :: r) (Box.mk bX bY bW bH)=match G1.find? (fun x=>!crs true (c :: r) x) with
     | some x=>some (true,x)
     | none=>match G2.find? (fun x=>!crs false (c :: r) x) with
      | some y=>some (false,y)
      | none=>none:=by unfold Zeh;rw[F1,F2]<;>rfl
    have hno:=@ZAz n c r (Box.mk bX bY bW bH) hp
    generalize hX:Wi (n+1) (c :: r) (Box.mk bX bY bW bH)=X at hbs hno ⊢
    clear hX F1 F2 e1 e2 IH hl
    generalize hl:c :: r=l at *
    have hlenp:1≤l.length:=by rw[← hl];simp
    have hl0:¬(l.length:Int)=0:=by omega
    have hfst:l[0]?=some c:=by rw[← hl];rfl
    have hone:(l.length:Int)=1→¬(c.Box.X=bX∧c.Box.Y=bY∧c.Box.W=bW∧c.Box.H=bH):=fun h=>hne (by
     rw[← hl] at h
     cases r with
     | nil=>rfl
     | cons y r=>simp only[List.length_cons] at h;omega)
    clear hl hne hp
    obtain⟨P,T,⟨cX,cY,cW,cH⟩⟩:=c
    simp only at hone
    have hl0' : 0<l.length:=by omega
    have hcond:¬((l.length:Int)=1∧cX=bX∧cY=bY∧cW=bW∧cH=bH):=fun h=>hone h.1 h.2
    simp only[QF,if_true,Bool.false_eq_true,if_false] at E1 E2
    refine Zd Xs Ms Qu UR (by show 2≤_;decide) ?_
    simp +contextual -implicitDefEqProofs (maxSteps:=10^7) only[go_sem,seval,↓gZ,Qu,hl0,hfst,hl0',hcond,← Bool.decide_and]
    refine ZU Xs Ms ?_
    simp +contextual -implicitDefEqProofs (maxSteps:=10^7) only[go_sem,seval,↓gZ,w1,E1]
    refine Zr Xs Ms (st0:=?sa) (α:=Nat) (fun i=>[(10,.d (J (i:Int)))]) (fun _=>[]) (fun i=>i≤G1.length∧(G1.drop i).find? (fun x=>!crs true l x)=G1.find? (fun x=>!crs true l x)) (fun i=>G1.length-i) 0 ?ha1 ⟨by omega,by simp⟩ ?ha2 ?ha3
    case ha1=>simp +contextual -implicitDefEqProofs (maxSteps:=10^7) only[go_sem,seval,↓gZ]<;>exact rfl
    case ha2=>rfl
    case ha3=>
     intro i ⟨hi,hq⟩ ih
     by_cases hil:i<G1.length
     ·obtain⟨x,hx⟩:=Zp hil
      have hw:=Zl (k:=i) (by omega)
      rw[Zto hx] at hq
      have hxb:=B1 x (List.mem_of_getElem? hx)
      have w3:=wi (x-bX) (by omega) (by omega)
      have p1:=pT true x
      have p2:=pF true x
      unfold Ztn at p1 p2
      by_cases hcr:crs true l x=true
      ·rw[if_pos hcr] at p1
       rw[if_neg (by simp[hcr])] at hq
       simp only[QF,if_true,Bool.false_eq_true,if_false] at p1
       simp +contextual -implicitDefEqProofs (maxSteps:=10^7) only[go_sem,seval,↓gZ,hil,hx,hw,p1]
       refine ih (i+1) _ ⟨by omega,hq⟩ (by omega) ?_
       simp +contextual -implicitDefEqProofs (maxSteps:=10^7) only[go_sem,seval,↓gZ]
      ·rw[if_neg hcr] at p1 p2
       rw[if_pos (by simpa using hcr)] at hq
       have hb1:=hbs true x (by rw[hcut,← hq])
       simp only[QF,loP,if_true,Bool.false_eq_true,if_false] at p1 p2 hb1
       cases X with
       | none=>
        unfold plV at hb1 ⊢
        simp +contextual -implicitDefEqProofs (maxSteps:=10^7) only[go_sem,seval,↓gZ,hil,hx,hw,p1,p2,w3,hb1]
       | some q=>
        obtain⟨qo,qa,qq,qt,qk,eq⟩:=ZfH q
        simp only[plV,eq] at hb1 ⊢
        simp +contextual -implicitDefEqProofs (maxSteps:=10^7) only[go_sem,seval,↓gZ,hil,hx,hw,p1,p2,w3,hb1]
     ·have:i=G1.length:=by omega
      subst this
      have hf1:G1.find? (fun x=>!crs true l x)=none:=by rw[← hq];simp
      simp +contextual -implicitDefEqProofs (maxSteps:=10^7) only[go_sem,seval,↓gZ]
      refine ZU Xs Ms ?_
      simp +contextual -implicitDefEqProofs (maxSteps:=10^7) only[go_sem,seval,↓gZ,w1,w2,E2]
      refine Zr Xs Ms (st0:=?sb) (α:=Nat) (fun i=>[(10,.d (J (i:Int)))]) (fun _=>[]) (fun i=>i≤G2.length∧(G2.drop i).find? (fun x=>!crs false l x)=G2.find? (fun x=>!crs false l x)) (fun i=>G2.length-i) 0 ?hb1 ⟨by omega,by simp⟩ ?hb2 ?hb3
      case hb1=>simp +contextual -implicitDefEqProofs (maxSteps:=10^7) only[go_sem,seval,↓gZ]<;>exact rfl
      case hb2=>rfl
      case hb3=>
       intro i ⟨hi,hq⟩ ih
       by_cases hil:i<G2.length
       ·obtain⟨x,hx⟩:=Zp hil
        have hw:=Zl (k:=i) (by omega)
        rw[Zto hx] at hq
        have hxb:=B2 x (List.mem_of_getElem? hx)
        have w3:=wi (x-bY) (by omega) (by omega)
        have p1:=pT false x
        have p2:=pF false x
        unfold Ztn at p1 p2
        by_cases hcr:crs false l x=true
        ·rw[if_pos hcr] at p1
         rw[if_neg (by simp[hcr])] at hq
         simp only[QF,if_true,Bool.false_eq_true,if_false] at p1
         simp +contextual -implicitDefEqProofs (maxSteps:=10^7) only[go_sem,seval,↓gZ,hil,hx,hw,p1]
         refine ih (i+1) _ ⟨by omega,hq⟩ (by omega) ?_
         simp +contextual -implicitDefEqProofs (maxSteps:=10^7) only[go_sem,seval,↓gZ]
        ·rw[if_neg hcr] at p1 p2
         rw[if_pos (by simpa using hcr)] at hq
         have hb1:=hbs false x (by rw[hcut,hf1,← hq])
         simp only[QF,loP,if_true,Bool.false_eq_true,if_false] at p1 p2 hb1
         cases X with
         | none=>
          unfold plV at hb1 ⊢
          simp +contextual -implicitDefEqProofs (maxSteps:=10^7) only[go_sem,seval,↓gZ,hil,hx,hw,p1,p2,w3,hb1]
         | some q=>
          obtain⟨qo,qa,qq,qt,qk,eq⟩:=ZfH q
          simp only[plV,eq] at hb1 ⊢
          simp +contextual -implicitDefEqProofs (maxSteps:=10^7) only[go_sem,seval,↓gZ,hil,hx,hw,p1,p2,w3,hb1]
       ·have:i=G2.length:=by omega
        subst this
        have hf2:G2.find? (fun x=>!crs false l x)=none:=by rw[← hq];simp
        have hX:=hno (by rw[hcut,hf1,hf2])
        subst hX
        unfold plV
        have w4:=wi 4 (by omega) (by omega)
        simp +contextual -implicitDefEqProofs (maxSteps:=10^7) only[go_sem,seval,↓gZ,w4]
        refine ZU Xs Ms ?_
        simp +contextual -implicitDefEqProofs (maxSteps:=10^7) only[go_sem,seval,↓gZ]
def ZbM (d:Bool) (c:L.Place):D:=.agg [J (loP d c.Box),J (hiP d c.Box)]
@[go_sem] theorem uni_span (d:Bool) (l:List L.Place):uni 2 (l.map (ZbM d))=True:=eq_true (Zci l fun _=>rfl)
@[go_sem] theorem flat_span (d:Bool) (l:List L.Place):QM (l.map (ZbM d))=True:=eq_true (ZdR l fun _=>rfl)
theorem ZeJ (bX bY bW bH:Int) (d:Bool) (h1:R64 (bX+bW)) (h2:R64 (bY+bH)):Zg Xs Ms W3 [(.d (.agg [J bX,J bY,J bW,J bH])),(.d (.bool d))] []=some (.d (.agg [J (loP d (Box.mk bX bY bW bH)),J (hiP d (Box.mk bX bY bW bH))]),[]):=by
 have w1:=wi (bX+bW) h1.1 h1.2
 have w2:=wi (bY+bH) h2.1 h2.2
 cases d
 ·simp only[loP,hiP,Bool.false_eq_true,if_false]
  refine Zd Xs Ms ZaG Zrk (by show 2≤_;decide) ?_
  simp +contextual -implicitDefEqProofs (maxSteps:=10^7) only[go_sem,seval,↓gZ,ZaG,w1,w2]
 ·simp only[loP,hiP,if_true]
  refine Zd Xs Ms ZaG Zrk (by show 2≤_;decide) ?_
  simp +contextual -implicitDefEqProofs (maxSteps:=10^7) only[go_sem,seval,↓gZ,ZaG,w1,w2]
def ZxF:Option Int→AV×List Zt
 | some x=>(.tup [(.d (J x)),(.d (.bool true))],[])
 | none=>(.tup [(.d (J 0)),(.d (.bool false))],[])
theorem ZjO (l:List L.Place) (d:Bool) (fr to:Int) (hl:l.length≤1000) (h0:0≤fr) (h1:fr<to) (h2:to≤1000):Zg Xs Ms JH [.d (.sl (l.map (ZbM d))),.d (.agg [J fr,J to])] []=some (ZxF (ZfF d l fr (to-fr-1).toNat)):=by
 have w0:=wi (fr+1) (by omega) (by omega)
 refine Zd Xs Ms ZbG ZuL (by show 2≤_;decide) ?_
 simp +contextual -implicitDefEqProofs (maxSteps:=10^7) only[go_sem,seval,↓gZ,ZbG,w0]
 refine Zr Xs Ms (st0:=?st0) (α:=Nat) (fun n=>[(6,.d (J (fr+1+(n:Int))))]) (fun _=>[]) (fun n=>(n:Int)≤to-fr-1∧ZfF d l fr n=none) (fun n=>(to-fr-1).toNat-n) 0 ?hc ⟨by omega,rfl⟩ ?h0 ?step
 case hc=>simp +contextual -implicitDefEqProofs (maxSteps:=10^7) only[go_sem,seval,↓gZ]<;>exact rfl
 case h0=>simp only[Int.natCast_zero,Int.add_zero];rfl
 case step=>
  intro n ⟨hn,hp⟩ ih
  by_cases hlt:fr+1+(n:Int)<to
  ·have wt:=wi (fr+1+(n:Int)+1) (by omega) (by omega)
   have hwn:fr+1+((n+1:Nat):Int)=fr+1+(n:Int)+1:=by omega
   have hsucc:ZfF d l fr (n+1)=if tch d l (fr+1+n)=true∧crs d l (fr+1+n)=false then some (fr+1+(n:Int)) else none:=by rw[ZfF,hp]
   have hstay:∀ k,ZfF d l fr (n+1)=some (fr+1+(n:Int))→ZfF d l fr (n+1+k)=some (fr+1+(n:Int)):=by
    intro k h
    induction k with
    | zero=>exact h
    | succ k ihk=>rw[show n+1+(k+1)=(n+1+k)+1 by omega,ZfF,ihk]
   have hk:(to-fr-1).toNat=n+1+((to-fr-1).toNat-(n+1)):=by omega
   generalize ht:fr+1+(n:Int)=t at *
   simp +contextual -implicitDefEqProofs (maxSteps:=10^7) only[go_sem,seval,↓gZ,hlt]
   refine Zr Xs Ms (st0:=?st1) (α:=Nat) (fun i=>[(22,.d (J (i:Int))),(8,.d (.bool (crs d (l.take i) t))),(7,.d (.bool (tch d (l.take i) t)))]) (fun _=>[]) (fun i=>i≤l.length) (fun i=>l.length-i) 0 ?hc2 (by omega) ?h02 ?step2
   case hc2=>simp +contextual -implicitDefEqProofs (maxSteps:=10^7) only[go_sem,seval,↓gZ]<;>exact rfl
   case h02=>rfl
   case step2=>
    intro i hi ih2
    by_cases hil:i<l.length
    ·obtain⟨c,hx⟩:=Zp hil
     have hw:=Zl (k:=i) (by omega)
     have htk:=Zv4 (d:=d) (t:=t) hx
     have hck:=Zv5 (d:=d) (t:=t) hx
     have hsx:(l.map (ZbM d))[i]?=some (.agg [J (loP d c.Box),J (hiP d c.Box)]):=by rw[List.getElem?_map,hx];rfl
     generalize loP d c.Box=a at htk hck hsx
     generalize hiP d c.Box=b at htk hck hsx
     generalize tch d (l.take i) t=T at htk ⊢
     generalize crs d (l.take i) t=C at hck ⊢
     by_cases hm:a=t∨b=t
     ·rw[decide_eq_true (show t=a∨t=b by omega),Bool.or_true] at htk
      by_cases hq:a<t∧t<b
      ·rw[decide_eq_true hq,Bool.or_true] at hck
       simp +contextual -implicitDefEqProofs (maxSteps:=10^7) only[go_sem,seval,↓gZ,hsx,hil,hw,hm,hq,List.length_map,← Bool.decide_or,← Bool.decide_and]
       refine ih2 (i+1) _ (by omega) (by omega) ?_
       rw[htk,hck]
       simp +contextual -implicitDefEqProofs (maxSteps:=10^7) only[go_sem,seval,↓gZ,List.length_map]
      ·rw[decide_eq_false hq,Bool.or_false] at hck
       simp +contextual -implicitDefEqProofs (maxSteps:=10^7) only[go_sem,seval,↓gZ,hsx,hil,hw,hm,hq,List.length_map,← Bool.decide_or,← Bool.decide_and]
       refine ih2 (i+1) _ (by omega) (by omega) ?_
       rw[htk,hck]
       simp +contextual -implicitDefEqProofs (maxSteps:=10^7) only[go_sem,seval,↓gZ,List.length_map]
     ·rw[decide_eq_false (show ¬(t=a∨t=b) by omega),Bool.or_false] at htk
      by_cases hq:a<t∧t<b
      ·rw[decide_eq_true hq,Bool.or_true] at hck
       simp +contextual -implicitDefEqProofs (maxSteps:=10^7) only[go_sem,seval,↓gZ,hsx,hil,hw,hm,hq,List.length_map,← Bool.decide_or,← Bool.decide_and]
       refine ih2 (i+1) _ (by omega) (by omega) ?_
       rw[htk,hck]
       simp +contextual -implicitDefEqProofs (maxSteps:=10^7) only[go_sem,seval,↓gZ,List.length_map]
      ·rw[decide_eq_false hq,Bool.or_false] at hck
       simp +contextual -implicitDefEqProofs (maxSteps:=10^7) only[go_sem,seval,↓gZ,hsx,hil,hw,hm,hq,List.length_map,← Bool.decide_or,← Bool.decide_and]
       refine ih2 (i+1) _ (by omega) (by omega) ?_
       rw[htk,hck]
       simp +contextual -implicitDefEqProofs (maxSteps:=10^7) only[go_sem,seval,↓gZ,List.length_map]
    ·have:i=l.length:=by omega
     subst this
     rw[List.take_of_length_le (Nat.le_refl _)]
     by_cases hfin:tch d l t=true∧crs d l t=false
     ·rw[if_pos hfin] at hsucc
      rw[hk,hstay _ hsucc]
      rw[hfin.1,hfin.2]
      unfold ZxF
      simp +contextual -implicitDefEqProofs (maxSteps:=10^7) only[go_sem,seval,↓gZ]
     ·rw[if_neg hfin] at hsucc
      have hcase:(tch d l t=false)∨(tch d l t=true∧crs d l t=true):=by
       cases h1:tch d l t
       ·exact .inl rfl
       ·refine .inr ⟨rfl,?_⟩
        cases h2:crs d l t
        ·exact absurd ⟨h1,h2⟩ hfin
        ·rfl
      rcases hcase with h1 | ⟨h1,h2⟩
      ·rw[h1]
       simp +contextual -implicitDefEqProofs (maxSteps:=10^7) only[go_sem,seval,↓gZ,wt]
       refine ih (n+1) _ ⟨by omega,hsucc⟩ (by omega) ?_
       simp +contextual -implicitDefEqProofs (maxSteps:=10^7) only[go_sem,seval,↓gZ,hwn]
      ·rw[h1,h2]
       simp +contextual -implicitDefEqProofs (maxSteps:=10^7) only[go_sem,seval,↓gZ,wt]
       refine ih (n+1) _ ⟨by omega,hsucc⟩ (by omega) ?_
       simp +contextual -implicitDefEqProofs (maxSteps:=10^7) only[go_sem,seval,↓gZ,hwn]
  ·have:(to-fr-1).toNat=n:=by omega
   rw[this,hp]
   unfold ZxF
   simp +contextual -implicitDefEqProofs (maxSteps:=10^7) only[go_sem,seval,↓gZ,hlt]
def Ztp (b:Box):Option (Bool×Int)→AV×List Zt
 | some (d,x)=>(.tup [.agg [(.d (J (QF d))),(.d (J (x-loP d b))),(.d (J 0)),(.d (.bool false)),.own 0],(.d (.bool true))],[.row 5 [] true false])
 | none=>(.tup [.agg [(.d (J 0)),(.d (J 0)),(.d (J 0)),(.d (.bool false)),.own 0],(.d (.bool false))],[.row 5 [] true false])
theorem ZrU (l:List L.Place) (bX bY bW bH:Int) (hb:VB (Box.mk bX bY bW bH)) (hl:l.length≤1000) (hc:∀ c∈l,VB c.Box):Zg Xs Ms JB [(.d (.sl (l.map Place.enc))),(.d (.agg [J bX,J bY,J bW,J bH]))] []=some (Ztp (Box.mk bX bY bW bH) (Zeh l (Box.mk bX bY bW bH))):=by
 have hbv:=hb
 simp only[VB] at hb
 have s1:=ZeJ bX bY bW bH true (by unfold R64;omega) (by unfold R64;omega)
 have s2:=ZeJ bX bY bW bH false (by unfold R64;omega) (by unfold R64;omega)
 have e1:=ZjO l true bX (bX+bW) hl (by omega) (by omega) (by omega)
 have e2:=ZjO l false bY (bY+bH) hl (by omega) (by omega) (by omega)
 rw[show (bX+bW-bX-1).toNat=(bW-1).toNat by omega] at e1
 rw[show (bY+bH-bY-1).toNat=(bH-1).toNat by omega] at e2
 simp only[loP,hiP,if_true,Bool.false_eq_true,if_false] at s1 s2
 have hcut:Zeh l (Box.mk bX bY bW bH)=match ZfF true l bX (bW-1).toNat with
  | some x=>some (true,x)
  | none=>match ZfF false l bY (bH-1).toNat with
   | some y=>some (false,y)
   | none=>none:=rfl
 have C1:=fun x=>@ZfG true l bX (bW-1).toNat x
 have C2:=fun x=>@ZfG false l bY (bH-1).toNat x
 generalize ZfF true l bX (bW-1).toNat=K1 at e1 hcut C1
 generalize ZfF false l bY (bH-1).toNat=K2 at e2 hcut C2
 rw[hcut]
 have hbx:∀ i c,l[i]?=some c→(Zg Xs Ms W3 [.d c.Box.enc,(.d (.bool true))] []=some (.d (ZbM true c),[]))∧(Zg Xs Ms W3 [.d c.Box.enc,(.d (.bool false))] []=some (.d (ZbM false c),[])):=fun i c hx=>by
  have h:=hc c (List.mem_of_getElem? hx)
  obtain⟨P,T,⟨X,Y,W,H⟩⟩:=c
  simp only[VB] at h
  exact⟨ZeJ X Y W H true (by unfold R64;omega) (by unfold R64;omega),ZeJ X Y W H false (by unfold R64;omega) (by unfold R64;omega)⟩
 refine Zd Xs Ms Zby ZuD (by show 2≤_;decide) ?_
 simp +contextual -implicitDefEqProofs (maxSteps:=10^7) only[go_sem,seval,↓gZ,Zby]
 refine ZU Xs Ms ?_
 simp +contextual -implicitDefEqProofs (maxSteps:=10^7) only[go_sem,seval,↓gZ]
 refine Zr Xs Ms (st0:=?sa) (α:=Nat) (fun i=>[(22,.d (J (i:Int)))]) (fun i=>[(1,.row 2 ((l.take i).map (ZbM true)) true false)]) (fun i=>i≤l.length) (fun i=>l.length-i) 0 ?ha1 (by omega) ?ha2 ?ha3
 case ha1=>simp +contextual -implicitDefEqProofs (maxSteps:=10^7) only[go_sem,seval,↓gZ]<;>exact rfl
 case ha2=>rfl
 case ha3=>
  intro i hi ih
  by_cases hil:i<l.length
  ·obtain⟨c,hx⟩:=Zp hil
   have hw:=Zl (k:=i) (by omega)
   have hsp:=(hbx i c hx).1
   have hm:(l.take (i+1)).map (ZbM true)=(l.take i).map (ZbM true)++[ZbM true c]:=by rw[List.take_add_one,hx];simp
   have hlk:(l.take i).length≤i:=by simp;omega
   have hr:((l.take i).length+1)*16≤140737488355328∧(l.take i).length≤140737488355327:=by omega
   obtain⟨P,T,⟨X,Y,W,H⟩⟩:=c
   simp only[Box.enc,ZbM] at hsp
   simp +contextual -implicitDefEqProofs (maxSteps:=10^7) only[go_sem,seval,↓gZ,hx,hil,hw,hsp,hr]
   refine ih (i+1) _ (by omega) (by omega) ?_
   rw[hm]
   simp +contextual -implicitDefEqProofs (maxSteps:=10^7) only[go_sem,seval,↓gZ,ZbM]
  ·have:i=l.length:=by omega
   subst this
   rw[List.take_of_length_le (Nat.le_refl _)]
   cases K1 with
   | some x=>
    have:=C1 x rfl
    have w:=wi (x-bX) (by omega) (by omega)
    unfold ZxF at e1
    unfold Ztp
    simp only[loP,if_true,QF] at e1 ⊢
    simp +contextual -implicitDefEqProofs (maxSteps:=10^7) only[go_sem,seval,↓gZ,s1,e1,w]
   | none=>
    unfold ZxF at e1
    simp +contextual -implicitDefEqProofs (maxSteps:=10^7) only[go_sem,seval,↓gZ,s1,e1]
    refine ZU Xs Ms ?_
    have c12:(1:Int)<((2:Nat):Int):=by omega
    simp +contextual -implicitDefEqProofs (maxSteps:=10^7) only[go_sem,seval,↓gZ,c12]
    refine Zr Xs Ms (st0:=?sb) (α:=Nat) (fun i=>[(22,.d (J (i:Int)))]) (fun i=>[(1,.row 2 ((l.take i).map (ZbM false)) true false)]) (fun i=>i≤l.length) (fun i=>l.length-i) 0 ?hb1 (by omega) ?hb2 ?hb3
    case hb1=>simp +contextual -implicitDefEqProofs (maxSteps:=10^7) only[go_sem,seval,↓gZ]<;>exact rfl
    case hb2=>rfl
    case hb3=>
     intro i hi ih
     by_cases hil:i<l.length
     ·obtain⟨c,hx⟩:=Zp hil
      have hw:=Zl (k:=i) (by omega)
      have hsp:=(hbx i c hx).2
      have hm:(l.take (i+1)).map (ZbM false)=(l.take i).map (ZbM false)++[ZbM false c]:=by rw[List.take_add_one,hx];simp
      have hlk:(l.take i).length≤i:=by simp;omega
      have hr:((l.take i).length+1)*16≤140737488355328∧(l.take i).length≤140737488355327:=by omega
      obtain⟨P,T,⟨X,Y,W,H⟩⟩:=c
      simp only[Box.enc,ZbM] at hsp
      simp +contextual -implicitDefEqProofs (maxSteps:=10^7) only[go_sem,seval,↓gZ,hx,hil,hw,hsp,hr]
      refine ih (i+1) _ (by omega) (by omega) ?_
      rw[hm]
      simp +contextual -implicitDefEqProofs (maxSteps:=10^7) only[go_sem,seval,↓gZ,ZbM]
     ·have:i=l.length:=by omega
      subst this
      rw[List.take_of_length_le (Nat.le_refl _)]
      cases K2 with
      | some x=>
       have:=C2 x rfl
       have w:=wi (x-bY) (by omega) (by omega)
       unfold ZxF at e2
       unfold Ztp
       simp only[loP,Bool.false_eq_true,if_false,QF] at e2 ⊢
       simp +contextual -implicitDefEqProofs (maxSteps:=10^7) only[go_sem,seval,↓gZ,s2,e2,w]
      | none=>
       unfold ZxF at e2
       unfold Ztp
       simp +contextual -implicitDefEqProofs (maxSteps:=10^7) only[go_sem,seval,↓gZ,s2,e2]
       refine ZU Xs Ms ?_
       have c22:¬(2:Int)<((2:Nat):Int):=by omega
       simp +contextual -implicitDefEqProofs (maxSteps:=10^7) only[go_sem,seval,↓gZ,c22]
def Apt (l:List L.Place):Prop:=l.Pairwise fun a c=>¬YS a.Box c.Box
theorem Zv6 {l:List L.Place} {d:Bool} {t:Int} {f:Bool} (h:Apt l):Apt (YW d l t f):=List.Pairwise.filter _ h
theorem ZAA {c:L.Place} {r:List L.Place} {b:Box} (ha:Apt (c :: r)) (hl:InL (c :: r) b) (h:c.Box=b):r=[]:=by
 cases r with
 | nil=>rfl
 | cons y r=>
  have h1:=(List.pairwise_cons.1 ha).1 y (by simp)
  have h2:=hl y (by simp)
  have h3:=hl c (by simp)
  rw[h] at h1 h3
  simp only[VB,QP,YS] at h1 h2 h3
  omega
theorem ZxG {l:List L.Place} {b:Box} {d:Bool} {x:Int} (hb:VB b) (h:InL l b) (hx:loP d b<x∧x<hiP d b) (hc:crs d l x=false):∀ c∈l,(VB c.Box∧VB (Zc5 d b (x-loP d b))∧QP c.Box (Zc5 d b (x-loP d b)))↔hiP d c.Box≤x:=fun c hm=>by
 have h1:=h c hm
 have h2:=Zyo hc c hm
 have h3:=(Zo2 hb h hx hc).1.1
 cases d
 ·simp only[loP,hiP,Zc5,Bool.false_eq_true,if_false] at hx h2 h3 ⊢
  simp only[VB,QP] at h1 h3 ⊢
  omega
 ·simp only[loP,hiP,Zc5,if_true] at hx h2 h3 ⊢
  simp only[VB,QP] at h1 h3 ⊢
  omega
theorem Zv7 (bX bY bW bH:Int) (d:Bool) (a:Int) (hb:VB (Box.mk bX bY bW bH)) (ha:0≤a∧a≤400):Zg Xs Ms Ys [.d (.agg [J (QF d),J a,J 0,.bool false,.sl []]),(.d (.agg [J bX,J bY,J bW,J bH]))] []=some (.tup [.d (Zc5 d (Box.mk bX bY bW bH) a).enc,.d (J3 d (Box.mk bX bY bW bH) a).enc],[]):=by
 simp only[VB] at hb
 have w1:=wi (bX+a) (by omega) (by omega)
 have w2:=wi (bY+a) (by omega) (by omega)
 have w3:=wi (bW-a) (by omega) (by omega)
 have w4:=wi (bH-a) (by omega) (by omega)
 cases d
 ·simp only[Zc5,J3,Box.enc,QF,Bool.false_eq_true,if_false]
  refine Zd Xs Ms X2 Zdz (by show 2≤_;decide) ?_
  simp +contextual -implicitDefEqProofs (maxSteps:=10^7) only[go_sem,seval,↓gZ,X2,w1,w2,w3,w4]
 ·simp only[Zc5,J3,Box.enc,QF,if_true]
  refine Zd Xs Ms X2 Zdz (by show 2≤_;decide) ?_
  simp +contextual -implicitDefEqProofs (maxSteps:=10^7) only[go_sem,seval,↓gZ,X2,w1,w2,w3,w4]
theorem ZqI (l:List L.Place) (bX bY bW bH:Int) (p q:Bool→Int→Option BT) (hb:VB (Box.mk bX bY bW bH)) (hl:InL l (Box.mk bX bY bW bH)) (hlen:l.length≤1000)
  (h1:∀ d x,Zeh l (Box.mk bX bY bW bH)=some (d,x)→Zg Xs Ms Xd [.d (.sl ((YW d l x true).map Place.enc)),.d (Zc5 d (Box.mk bX bY bW bH) (x-loP d (Box.mk bX bY bW bH))).enc] []=some (plV (p d x)))
  (h2:∀ d x,Zeh l (Box.mk bX bY bW bH)=some (d,x)→Zg Xs Ms Xd [.d (.sl ((YW d l x false).map Place.enc)),.d (J3 d (Box.mk bX bY bW bH) (x-loP d (Box.mk bX bY bW bH))).enc] []=some (plV (q d x))) :
  Zg Xs Ms Um [(.d (.sl (l.map Place.enc))),(.d (.agg [J bX,J bY,J bW,J bH]))] []=some (plV (match Zeh l (Box.mk bX bY bW bH) with
   | some (d,x)=>ZgL d (x-loP d (Box.mk bX bY bW bH)) (p d x) (q d x)
   | none=>none)):=by
 have ef:=ZrU l bX bY bW bH hb hlen (fun c hc=>(hl c hc).1)
 cases hc:Zeh l (Box.mk bX bY bW bH) with
 | none=>
  rw[hc] at ef
  unfold Ztp at ef
  unfold plV
  refine Zd Xs Ms Wd ZjS (by show 2≤_;decide) ?_
  simp +contextual -implicitDefEqProofs (maxSteps:=10^7) only[go_sem,seval,↓gZ,Wd,ef]
 | some dx=>
  obtain⟨d,x⟩:=dx
  obtain⟨g1,g2,g3⟩:=Zgz hc
  have hin:=ZxG hb hl ⟨g1,g2⟩ g3
  have k1:=h1 d x hc
  have k2:=h2 d x hc
  simp only[hc,Ztp] at ef
  simp only
  have hab:0≤x-loP d (Box.mk bX bY bW bH)∧x-loP d (Box.mk bX bY bW bH)≤400:=by
   simp only[VB] at hb
   cases d<;>simp only[loP,hiP,if_true,Bool.false_eq_true,if_false] at g1 g2 ⊢ <;> omega
  have es:=Zv7 bX bY bW bH d (x-loP d (Box.mk bX bY bW bH)) hb hab
  generalize x-loP d (Box.mk bX bY bW bH)=a at *
  generalize p d x=p0 at k1 ⊢
  generalize q d x=q0 at k2 ⊢
  generalize Zc5 d (Box.mk bX bY bW bH) a=lb at *
  generalize J3 d (Box.mk bX bY bW bH) a=hb' at *
  clear h1 h2 hab g1 g2 g3 hc
  obtain⟨lX,lY,lW,lH⟩:=lb
  obtain⟨hX,hY,hW,hH⟩:=hb'
  simp only[Box.enc] at es k1 k2
  refine Zd Xs Ms Wd ZjS (by show 2≤_;decide) ?_
  simp +contextual -implicitDefEqProofs (maxSteps:=10^7) only[go_sem,seval,↓gZ,Wd,ef,es]
  refine Zr Xs Ms (st0:=?st0) (α:=Nat) (fun i=>[(33,.d (J (i:Int)))]) (fun i=>[(0,.row 6 ((YW d (l.take i) x false).map Place.enc) true false),(1,.row 6 ((YW d (l.take i) x true).map Place.enc) true false)]) (fun i=>i≤l.length) (fun i=>l.length-i) 0 ?hc (by omega) ?h0 ?step
  case hc=>simp +contextual -implicitDefEqProofs (maxSteps:=10^7) only[go_sem,seval,↓gZ]<;>exact rfl
  case h0=>rfl
  case step=>
   intro i hi ih
   by_cases hil:i<l.length
   ·obtain⟨c,hx⟩:=Zp hil
    have hw:=Zl (k:=i) (by omega)
    have pt:=Zk4 (d:=d) (t:=x) (f:=true) hx
    have pf:=Zk4 (d:=d) (t:=x) (f:=false) hx
    have hic:=hin c (List.mem_of_getElem? hx)
    have lt1:(YW d (l.take i) x true).length≤i:=Nat.le_trans (List.length_filter_le _ _) (by simp;omega)
    have lf1:(YW d (l.take i) x false).length≤i:=Nat.le_trans (List.length_filter_le _ _) (by simp;omega)
    have rt:((YW d (l.take i) x true).length+1)*48≤140737488355328∧(YW d (l.take i) x true).length≤140737488355327:=by omega
    have rf:((YW d (l.take i) x false).length+1)*48≤140737488355328∧(YW d (l.take i) x false).length≤140737488355327:=by omega
    obtain⟨P,T,⟨X,Y,W,H⟩⟩:=c
    have ei:=Zcn X Y W H lX lY lW lH
    simp only at pt pf hic
    by_cases hh:hiP d ⟨X,Y,W,H⟩≤x
    ·rw[decide_eq_true (hic.2 hh)] at ei
     rw[decide_eq_true hh] at pt pf
     rw[if_pos rfl] at pt
     rw[if_neg (by simp)] at pf
     simp +contextual -implicitDefEqProofs (maxSteps:=10^7) only[go_sem,seval,↓gZ,hx,hil,hw,ei,rt]
     refine ih (i+1) _ (by omega) (by omega) ?_
     rw[pt,pf]
     simp +contextual -implicitDefEqProofs (maxSteps:=10^7) only[go_sem,seval,↓gZ,List.map_append,List.append_nil]
    ·rw[decide_eq_false (fun h=>hh (hic.1 h))] at ei
     rw[decide_eq_false hh] at pt pf
     rw[if_neg (by simp)] at pt
     rw[if_pos rfl] at pf
     simp +contextual -implicitDefEqProofs (maxSteps:=10^7) only[go_sem,seval,↓gZ,hx,hil,hw,ei,rf]
     refine ih (i+1) _ (by omega) (by omega) ?_
     rw[pt,pf]
     simp +contextual -implicitDefEqProofs (maxSteps:=10^7) only[go_sem,seval,↓gZ,List.map_append,List.append_nil]
   ·have:i=l.length:=by omega
    subst this
    rw[List.take_of_length_le (Nat.le_refl _)]
    cases p0 with
    | none=>
     unfold plV at k1
     simp only[ZgL]
     unfold plV
     simp +contextual -implicitDefEqProofs (maxSteps:=10^7) only[go_sem,seval,↓gZ,k1]
    | some bp=>
     obtain⟨po,pa,pq,pt,pk,ep⟩:=ZfH bp
     simp only[plV,ep] at k1
     cases q0 with
     | none=>
      unfold plV at k2
      simp only[ZgL]
      unfold plV
      simp +contextual -implicitDefEqProofs (maxSteps:=10^7) only[go_sem,seval,↓gZ,k1,k2]
     | some bq=>
      obtain⟨qo,qa,qq,qt,qk,eq⟩:=ZfH bq
      simp only[plV,eq] at k2
      simp only[ZgL,plV,BT.plan,ep,eq]
      simp +contextual -implicitDefEqProofs (maxSteps:=10^7) only[go_sem,seval,↓gZ,k1,k2]
theorem Zov:∀ (n:Nat) (l:List L.Place) (bX bY bW bH:Int),VB (Box.mk bX bY bW bH)→InL l (Box.mk bX bY bW bH)→Apt l→(bW+bH).toNat≤n→l.length≤1000→Zg Xs Ms Xd [(.d (.sl (l.map Place.enc))),(.d (.agg [J bX,J bY,J bW,J bH]))] []=some (plV (Wi n l (Box.mk bX bY bW bH))):=by
 intro n
 induction n with
 | zero=>
  intro l bX bY bW bH hb _ _ hn _
  simp only[VB] at hb
  omega
 | succ n IH=>
  intro l bX bY bW bH hb hl ha hn hlen
  cases l with
  | nil=>
   simp only[Wi,plV,BT.plan,List.map_nil]
   refine Zd Xs Ms QT Zbj (by show 2≤_;decide) ?_
   simp +contextual -implicitDefEqProofs (maxSteps:=10^7) only[go_sem,seval,↓gZ,QT]
  | cons c r=>
   by_cases hp:c.Box=(Box.mk bX bY bW bH)
   ·have hr:=ZAA ha hl hp
    subst hr
    obtain⟨P,T,⟨X,Y,W,H⟩⟩:=c
    simp only at hp
    have hpl:Wi (n+1) [⟨P,T,⟨X,Y,W,H⟩⟩] (Box.mk bX bY bW bH)=some (.pane P T):=by rw[Wi,if_pos ⟨rfl,hp⟩]
    rw[hpl]
    simp only[Box.mk.injEq] at hp
    obtain⟨rfl,rfl,rfl,rfl⟩:=hp
    simp only[plV,BT.plan]
    refine Zd Xs Ms QT Zbj (by show 2≤_;decide) ?_
    simp +contextual -implicitDefEqProofs (maxSteps:=10^7) only[go_sem,seval,↓gZ,QT]
   ·have hcp:=ZqI (c :: r) bX bY bW bH (fun d x=>Wi n (YW d (c :: r) x true) (Zc5 d (Box.mk bX bY bW bH) (x-loP d (Box.mk bX bY bW bH)))) (fun d x=>Wi n (YW d (c :: r) x false) (J3 d (Box.mk bX bY bW bH) (x-loP d (Box.mk bX bY bW bH)))) hb hl hlen
     (fun d x h=>by
      obtain⟨h1,h2,h3⟩:=Zgz h
      obtain⟨⟨g1,g2⟩,g3,g4⟩:=Zo2 hb hl ⟨h1,h2⟩ h3
      obtain⟨s1,s2⟩:=ZqH hb ⟨h1,h2⟩
      simp only at s1 s2
      exact IH _ _ _ _ _ g1 g2 (Zv6 ha) (by omega) (Nat.le_trans (Zjj _ _ _ _) hlen))
     (fun d x h=>by
      obtain⟨h1,h2,h3⟩:=Zgz h
      obtain⟨⟨g1,g2⟩,g3,g4⟩:=Zo2 hb hl ⟨h1,h2⟩ h3
      obtain⟨s1,s2⟩:=ZqH hb ⟨h1,h2⟩
      simp only at s1 s2
      exact IH _ _ _ _ _ g3 g4 (Zv6 ha) (by omega) (Nat.le_trans (Zjj _ _ _ _) hlen))
    have hX:Wi (n+1) (c :: r) (Box.mk bX bY bW bH)=match Zeh (c :: r) (Box.mk bX bY bW bH) with
     | some (d,x)=>ZgL d (x-loP d (Box.mk bX bY bW bH)) (Wi n (YW d (c :: r) x true) (Zc5 d (Box.mk bX bY bW bH) (x-loP d (Box.mk bX bY bW bH)))) (Wi n (YW d (c :: r) x false) (J3 d (Box.mk bX bY bW bH) (x-loP d (Box.mk bX bY bW bH))))
     | none=>none:=by rw[Wi,if_neg (fun h=>hp h.2)];try rfl
    rw[← hX] at hcp
    clear hX IH hl ha
    generalize Wi (n+1) (c :: r) (Box.mk bX bY bW bH)=X at hcp ⊢
    have hfst:(c :: r)[0]?=some c:=rfl
    have hl0:¬(((c :: r).length:Nat):Int)=0:=by simp only[List.length_cons];omega
    have hl1:0<(c :: r).length:=by simp
    generalize c :: r=l at *
    obtain⟨P,T,⟨cX,cY,cW,cH⟩⟩:=c
    simp only[Box.mk.injEq] at hp
    cases X with
    | none=>
     unfold plV at hcp ⊢
     refine Zd Xs Ms QT Zbj (by show 2≤_;decide) ?_
     simp +contextual -implicitDefEqProofs (maxSteps:=10^7) only[go_sem,seval,↓gZ,QT,hl0,hl1,hfst,hp,hcp]
    | some bq=>
     obtain⟨qo,qa,qq,qt,qk,eq⟩:=ZfH bq
     simp only[plV,eq] at hcp ⊢
     refine Zd Xs Ms QT Zbj (by show 2≤_;decide) ?_
     simp +contextual -implicitDefEqProofs (maxSteps:=10^7) only[go_sem,seval,↓gZ,QT,hl0,hl1,hfst,hp,hcp]
def ZgM (l:List Box):Prop:=l.Pairwise fun a c=>¬YS a c
instance (l:List Box):Decidable (ZgM l):=by unfold ZgM;infer_instance
def Zk6 (k:ZD) (c:L.Place):Prop:=(VB c.Box∧QP c.Box ⟨0,0,k.W,k.H⟩)∧YL k.Panes c.Pane c.Turned c.Box.W c.Box.H=true
instance (k:ZD) (c:L.Place):Decidable (Zk6 k c):=by unfold Zk6;infer_instance
def VPl (k:ZD) (l:List L.Place):Prop:=(VW k∧l.length≤12)∧(∀ c∈l,Zk6 k c)∧ZgM (l.map L.Place.Box)
instance (k:ZD) (l:List L.Place):Decidable (VPl k l):=by unfold VPl;infer_instance
theorem ZqJ {a b:Box}:YS a b↔YS b a:=by unfold YS;omega
theorem ZxH {l:List Box} {i:Nat} {x:Box} (hx:l[i]?=some x) (h:ZgM (l.take i)) (hn:∀ y∈l.take i,¬YS x y):ZgM (l.take (i+1)):=by
 unfold ZgM at h ⊢
 rw[List.take_add_one,hx,List.pairwise_append]
 exact⟨h,by simp,fun a ha b hb=>by simp at hb;subst hb;exact fun hm=>hn a ha (ZqJ.1 hm)⟩
theorem Zzn {l:List Box} {i j:Nat} {x y:Box} (hij:j<i) (hx:l[i]?=some x) (hy:l[j]?=some y) (hm:YS x y):¬ZgM l:=fun h=>by
 obtain⟨h1,rfl⟩:=List.getElem?_eq_some_iff.1 hx
 obtain⟨h2,rfl⟩:=List.getElem?_eq_some_iff.1 hy
 exact(List.pairwise_iff_getElem.1 h) j i h2 h1 hij (ZqJ.1 hm)
theorem Zow (l:List Box) (hv:∀ b∈l,VB b) (hl:l.length≤24):Zg Xs Ms Wx [(.d (.sl (l.map Box.enc)))] []=some ((.d (.bool true)),[]):=by
 have h24:¬(24:Int)<(l.length:Int):=by omega
 refine Zd Xs Ms Jd Zri (by show 1≤_;decide) ?_
 simp +contextual -implicitDefEqProofs (maxSteps:=10^7) only[go_sem,seval,↓gZ,Jd,h24]
 refine Zr Xs Ms (st0:=?st0) (α:=Nat) (fun i=>[(10,.d (J (i:Int)))]) (fun _=>[]) (fun i=>i≤l.length) (fun i=>l.length-i) 0 ?hc (by omega) ?h0 ?step
 case hc=>simp +contextual -implicitDefEqProofs (maxSteps:=10^7) only[go_sem,seval,↓gZ]<;>exact rfl
 case h0=>rfl
 case step=>
  intro i hi ih
  by_cases hlt:i<l.length
  ·obtain⟨x,hx⟩:=Zp hlt
   have hw:=Zl (k:=i) (by omega)
   have hb:=hv x (List.mem_of_getElem? hx)
   obtain⟨X,Y,W,H⟩:=x
   have e:=YV X Y W H
   rw[decide_eq_true hb] at e
   simp +contextual -implicitDefEqProofs (maxSteps:=10^7) only[go_sem,seval,↓gZ,hx,hlt,hw,e]
   refine ih (i+1) _ (by omega) (by omega) ?_
   simp +contextual -implicitDefEqProofs (maxSteps:=10^7) only[go_sem,seval,↓gZ]
  ·simp +contextual -implicitDefEqProofs (maxSteps:=10^7) only[go_sem,seval,↓gZ,hlt]
theorem Zox (l:List Box) (hv:∀ b∈l,VB b) (hl:l.length≤24):Zg Xs Ms Wv [(.d (.sl (l.map Box.enc)))] []=some ((.d (.bool (decide (ZgM l)))),[]):=by
 have e1:=Zow l hv hl
 refine Zd Xs Ms U9 Zrc (by show 1≤_;decide) ?_
 simp +contextual -implicitDefEqProofs (maxSteps:=10^7) only[go_sem,seval,↓gZ,U9,e1]
 refine Zr Xs Ms (st0:=?st0) (α:=Nat) (fun i=>[(14,.d (J (i:Int)))]) (fun _=>[]) (fun i=>i≤l.length∧ZgM (l.take i)) (fun i=>l.length-i) 0 ?hc ⟨by omega,by simp[ZgM]⟩ ?h0 ?step
 case hc=>simp +contextual -implicitDefEqProofs (maxSteps:=10^7) only[go_sem,seval,↓gZ]<;>exact rfl
 case h0=>rfl
 case step=>
  intro i ⟨hi,hp⟩ ih
  by_cases hlt:i<l.length
  ·obtain⟨x,hx⟩:=Zp hlt
   have hw:=Zl (k:=i) (by omega)
   have hb:=hv x (List.mem_of_getElem? hx)
   have hle:i≤l.length:=hi
   have htl:(l.take i).length=i:=by simp;omega
   have hfin:=ZxH hx hp
   obtain⟨X,Y,W,H⟩:=x
   simp +contextual -implicitDefEqProofs (maxSteps:=10^7) only[go_sem,seval,↓gZ,hx,hlt,hw,hle]
   refine Zr Xs Ms (st0:=?st1) (α:=Nat) (fun j=>[(23,.d (J (j:Int)))]) (fun _=>[]) (fun j=>j≤i∧∀ y∈l.take j,¬YS ⟨X,Y,W,H⟩ y) (fun j=>i-j) 0 ?hc2 ⟨by omega,by simp⟩ ?h02 ?step2
   case hc2=>simp +contextual -implicitDefEqProofs (maxSteps:=10^7) only[go_sem,seval,↓gZ]<;>exact rfl
   case h02=>rfl
   case step2=>
    intro j ⟨hj,hq⟩ ih2
    by_cases hji:j<i
    ·obtain⟨y,hy⟩:=Zp (l:=l) (k:=j) (by omega)
     have hw2:=Zl (k:=j) (by omega)
     have hyb:=hv y (List.mem_of_getElem? hy)
     have hty:(l.take i)[j]?=some y:=by rw[List.getElem?_take_of_lt hji];exact hy
     have hnot:=Zzn hji hx hy
     have htk:l.take (j+1)=l.take j++[y]:=by rw[List.take_add_one,hy];simp
     obtain⟨X',Y',W',H'⟩:=y
     by_cases hm:YS ⟨X,Y,W,H⟩ ⟨X',Y',W',H'⟩
     ·have e:=Zdr X Y W H X' Y' W' H' hb hyb hm
      have hn:=hnot hm
      rw[decide_eq_false hn]
      simp +contextual -implicitDefEqProofs (maxSteps:=10^7) only[go_sem,seval,↓gZ,hty,hji,htl,hw2,e,List.length_map,ZgD]
     ·have e:=ZeG X Y W H X' Y' W' H' (fun h=>hm h.2.2)
      simp +contextual -implicitDefEqProofs (maxSteps:=10^7) only[go_sem,seval,↓gZ,hty,hji,htl,hw2,e,List.length_map]
      refine ih2 (j+1) _ ⟨by omega,?_⟩ (by omega) ?_
      ·rw[htk]
       intro z hz
       rcases List.mem_append.1 hz with hz | hz
       ·exact hq z hz
       ·simp at hz;subst hz;exact hm
      ·simp +contextual -implicitDefEqProofs (maxSteps:=10^7) only[go_sem,seval,↓gZ,htl]
    ·have:j=i:=by omega
     subst this
     simp +contextual -implicitDefEqProofs (maxSteps:=10^7) only[go_sem,seval,↓gZ,hji,htl,hw,List.length_map]
     refine ih (j+1) _ ⟨by omega,hfin hq⟩ (by omega) ?_
     simp +contextual -implicitDefEqProofs (maxSteps:=10^7) only[go_sem,seval,↓gZ]
  ·have:i=l.length:=by omega
   subst this
   rw[List.take_of_length_le (Nat.le_refl _)] at hp
   rw[decide_eq_true hp]
   simp +contextual -implicitDefEqProofs (maxSteps:=10^7) only[go_sem,seval,↓gZ]
theorem Znj (kW kH:Int) (kP:List Pane) (l:List L.Place):Zg Xs Ms Vu [(.d (.agg [J kW,J kH,.sl (kP.map Pane.enc)])),(.d (.sl (l.map Place.enc)))] []=some ((.d (.bool (decide (VPl (ZD.mk kW kH kP) l)))),[]):=by
 have ew:=UN kW kH kP
 by_cases hw:VW (ZD.mk kW kH kP)
 ·rw[decide_eq_true hw] at ew
  by_cases h12:(12:Int)<(l.length:Int)
  ·have hn:¬VPl (ZD.mk kW kH kP) l:=fun h=>by have:=h.1.2;omega
   refine Zd Xs Ms Xm Zc8 (by show 2≤_;decide) ?_
   simp +contextual -implicitDefEqProofs (maxSteps:=10^7) only[go_sem,seval,↓gZ,Xm,ew,h12,hn]
  ·have es:=Zds kW kH kP
   have hle:l.length≤12:=by omega
   have hVW:=hw
   simp only[VW] at hw
   have hsB:VB ⟨0,0,kW,kH⟩:=by simp only[VB];omega
   refine Zd Xs Ms Xm Zc8 (by show 2≤_;decide) ?_
   simp +contextual -implicitDefEqProofs (maxSteps:=10^7) only[go_sem,seval,↓gZ,Xm,ew,h12]
   refine Zr Xs Ms (st0:=?st0) (α:=Nat) (fun i=>[(19,.d (J (i:Int)))]) (fun i=>[(0,.row 4 (((l.take i).map L.Place.Box).map Box.enc) true false)]) (fun i=>i≤l.length∧∀ c∈l.take i,Zk6 (ZD.mk kW kH kP) c) (fun i=>l.length-i) 0 ?hc ⟨by omega,by simp⟩ ?h0 ?step
   case hc=>simp +contextual -implicitDefEqProofs (maxSteps:=10^7) only[go_sem,seval,↓gZ]<;>exact rfl
   case h0=>rfl
   case step=>
    intro i ⟨hi,hp⟩ ih
    by_cases hlt:i<l.length
    ·obtain⟨c,hx⟩:=Zp hlt
     have hw1:=Zl (k:=i) (by omega)
     have htk:l.take (i+1)=l.take i++[c]:=by rw[List.take_add_one,hx];simp
     have hmem:=List.mem_of_getElem? hx
     have hlk:(l.take i).length≤i:=by simp;omega
     have hr:((l.take i).length+1)*32≤140737488355328∧(l.take i).length≤140737488355327:=by omega
     have hno:¬Zk6 (ZD.mk kW kH kP) c→¬VPl (ZD.mk kW kH kP) l:=fun h h'=>h (h'.2.1 c hmem)
     have hst:Zk6 (ZD.mk kW kH kP) c→∀ z∈l.take (i+1),Zk6 (ZD.mk kW kH kP) z:=fun h z hz=>by
      rw[htk] at hz
      rcases List.mem_append.1 hz with hz | hz
      ·exact hp z hz
      ·simp at hz;subst hz;exact h
     obtain⟨P,T,⟨X,Y,W,H⟩⟩:=c
     have e1:=YV X Y W H
     have e2:=Zcn X Y W H 0 0 kW kH
     have e3:=ZhS kW kH kP P T W H
     by_cases v1:VB ⟨X,Y,W,H⟩
     ·rw[decide_eq_true v1] at e1
      by_cases v2:VB ⟨X,Y,W,H⟩∧VB ⟨0,0,kW,kH⟩∧QP ⟨X,Y,W,H⟩ ⟨0,0,kW,kH⟩
      ·rw[decide_eq_true v2] at e2
       cases v3:YL kP P T W H with
       | true=>
        rw[v3] at e3
        have hok:Zk6 (ZD.mk kW kH kP) ⟨P,T,⟨X,Y,W,H⟩⟩:=⟨⟨v1,v2.2.2⟩,v3⟩
        simp +contextual -implicitDefEqProofs (maxSteps:=10^7) only[go_sem,seval,↓gZ,hx,hlt,hw1,e1,e2,e3,es,hr]
        refine ih (i+1) _ ⟨by omega,hst hok⟩ (by omega) ?_
        rw[htk,List.map_append]
        simp +contextual -implicitDefEqProofs (maxSteps:=10^7) only[go_sem,seval,↓gZ,List.map_append]
       | false=>
        rw[v3] at e3
        have hn:=hno (fun h=>by have:=h.2;simp only at this;rw[v3] at this;cases this)
        rw[decide_eq_false hn]
        simp +contextual -implicitDefEqProofs (maxSteps:=10^7) only[go_sem,seval,↓gZ,hx,hlt,hw1,e1,e2,e3,es]
      ·rw[decide_eq_false v2] at e2
       have hn:=hno (fun h=>v2 ⟨v1,hsB,h.1.2⟩)
       rw[decide_eq_false hn]
       simp +contextual -implicitDefEqProofs (maxSteps:=10^7) only[go_sem,seval,↓gZ,hx,hlt,hw1,e1,e2,es]
     ·rw[decide_eq_false v1] at e1
      have hn:=hno (fun h=>v1 h.1.1)
      rw[decide_eq_false hn]
      simp +contextual -implicitDefEqProofs (maxSteps:=10^7) only[go_sem,seval,↓gZ,hx,hlt,hw1,e1]
    ·have:i=l.length:=by omega
     subst this
     rw[List.take_of_length_le (Nat.le_refl _)] at hp ⊢
     have ea:=Zox (l.map L.Place.Box) (fun b hb=>by
      obtain⟨c,hc,rfl⟩:=List.mem_map.1 hb
      exact(hp c hc).1.1) (by simp;omega)
     simp +contextual -implicitDefEqProofs (maxSteps:=10^7) only[go_sem,seval,↓gZ,ea]
     exact Zdd ⟨fun h=>⟨⟨hVW,hle⟩,hp,h⟩,fun h=>h.2.2⟩
 ·rw[decide_eq_false hw] at ew
  have hn:¬VPl (ZD.mk kW kH kP) l:=fun h=>hw h.1.1
  refine Zd Xs Ms Xm Zc8 (by show 2≤_;decide) ?_
  simp +contextual -implicitDefEqProofs (maxSteps:=10^7) only[go_sem,seval,↓gZ,Xm,ew,hn]
def popL (k:ZD) (l:List L.Place):Option BT:=if VPl k l then Wi (k.W+k.H).toNat l ⟨0,0,k.W,k.H⟩ else none
theorem Ztq {k:ZD} {l:List L.Place} (h:VPl k l):VB ⟨0,0,k.W,k.H⟩∧InL l ⟨0,0,k.W,k.H⟩∧Apt l∧(∀ c∈l,YL k.Panes c.Pane c.Turned c.Box.W c.Box.H=true):=by
 obtain⟨⟨h1,h2⟩,h3,h4⟩:=h
 refine⟨by simp only[VW] at h1;simp only[VB];omega,fun c hc=>(h3 c hc).1,?_,fun c hc=>(h3 c hc).2⟩
 unfold ZgM at h4
 rw[List.pairwise_map] at h4
 exact h4
theorem Zmc (kW kH:Int) (kP:List Pane) (l:List L.Place):Zg Xs Ms Yi [(.d (.agg [J kW,J kH,.sl (kP.map Pane.enc)])),(.d (.sl (l.map Place.enc)))] []=some (plV (popL (ZD.mk kW kH kP) l)):=by
 have e1:=Znj kW kH kP l
 unfold popL
 by_cases hv:VPl (ZD.mk kW kH kP) l
 ·obtain⟨h1,h2,h3,_⟩:=Ztq hv
  rw[decide_eq_true hv] at e1
  rw[if_pos hv]
  have es:=Zds kW kH kP
  have ep:=Zov (kW+kH).toNat l 0 0 kW kH h1 h2 h3 (Nat.le_refl _) (by have:=hv.1.2;omega)
  generalize Wi (kW+kH).toNat l ⟨0,0,kW,kH⟩=X at ep ⊢
  cases X with
  | none=>
   unfold plV at ep ⊢
   refine Zd Xs Ms QX Zb6 (by show 2≤_;decide) ?_
   simp +contextual -implicitDefEqProofs (maxSteps:=10^7) only[go_sem,seval,↓gZ,QX,e1,es,ep]
  | some b=>
   obtain⟨o,a,q,t,ks,eb⟩:=ZfH b
   simp only[plV,eb] at ep ⊢
   refine Zd Xs Ms QX Zb6 (by show 2≤_;decide) ?_
   simp +contextual -implicitDefEqProofs (maxSteps:=10^7) only[go_sem,seval,↓gZ,QX,e1,es,ep]
 ·rw[decide_eq_false hv] at e1
  rw[if_neg hv]
  unfold plV
  refine Zd Xs Ms QX Zb6 (by show 2≤_;decide) ?_
  simp +contextual -implicitDefEqProofs (maxSteps:=10^7) only[go_sem,seval,↓gZ,QX,e1]
theorem Zb4:∀ (b:BT),Zg Xs Ms V3 [.d b.plan.enc,.d b.plan.enc] []=some ((.d (.bool true)),[])
 | .waste=>by
  have nb:∀ a b:Bool,Zfp .neq true (.d (.bool a)) (.d (.bool b))=Qs (.d (.bool (!(a==b)))):=fun _ _=>rfl
  simp only[BT.plan,Zh.enc_mk]
  refine Zd Xs Ms Yv Ze8 (by show 2≤_;decide) ?_
  simp +contextual -implicitDefEqProofs (maxSteps:=10^7) only[go_sem,seval,↓gZ,Yv,nb,beq_self_eq_true]
  refine ZU Xs Ms ?_
  simp +contextual -implicitDefEqProofs (maxSteps:=10^7) only[go_sem,seval,↓gZ]
 | .pane i t=>by
  have nb:∀ a b:Bool,Zfp .neq true (.d (.bool a)) (.d (.bool b))=Qs (.d (.bool (!(a==b)))):=fun _ _=>rfl
  simp only[BT.plan,Zh.enc_mk]
  refine Zd Xs Ms Yv Ze8 (by show 2≤_;decide) ?_
  simp +contextual -implicitDefEqProofs (maxSteps:=10^7) only[go_sem,seval,↓gZ,Yv,nb,beq_self_eq_true]
  refine ZU Xs Ms ?_
  simp +contextual -implicitDefEqProofs (maxSteps:=10^7) only[go_sem,seval,↓gZ]
 | .cut d a l r=>by
  have nb:∀ a b:Bool,Zfp .neq true (.d (.bool a)) (.d (.bool b))=Qs (.d (.bool (!(a==b)))):=fun _ _=>rfl
  have e1:=Zb4 l
  have e2:=Zb4 r
  have c2:(1:Int)<((2:Nat):Int):=by omega
  have c3:(0:Int)<((2:Nat):Int):=by omega
  have c4:¬(2:Int)<((2:Nat):Int):=by omega
  simp only[BT.plan,Zh.enc_mk]
  refine Zd Xs Ms Yv Ze8 (by show 2≤_;decide) ?_
  simp +contextual -implicitDefEqProofs (maxSteps:=10^7) only[go_sem,seval,↓gZ,Yv,nb,beq_self_eq_true]
  refine ZU Xs Ms ?_
  simp +contextual -implicitDefEqProofs (maxSteps:=10^7) only[go_sem,seval,↓gZ,e1,c3]
  refine ZU Xs Ms ?_
  simp +contextual -implicitDefEqProofs (maxSteps:=10^7) only[go_sem,seval,↓gZ,e2,c2]
  refine ZU Xs Ms ?_
  simp +contextual -implicitDefEqProofs (maxSteps:=10^7) only[go_sem,seval,↓gZ,c4]
def UL (l:List Zc):Prop:=(l.map Zc.Pane).Nodup∧∀ x∈l,1≤x.Count
theorem ZqK:∀ {l:List Zc} {q:List Pane},Zjp q l→(l.map Zc.Pane).Nodup∧∀ p∈l.map Zc.Pane,p∉q
 | [],_,_=>by simp
 | x :: l,q,h=>by
  obtain⟨h1,h2,h3,h4,h5⟩:=h
  obtain⟨a,b⟩:=ZqK h5
  refine⟨?_,?_⟩
  ·rw[List.map_cons,List.nodup_cons]
   exact⟨fun hm=>b _ hm (by simp),a⟩
  ·intro p hp
   rw[List.map_cons,List.mem_cons] at hp
   rcases hp with rfl | hp
   ·exact h2
   ·exact fun hq=>b p hp (by simp[hq])
theorem Zas {l:List Zc} (h:VD l):UL l:=⟨(ZqK h.2.1).1,fun x hx=>(Z7 h x hx).2.1⟩
theorem ZfI:∀ {l:List Zc} {k:Nat} {p:Pane},0≤Wg k l p→∃ a x,Wg k l p=((k+a:Nat):Int)∧l[a]?=some x∧x.Pane=p∧p∉(l.take a).map Zc.Pane
 | [],k,p,h=>by simp[Wg] at h
 | x :: l,k,p,h=>by
  unfold Wg at h ⊢
  split
  ·rename_i e
   exact⟨0,x,by simp,by simp,e,by simp⟩
  ·rename_i e
   rw[if_neg e] at h
   obtain⟨a,y,h1,h2,h3,h4⟩:=ZfI h
   refine⟨a+1,y,by rw[h1];congr 1;omega,by simpa using h2,h3,?_⟩
   simp only[List.take_succ_cons,List.map_cons,List.mem_cons,not_or]
   exact⟨fun e'=>e e'.symm,h4⟩
theorem Zh8:∀ {l:List Zc} {k:Nat} {p:Pane},Wg k l p<0→p∉l.map Zc.Pane
 | [],k,p,h=>by simp
 | x :: l,k,p,h=>by
  unfold Wg at h
  split at h
  ·omega
  ·rename_i e
   simp only[List.map_cons,List.mem_cons,not_or]
   exact⟨fun e'=>e e'.symm,Zh8 h⟩
theorem ZfJ {p:Pane} {c:Int}:∀ {l:List Zc} {b:Bool},p∉l.map Zc.Pane→Xy p c b l=b
 | [],b,_=>rfl
 | x :: l,b,h=>by
  simp only[List.map_cons,List.mem_cons,not_or] at h
  rw[Xy,if_neg (fun e=>h.1 e.symm),ZfJ h.2]
theorem Zv8 {p:Pane} {c:Int}:∀ {l:List Zc},p∉l.map Zc.Pane→(∀ x∈l,1≤x.Count)→Yc l p c=l
 | [],_,_=>rfl
 | x :: l,h,hc=>by
  simp only[List.map_cons,List.mem_cons,not_or] at h
  have h0:=hc x (by simp)
  have ih:=Zv8 (p:=p) (c:=c) h.2 (fun y hy=>hc y (by simp[hy]))
  unfold Yc at ih ⊢
  rw[List.filterMap_cons,ZfC,if_neg (fun e=>h.1 e.symm),if_pos (by omega),ih]
theorem Zmd {p:Pane} {c:Int}:∀ {l:List Zc} {a:Nat} {x:Zc},UL l→l[a]?=some x→x.Pane=p→Xy p c false l=decide (0≤x.Count-c)∧Yc l p c=if 0<x.Count-c then l.set a ⟨p,x.Count-c⟩ else l.eraseIdx a
 | [],a,x,_,h,_=>by simp at h
 | y :: l,0,x,hu,h,e=>by
  simp only[List.getElem?_cons_zero,Option.some.injEq] at h
  subst h
  obtain⟨h1,h2⟩:=hu
  rw[List.map_cons,List.nodup_cons,e] at h1
  have hl:=Zv8 (p:=p) (c:=c) h1.1 (fun z hz=>h2 z (by simp[hz]))
  refine⟨by rw[Xy,if_pos e,ZfJ h1.1],?_⟩
  unfold Yc at hl ⊢
  rw[List.filterMap_cons,ZfC,if_pos e]
  by_cases hc:0<y.Count-c
  ·rw[if_pos hc,if_pos hc,hl,e];rfl
  ·rw[if_neg hc,if_neg hc,hl];rfl
 | y :: l,a+1,x,hu,h,e=>by
  simp only[List.getElem?_cons_succ] at h
  obtain⟨h1,h2⟩:=hu
  rw[List.map_cons,List.nodup_cons] at h1
  have hne:y.Pane≠p:=fun e'=>h1.1 (by rw[e',← e];exact List.mem_map_of_mem (List.mem_of_getElem? h))
  obtain⟨i1,i2⟩:=Zmd (p:=p) (c:=c) (l:=l) ⟨h1.2,fun z hz=>h2 z (by simp[hz])⟩ h e
  refine⟨by rw[Xy,if_neg hne,i1],?_⟩
  have h0:=h2 y (by simp)
  unfold Yc at i2 ⊢
  rw[List.filterMap_cons,ZfC,if_neg hne,if_pos (by omega),i2]
  by_cases hc:0<x.Count-c
  ·rw[if_pos hc,if_pos hc];rfl
  ·rw[if_neg hc,if_neg hc];rfl
theorem Zme {l:List Zc} {p:Pane} {c:Int} (h:UL l):UL (Yc l p c):=by
 have hs:∀ (l:List Zc),((Yc l p c).map Zc.Pane).Sublist (l.map Zc.Pane):=by
  intro l
  induction l with
  | nil=>simp[Yc]
  | cons x l ih=>
   unfold Yc at ih ⊢
   rw[List.filterMap_cons]
   unfold ZfC at ih ⊢
   split
   ·exact ih.trans (by simp)
   ·rename_i y hy
    split at hy
    ·split at hy
     ·cases hy;simpa using ih
     ·cases hy
    ·split at hy
     ·cases hy;simpa using ih
     ·cases hy
 refine⟨List.Nodup.sublist (hs l) h.1,fun y hy=>?_⟩
 obtain⟨x,hx,e⟩:=List.mem_filterMap.1 hy
 have:=h.2 x hx
 unfold ZfC at e
 split at e
 ·split at e
  ·cases e;simp only;omega
  ·cases e
 ·split at e
  ·cases e;omega
  ·cases e
theorem Zk7 (p:Pane) (c:Int):∀ (l:List Zc),(XP p c l).map Zc.Pane=if p∈l.map Zc.Pane then l.map Zc.Pane else l.map Zc.Pane++[p]
 | []=>by simp[XP]
 | x :: l=>by
  unfold XP
  by_cases e:x.Pane=p
  ·simp[e]
  ·have ih:=Zk7 p c l
   have e' : ¬p=x.Pane:=fun h=>e h.symm
   simp only[if_neg e,List.map_cons,List.mem_cons,e',false_or,ih]
   split<;>simp
theorem Zul {l:List Zc} {p:Pane} {c:Int} (h:UL l) (hc:1≤c):UL (XP p c l):=by
 refine⟨?_,?_⟩
 ·rw[Zk7]
  split
  ·exact h.1
  ·rename_i hn
   refine List.nodup_append.2 ⟨h.1,by simp,fun a ha b hb=>?_⟩
   simp only[List.mem_singleton] at hb
   subst hb
   exact fun e=>hn (e ▸ ha)
 ·have key:∀ (l:List Zc),(∀ x∈l,1≤x.Count)→∀ x∈XP p c l,1≤x.Count:=by
   intro l
   induction l with
   | nil=>intro _ x hx;simp[XP] at hx;subst hx;exact hc
   | cons y l ih=>
    intro h x hx
    have hy:=h y (by simp)
    unfold XP at hx
    split at hx
    ·rcases List.mem_cons.1 hx with rfl | hx
     ·simp only;omega
     ·exact h x (by simp[hx])
    ·rcases List.mem_cons.1 hx with rfl | hx
     ·exact hy
     ·exact ih (fun z hz=>h z (by simp[hz])) x hx
  exact key l h.2
theorem Zjk : ∀ {l:List Zb} {b:Int},Yk b l→∀ x∈l,b<x.Label
 | [],_,_,x,hx=>by simp at hx
 | y :: l,b,h,x,hx=>by
  rcases List.mem_cons.1 hx with rfl | hx
  ·exact h.2.1
  ·have:=Zjk h.2.2 x hx
   have:=h.2.1
   omega
theorem ZqL (q:Zb):∀ (l:List Zb),q∈QL q l
 | []=>by simp[QL]
 | x :: l=>by
  unfold QL
  split
  ·simp
  ·exact List.mem_cons_of_mem _ (ZqL q l)
theorem Zn2 {q:Zb} (hq:VPc q):∀ {l:List Zb} {b:Int},Yk b l→b<q.Label→(Yk b (QL q l)↔q.Label∉l.map Zb.Label)
 | [],b,h,hb=>by simp[QL,Yk,hq,hb]
 | x :: l,b,h,hb=>by
  obtain⟨h1,h2,h3⟩:=h
  unfold QL
  by_cases hlt:q.Label<x.Label
  ·rw[if_pos hlt]
   refine⟨fun _ hm=>?_,fun _=>⟨hq,hb,h1,hlt,h3⟩⟩
   rw[List.map_cons,List.mem_cons] at hm
   rcases hm with hm | hm
   ·omega
   ·obtain⟨y,hy,e⟩:=List.mem_map.1 hm
    have:=Zjk h3 y hy
    omega
  ·rw[if_neg hlt]
   by_cases he:x.Label=q.Label
   ·constructor
    ·intro hs
     have:=Zjk hs.2.2 q (ZqL q l)
     omega
    ·intro hn
     exact absurd (by simp[he]) hn
   ·have ih:=Zn2 hq h3 (by omega:x.Label<q.Label)
    rw[List.map_cons,List.mem_cons,not_or,Yk,ih]
    exact⟨fun h=>⟨fun e=>he e.symm,h.2.2⟩,fun h=>⟨h1,h2,h.2⟩⟩
theorem Zv9:∀ {l:List Zb} {k:Nat} {n:Int},QJ k l n<0↔n∉l.map Zb.Label
 | [],k,n=>by simp[QJ]
 | x :: l,k,n=>by
  unfold QJ
  have ih:=Zv9 (l:=l) (k:=k+1) (n:=n)
  by_cases he:x.Label=n
  ·rw[if_pos he]
   simp only[List.map_cons,List.mem_cons,he,true_or,not_true,iff_false]
   omega
  ·rw[if_neg he,ih,List.map_cons,List.mem_cons,not_or]
   exact⟨fun h=>⟨fun e=>he e.symm,h⟩,fun h=>h.2⟩
theorem ZAB {q:Zb} {l:List Zb} (h1:VSt l) (h2:VPc q):Uv q l↔l.length≠20∧QJ 0 l q.Label<0:=by
 have h3:=Zn2 h2 h1.2 (by have:=h2.1.1;omega:0<q.Label)
 have h4:=h1.1
 unfold Uv
 rw[Zv9,← h3]
 simp only[VSt,Zne]
 constructor
 ·rintro ⟨_,a,b⟩;exact⟨by omega,b⟩
 ·rintro ⟨a,b⟩;exact⟨⟨⟨h4,h1.2⟩,h2⟩,by omega,b⟩
theorem ZjP (l:List Zb) (qL qW qH:Int) (qF:List Box) (hl:l.length≤100000):Zg Xs Ms Jw [(.d (.sl (l.map Zb.enc))),(.d (.agg [J qL,J qW,J qH,.sl (qF.map Box.enc)]))] [] =
  some (.tup [.own 0,(.d (.bool (decide (Uv (Zb.mk qL qW qH qF) l))))],[.row 4 ((if Uv (Zb.mk qL qW qH qF) l then QL (Zb.mk qL qW qH qF) l else []).map Zb.enc) true false]):=by
 have e1:=Vr l
 have e2:=Xj qL qW qH qF
 have e3:=Y4 l qL (by omega)
 by_cases v1:VSt l
 ·rw[decide_eq_true v1] at e1
  by_cases v2:VPc (Zb.mk qL qW qH qF)
  ·rw[decide_eq_true v2] at e2
   have hA:=ZAB v1 v2
   simp only at hA
   have hF:=(ZdF v1).2
   have hq6:qF.length≤1000000:=by have:=v2.1.2.2.2.2.2.2;simp only at this;omega
   by_cases v3:l.length=20
   ·have h:¬Uv (Zb.mk qL qW qH qF) l:=fun h=>(hA.1 h).1 v3
    have v3' : ((l.length:Int)=20):=by omega
    rw[decide_eq_false h,if_neg h]
    refine Zd Xs Ms QZ Zbk (by show 2≤_;decide) ?_
    simp +contextual -implicitDefEqProofs (maxSteps:=10^7) only[go_sem,seval,↓gZ,QZ,e1,e2,v3']
   ·have v3' : ¬((l.length:Int)=20):=by omega
    by_cases v4:QJ 0 l qL<0
    ·have h:Uv (Zb.mk qL qW qH qF) l:=hA.2 ⟨v3,v4⟩
     have v4' : ¬(0≤QJ 0 l qL):=by omega
     have eq:=Zbb qL qW qH qF hq6
     rw[decide_eq_true h,if_pos h]
     generalize QJ 0 l qL=fl at e3 v4'
     have hle:=v1.1
     refine Zd Xs Ms QZ Zbk (by show 2≤_;decide) ?_
     simp +contextual -implicitDefEqProofs (maxSteps:=10^7) only[go_sem,seval,↓gZ,QZ,e1,e2,v3',e3,v4']
     refine Zr Xs Ms (st0:=?st0) (α:=Nat×Bool×List Zb) (fun s=>[(32,.d (J (s.1:Int))),(7,.d (.bool s.2.1))]) (fun s=>[(0,.row 4 (s.2.2.map Zb.enc) true false)]) (fun s=>s.1≤l.length∧s.2.2++(if s.2.1 then l.drop s.1 else QL (Zb.mk qL qW qH qF) (l.drop s.1))=QL (Zb.mk qL qW qH qF) l∧s.2.2.length≤s.1+s.2.1.toNat) (fun s=>l.length-s.1) (0,false,[]) ?hc ⟨by simp,by simp,by simp⟩ ?h0 ?step
     case hc=>simp +contextual -implicitDefEqProofs (maxSteps:=10^7) only[go_sem,seval,↓gZ]<;>exact rfl
     case h0=>rfl
     case step=>
      intro⟨i,b,o⟩ ⟨hi,hp,ho⟩ ih
      simp only at hi hp ho
      have hb:=Bool.toNat_le b
      by_cases hlt:i<l.length
      ·obtain⟨x,hx⟩:=Zp hlt
       have hw:=Zl (k:=i) (by omega)
       have hr:(o.length+1)*48≤140737488355328∧o.length≤140737488355327:=by omega
       have hr2:∀ n:Nat,n=o.length+1→(n+1)*48≤140737488355328∧n≤140737488355327:=fun n hn=>by omega
       have hr2:=hr2 _ rfl
       have hr3:o.length≤140737488355326:=by omega
       have e:=Zbb x.Label x.W x.H x.Flaws (hF x (List.mem_of_getElem? hx))
       rw[Zqt hx] at hp
       have hd:l.drop i=x :: l.drop (i+1):=by
        obtain⟨h1,h2⟩:=List.getElem?_eq_some_iff.1 hx
        rw[List.drop_eq_getElem_cons h1,h2]
       obtain⟨L,W,H,F⟩:=x
       simp only at e hp
       cases b with
       | true=>
        simp only[Bool.toNat_true] at ho
        rw[if_pos rfl] at hp
        simp +contextual -implicitDefEqProofs (maxSteps:=10^7) only[go_sem,seval,↓gZ,hx,hlt,hw,e,hr]
        refine ih (i+1,true,o++[⟨L,W,H,F⟩]) _ ⟨by simp only;omega,?_,by simp;omega⟩ (by simp only;omega) ?_
        ·rw[← hp,hd];simp
        ·simp +contextual -implicitDefEqProofs (maxSteps:=10^7) only[go_sem,seval,↓gZ]
         try (simp[Zb.enc];done)
       | false=>
        simp only[Bool.toNat_false] at ho
        rw[if_neg (by simp)] at hp
        by_cases hc:qL<L
        ·rw[if_pos hc] at hp
         simp +contextual -implicitDefEqProofs (maxSteps:=10^7) only[go_sem,seval,↓gZ,hx,hlt,hw,e,eq,hc,hr,hr2,hr3]
         refine ih (i+1,true,o++[(Zb.mk qL qW qH qF),⟨L,W,H,F⟩]) _ ⟨by simp only;omega,?_,by simp;omega⟩ (by simp only;omega) ?_
         ·rw[← hp,hd];simp
         ·simp +contextual -implicitDefEqProofs (maxSteps:=10^7) only[go_sem,seval,↓gZ]
          try (simp[Zb.enc];done)
        ·rw[if_neg hc] at hp
         simp +contextual -implicitDefEqProofs (maxSteps:=10^7) only[go_sem,seval,↓gZ,hx,hlt,hw,e,hc,hr]
         refine ih (i+1,false,o++[⟨L,W,H,F⟩]) _ ⟨by simp only;omega,?_,by simp;omega⟩ (by simp only;omega) ?_
         ·rw[← hp];simp
         ·simp +contextual -implicitDefEqProofs (maxSteps:=10^7) only[go_sem,seval,↓gZ]
          try (simp[Zb.enc];done)
      ·have:i=l.length:=by omega
       subst this
       have hr:(o.length+1)*48≤140737488355328∧o.length≤140737488355327:=by omega
       cases b with
       | true=>
        simp at hp
        simp +contextual -implicitDefEqProofs (maxSteps:=10^7) only[go_sem,seval,↓gZ]
        rw[hp]
       | false=>
        simp[QL] at hp
        simp +contextual -implicitDefEqProofs (maxSteps:=10^7) only[go_sem,seval,↓gZ,eq,hr]
        rw[← hp]
        try (simp[Zb.enc];done)
    ·have h:¬Uv (Zb.mk qL qW qH qF) l:=fun h=>v4 (hA.1 h).2
     have v4' : 0≤QJ 0 l qL:=by omega
     rw[decide_eq_false h,if_neg h]
     generalize QJ 0 l qL=fl at e3 v4'
     refine Zd Xs Ms QZ Zbk (by show 2≤_;decide) ?_
     simp +contextual -implicitDefEqProofs (maxSteps:=10^7) only[go_sem,seval,↓gZ,QZ,e1,e2,v3',e3,v4']
  ·rw[decide_eq_false v2] at e2
   have h:¬Uv (Zb.mk qL qW qH qF) l:=fun h=>v2 h.1.2
   rw[decide_eq_false h,if_neg h]
   refine Zd Xs Ms QZ Zbk (by show 2≤_;decide) ?_
   simp +contextual -implicitDefEqProofs (maxSteps:=10^7) only[go_sem,seval,↓gZ,QZ,e1,e2]
 ·rw[decide_eq_false v1] at e1
  have h:¬Uv (Zb.mk qL qW qH qF) l:=fun h=>v1 h.1.1
  rw[decide_eq_false h,if_neg h]
  refine Zd Xs Ms QZ Zbk (by show 2≤_;decide) ?_
  simp +contextual -implicitDefEqProofs (maxSteps:=10^7) only[go_sem,seval,↓gZ,QZ,e1]
theorem Zc6 (l:List Zc) (hl:l.length≤1000000):Zg Xs Ms Xu [(.d (.sl (l.map Zc.enc)))] []=some (.own 0,[.row 5 (l.map Zc.enc) true false]):=by
 refine Zp2 Xs Ms Znt ?_
 unfold ZpR
 simp only
 rw[if_pos ⟨by rw[Zvq];trivial,by rw[ZsN];trivial,by simp[ZZ];omega,by simp[ZZ];omega⟩]
theorem ZjQ {α β:Type} (f:α→β):∀ (l:List α) (i:Nat),(l.map f).eraseIdx i=(l.eraseIdx i).map f
 | [],_=>rfl
 | _ :: _,0=>rfl
 | x :: l,i+1=>by simp[ZjQ f l i]
theorem Znk (l:List Zc) (i:Nat) (hi:i<l.length):Zg Xs Ms Qa [.own 0,(.d (J i)),(.d (J ((i:Int)+1)))] [.row 5 (l.map Zc.enc) true false]=some (.own 1,[.row 0 [] true false,.row 5 ((l.eraseIdx i).map Zc.enc) true false]):=by
 refine Zp2 Xs Ms Zmi ?_
 unfold Zlg
 simp only
 rw[if_pos ⟨rfl,by omega,rfl,by simp;omega,by rw[Zvq];trivial,by rw[ZsN];trivial,rfl,rfl⟩,Int.toNat_natCast,ZjQ]
theorem Zbf (l:List Zc) (xW xH:Int) (xT:Bool) (xK xC:Int) (hl:l.length≤1000000) (hc:∀ y∈l,R64 (y.Count+xC)):Zg Xs Ms VM [(.d (.sl (l.map Zc.enc))),(.d (.agg [J xW,J xH,.bool xT,J xK,J xC]))] []=some (.own 0,[.row 5 ((XP ⟨xW,xH,xT,xK⟩ xC l).map Zc.enc) true false]):=by
 have e1:=Zc6 l hl
 have e2:=Ze5 l xW xH xT xK (by omega)
 have hr:(l.length+1)*40≤140737488355328∧l.length≤140737488355327:=by omega
 by_cases hf:Wg 0 l ⟨xW,xH,xT,xK⟩<0
 ·have hn:¬0≤Wg 0 l ⟨xW,xH,xT,xK⟩:=by omega
  rw[Zuh _ _ _ (Zh8 hf)]
  refine Zd Xs Ms U2 Zn5 (by show 2≤_;decide) ?_
  simp +contextual -implicitDefEqProofs (maxSteps:=10^7) only[go_sem,seval,↓gZ,U2,e1,e2,hn,hr]
  try (simp[Zc.enc];done)
 ·obtain⟨a,x,h1,h2,h3,h4⟩:=ZfI (by omega:0≤Wg 0 l ⟨xW,xH,xT,xK⟩)
  rw[Nat.zero_add] at h1
  rw[h1] at e2
  rw[Zug _ _ _ a x h2 h3 h4]
  have hcx:=hc x (List.mem_of_getElem? h2)
  obtain⟨⟨W,H,T,K⟩,C⟩:=x
  simp only[Pane.mk.injEq] at h3 hcx
  obtain⟨rfl,rfl,rfl,rfl⟩:=h3
  have u0:=wi (C+xC) hcx.1 hcx.2
  have hlt:=(List.getElem?_eq_some_iff.1 h2).1
  have ha:(0:Int)≤(a:Int):=by omega
  refine Zd Xs Ms U2 Zn5 (by show 2≤_;decide) ?_
  simp +contextual -implicitDefEqProofs (maxSteps:=10^7) only[go_sem,seval,↓gZ,U2,e1,e2,ha,h2,hlt,u0]
  try (simp[Zc.enc,List.map_set];done)
def tkV (l:List Zc) (p:Pane) (c:Int):AV×List Zt:=
 if Xy p c false l=true then (.tup [.own 0,(.d (.bool true))],[.row 5 ((Yc l p c).map Zc.enc) true false]) else (.tup [.own 0,(.d (.bool false))],[.row 5 [] true false])
theorem Zcr (l:List Zc) (xW xH:Int) (xT:Bool) (xK xC:Int) (hl:l.length≤1000000) (hu:UL l) (hc:∀ y∈l,R64 (y.Count-xC)):Zg Xs Ms WX [(.d (.sl (l.map Zc.enc))),(.d (.agg [J xW,J xH,.bool xT,J xK,J xC]))] []=some (tkV l ⟨xW,xH,xT,xK⟩ xC):=by
 have e1:=Zc6 l hl
 have e2:=Ze5 l xW xH xT xK (by omega)
 by_cases hf:Wg 0 l ⟨xW,xH,xT,xK⟩<0
 ·have hn:=ZfJ (c:=xC) (b:=false) (Zh8 hf)
  have ek:tkV l ⟨xW,xH,xT,xK⟩ xC=(.tup [.own 0,(.d (.bool false))],[.row 5 [] true false]):=by unfold tkV;rw[hn,if_neg (by simp)]
  rw[ek]
  refine Zd Xs Ms X1 Zdy (by show 2≤_;decide) ?_
  simp +contextual -implicitDefEqProofs (maxSteps:=10^7) only[go_sem,seval,↓gZ,X1,e1,e2,hf]
 ·obtain⟨a,x,h1,h2,h3,h4⟩:=ZfI (by omega:0≤Wg 0 l ⟨xW,xH,xT,xK⟩)
  rw[Nat.zero_add] at h1
  rw[h1] at e2
  obtain⟨k1,k2⟩:=Zmd (c:=xC) hu h2 h3
  have hcx:=hc x (List.mem_of_getElem? h2)
  obtain⟨⟨W,H,T,K⟩,C⟩:=x
  simp only[Pane.mk.injEq] at h3 hcx k1 k2
  obtain⟨rfl,rfl,rfl,rfl⟩:=h3
  have u0:=wi (C-xC) hcx.1 hcx.2
  have hlt:=(List.getElem?_eq_some_iff.1 h2).1
  have ha:¬(a:Int)<0:=by omega
  have hw:=Zl (k:=a) (by omega)
  have e3:=Znk (l.set a ⟨⟨W,H,T,K⟩,0⟩) a (by simpa using hlt)
  by_cases hlc:C<xC
  ·have hx:¬0≤C-xC:=by omega
   have ek:tkV l ⟨W,H,T,K⟩ xC=(.tup [.own 0,(.d (.bool false))],[.row 5 [] true false]):=by unfold tkV;rw[k1,decide_eq_false hx,if_neg (by simp)]
   rw[ek]
   refine Zd Xs Ms X1 Zdy (by show 2≤_;decide) ?_
   simp +contextual -implicitDefEqProofs (maxSteps:=10^7) only[go_sem,seval,↓gZ,X1,e1,e2,ha,h2,hlt,hlc]
  ·have hx:0≤C-xC:=by omega
   by_cases hz:C-xC=0
   ·have ek:tkV l ⟨W,H,T,K⟩ xC=(.tup [.own 0,(.d (.bool true))],[.row 5 ((l.eraseIdx a).map Zc.enc) true false]):=by unfold tkV;rw[k1,decide_eq_true hx,if_pos rfl,k2,if_neg (by omega)]
    rw[ek]
    have es:(l.set a ⟨⟨W,H,T,K⟩,0⟩).eraseIdx a=l.eraseIdx a:=by simp[List.eraseIdx_set_eq]
    rw[es,List.map_set] at e3
    simp only[Zc.enc] at e3
    have hcast:((a:Int)+1)=((a+1:Nat):Int):=by omega
    rw[hcast] at e3
    rw[hz] at u0
    refine Zd Xs Ms X1 Zdy (by show 2≤_;decide) ?_
    simp +contextual -implicitDefEqProofs (maxSteps:=10^7) only[go_sem,seval,↓gZ,X1,e1,e2,ha,h2,hlt,hlc,hz,u0,hw,e3,List.map_set,List.getElem?_set,List.length_set]
   ·have ek:tkV l ⟨W,H,T,K⟩ xC=(.tup [.own 0,(.d (.bool true))],[.row 5 ((l.set a ⟨⟨W,H,T,K⟩,C-xC⟩).map Zc.enc) true false]):=by unfold tkV;rw[k1,decide_eq_true hx,if_pos rfl,k2,if_pos (by omega)]
    rw[ek]
    refine Zd Xs Ms X1 Zdy (by show 2≤_;decide) ?_
    simp +contextual -implicitDefEqProofs (maxSteps:=10^7) only[go_sem,seval,↓gZ,X1,e1,e2,ha,h2,hlt,hlc,hz,u0,List.map_set,List.getElem?_set,List.length_set]
theorem V0 (sS:List Zb) (sO sD:List Zc) (sL sC:Int) (h:ZaE (Zo.mk sS sO sD sL sC)):Zg Xs Ms WU [(.d (.agg [.sl (sS.map Zb.enc),.sl (sO.map Zc.enc),.sl (sD.map Zc.enc),J sL,J sC]))] []=some (.agg [.own 0,.own 1,.own 2,(.d (J sL)),(.d (J sC))],[.deep 4 4 (sS.map Zb.enc) none,.row 5 (sO.map Zc.enc) true false,.row 5 (sD.map Zc.enc) true false]):=by
 obtain⟨h1,h2,h3,h4⟩:=h
 simp only at h1 h2 h3 h4
 have e1:=Zef sS (by omega) (fun x hx=>by have:=(h2 x hx).1;omega)
 have r1:sO.length*40≤140737488355328∧sO.length≤140737488355328:=by omega
 have r2:sD.length*40≤140737488355328∧sD.length≤140737488355328:=by omega
 refine Zd Xs Ms Zbm Zup (by show 1≤_;decide) ?_
 simp +contextual -implicitDefEqProofs (maxSteps:=10^7) only[go_sem,seval,↓gZ,Zbm,e1,r1,r2]
theorem Zat (xW xH:Int) (xT:Bool) (xK xC:Int):Zg Xs Ms Vc [(.d (.agg [J xW,J xH,.bool xT,J xK,J xC]))] []=some ((.d (.bool (decide (Ub ⟨⟨xW,xH,xT,xK⟩,xC⟩)))),[]):=by
 have e1:=Za7 xW xH xT xK
 refine Zd Xs Ms YA Zre (by show 1≤_;decide) ?_
 by_cases v1:VP ⟨xW,xH,xT,xK⟩
 ·rw[decide_eq_true v1] at e1
  by_cases v2:1≤xC
  ·by_cases v3:xC≤24
   ·have h:Ub ⟨⟨xW,xH,xT,xK⟩,xC⟩:=⟨v1,v2,v3⟩
    simp +contextual -implicitDefEqProofs (maxSteps:=10^7) only[go_sem,seval,↓gZ,YA,e1,v2,v3,h]
   ·have h:¬Ub ⟨⟨xW,xH,xT,xK⟩,xC⟩:=fun h=>v3 h.2.2
    simp +contextual -implicitDefEqProofs (maxSteps:=10^7) only[go_sem,seval,↓gZ,YA,e1,v2,v3,h]
  ·have h:¬Ub ⟨⟨xW,xH,xT,xK⟩,xC⟩:=fun h=>v2 h.2.1
   simp +contextual -implicitDefEqProofs (maxSteps:=10^7) only[go_sem,seval,↓gZ,YA,e1,v2,h]
 ·rw[decide_eq_false v1] at e1
  have h:¬Ub ⟨⟨xW,xH,xT,xK⟩,xC⟩:=fun h=>v1 h.1
  simp +contextual -implicitDefEqProofs (maxSteps:=10^7) only[go_sem,seval,↓gZ,YA,e1,h]
theorem ZrV (sS:List Zb) (sO sD:List Zc) (sL sC:Int) (eK eL eX eY eW eH epW epH:Int) (epT:Bool) (epK eC eo ea ep:Int) (et:Bool) (ek:List Zh) (hl:sS.length≤100000) (hn:¬((Uv ⟨eL,eW,eH,[]⟩ sS∧eX=0)∧eY=0)):Zg Xs Ms WW [.ptr 0 0,(.d (.agg [J eK,J eL,J eX,J eY,J eW,J eH,J epW,J epH,.bool epT,J epK,J eC,J eo,J ea,J ep,.bool et,.sl (ek.map Zh.enc)]))] [.box [.own 1,.own 2,.own 3,(.d (J sL)),(.d (J sC))],.deep 4 4 (sS.map Zb.enc) none,.row 5 (sO.map Zc.enc) true false,.row 5 (sD.map Zc.enc) true false]=some ((.d (.bool false)),[.box [.own 1,.own 2,.own 3,(.d (J sL)),(.d (J sC))],.deep 4 4 (sS.map Zb.enc) none,.row 5 (sO.map Zc.enc) true false,.row 5 (sD.map Zc.enc) true false]):=by
 by_cases hx:eX=0
 ·by_cases hy:eY=0
  ·have ha:¬Uv ⟨eL,eW,eH,[]⟩ sS:=fun h=>hn ⟨⟨h,hx⟩,hy⟩
   have e1:=ZjP sS eL eW eH [] hl
   rw[decide_eq_false ha,if_neg ha] at e1
   simp only[List.map_nil] at e1
   refine Zd Xs Ms XX Zdv (by show 2≤_;decide) ?_
   simp +contextual -implicitDefEqProofs (maxSteps:=10^7) only[go_sem,seval,↓gZ,XX,hx,hy,e1]
  ·refine Zd Xs Ms XX Zdv (by show 2≤_;decide) ?_
   simp +contextual -implicitDefEqProofs (maxSteps:=10^7) only[go_sem,seval,↓gZ,XX,hx,hy]
 ·refine Zd Xs Ms XX Zdv (by show 2≤_;decide) ?_
  simp +contextual -implicitDefEqProofs (maxSteps:=10^7) only[go_sem,seval,↓gZ,XX,hx]
theorem ZqM (sS:List Zb) (sO sD:List Zc) (sL sC:Int) (eK eL eX eY eW eH epW epH:Int) (epT:Bool) (epK eC eo ea ep:Int) (et:Bool) (ek:List Zh) (hv:ZH (Zo.mk sS sO sD sL sC)) (ha:Uv ⟨eL,eW,eH,[]⟩ sS) (hx:eX=0) (hy:eY=0):Zg Xs Ms WW [.ptr 0 0,(.d (.agg [J eK,J eL,J eX,J eY,J eW,J eH,J epW,J epH,.bool epT,J epK,J eC,J eo,J ea,J ep,.bool et,.sl (ek.map Zh.enc)]))] [.box [.own 1,.own 2,.own 3,(.d (J sL)),(.d (J sC))],.deep 4 4 (sS.map Zb.enc) none,.row 5 (sO.map Zc.enc) true false,.row 5 (sD.map Zc.enc) true false] =
  some ((.d (.bool true)),[.box [.own 4,.own 2,.own 3,(.d (J sL)),(.d (J (sC+eW*eH)))],.deep 4 4 (sS.map Zb.enc) none,.row 5 (sO.map Zc.enc) true false,.row 5 (sD.map Zc.enc) true false,.row 4 ((QL ⟨eL,eW,eH,[]⟩ sS).map Zb.enc) true false]):=by
 have h20:=hv.1.1
 simp only at h20
 have e1:=ZjP sS eL eW eH [] (by omega)
 rw[decide_eq_true ha,if_pos ha] at e1
 simp only[List.map_nil] at e1
 have hp:=ha.1.2.1
 simp only at hp
 subst hx hy
 have hb:VB ⟨0,0,eW,eH⟩:=by simp only[VB];omega
 have e2:=ZlY 0 0 eW eH hb
 have h3:=ZaZ hb
 simp only at h3
 have h4:=hv.2.2.2
 simp only at h4
 have u0:=wi (sC+eW*eH) (by omega) (by omega)
 generalize QL ⟨eL,eW,eH,[]⟩ sS=Q at *
 refine Zd Xs Ms XX Zdv (by show 2≤_;decide) ?_
 simp +contextual -implicitDefEqProofs (maxSteps:=10^7) only[go_sem,seval,↓gZ,XX,e1,e2,u0]
theorem Zum (sS:List Zb) (sO sD:List Zc) (sL sC:Int) (eK eL eX eY eW eH epW epH:Int) (epT:Bool) (epK eC eo ea ep:Int) (et:Bool) (ek:List Zh) (hl:sS.length≤100000) (hn:QJ 0 sS eL<0):Zg Xs Ms UV [.ptr 0 0,(.d (.agg [J eK,J eL,J eX,J eY,J eW,J eH,J epW,J epH,.bool epT,J epK,J eC,J eo,J ea,J ep,.bool et,.sl (ek.map Zh.enc)]))] [.box [.own 1,.own 2,.own 3,(.d (J sL)),(.d (J sC))],.deep 4 4 (sS.map Zb.enc) none,.row 5 (sO.map Zc.enc) true false,.row 5 (sD.map Zc.enc) true false]=some ((.d (.bool false)),[.box [.own 1,.own 2,.own 3,(.d (J sL)),(.d (J sC))],.deep 4 4 (sS.map Zb.enc) none,.row 5 (sO.map Zc.enc) true false,.row 5 (sD.map Zc.enc) true false]):=by
 have e1:=Y4 sS eL (by omega)
 refine Zd Xs Ms U3 Zn6 (by show 2≤_;decide) ?_
 simp +contextual -implicitDefEqProofs (maxSteps:=10^7) only[go_sem,seval,↓gZ,U3,e1,hn]
theorem ZrW (sS:List Zb) (sO sD:List Zc) (sL sC:Int) (eK eL eX eY eW eH epW epH:Int) (epT:Bool) (epK eC eo ea ep:Int) (et:Bool) (ek:List Zh) (hl:sS.length≤100000) (a:Nat) (ha:QJ 0 sS eL=(a:Int)) (xL xW xH:Int) (xF:List Box) (hx:sS[a]?=some (Zb.mk xL xW xH xF)) (hF:xF.length≤1000):Zg Xs Ms UV [.ptr 0 0,(.d (.agg [J eK,J eL,J eX,J eY,J eW,J eH,J epW,J epH,.bool epT,J epK,J eC,J eo,J ea,J ep,.bool et,.sl (ek.map Zh.enc)]))] [.box [.own 1,.own 2,.own 3,(.d (J sL)),(.d (J sC))],.deep 4 4 (sS.map Zb.enc) none,.row 5 (sO.map Zc.enc) true false,.row 5 (sD.map Zc.enc) true false] =
  some ((.d (.bool true)),[.box [.own 1,.own 2,.own 3,(.d (J sL)),(.d (J sC))],.row 4 ((sS.set a ⟨xL,xW,xH,xF++[⟨eX,eY,eW,eH⟩]⟩).map Zb.enc) true false,.row 5 (sO.map Zc.enc) true false,.row 5 (sD.map Zc.enc) true false]):=by
 have e1:=Y4 sS eL (by omega)
 rw[ha] at e1
 have h0:¬(a:Int)<0:=by omega
 have h0' : (0:Int)≤(a:Int):=by omega
 have hlt:=(List.getElem?_eq_some_iff.1 hx).1
 have hr:(xF.length+1)*32≤140737488355328∧xF.length≤140737488355327:=by omega
 have hfl:=Zqo xF
 refine Zd Xs Ms U3 Zn6 (by show 2≤_;decide) ?_
 simp +contextual -implicitDefEqProofs (maxSteps:=10^7) only[go_sem,seval,↓gZ,U3,e1,h0,h0',hx,hlt,hr,hfl]
 simp[Zb.enc,Box.enc,List.map_set]
theorem Zoy (sS:List Zb) (sO sD:List Zc) (sL sC:Int) (eK eL eX eY eW eH epW epH:Int) (epT:Bool) (epK eC eo ea ep:Int) (et:Bool) (ek:List Zh) (hn:¬Ub ⟨⟨epW,epH,epT,epK⟩,eC⟩):Zg Xs Ms Y8 [.ptr 0 0,(.d (.agg [J eK,J eL,J eX,J eY,J eW,J eH,J epW,J epH,.bool epT,J epK,J eC,J eo,J ea,J ep,.bool et,.sl (ek.map Zh.enc)]))] [.box [.own 1,.own 2,.own 3,(.d (J sL)),(.d (J sC))],.deep 4 4 (sS.map Zb.enc) none,.row 5 (sO.map Zc.enc) true false,.row 5 (sD.map Zc.enc) true false]=some ((.d (.bool false)),[.box [.own 1,.own 2,.own 3,(.d (J sL)),(.d (J sC))],.deep 4 4 (sS.map Zb.enc) none,.row 5 (sO.map Zc.enc) true false,.row 5 (sD.map Zc.enc) true false]):=by
 have e1:=Zat epW epH epT epK eC
 rw[decide_eq_false hn] at e1
 refine Zd Xs Ms Vj Zif (by show 2≤_;decide) ?_
 simp +contextual -implicitDefEqProofs (maxSteps:=10^7) only[go_sem,seval,↓gZ,Vj,e1]
theorem Znl (sS:List Zb) (sO sD:List Zc) (sL sC:Int) (eK eL eX eY eW eH epW epH:Int) (epT:Bool) (epK eC eo ea ep:Int) (et:Bool) (ek:List Zh) (hv:ZH (Zo.mk sS sO sD sL sC)) (hn:Ub ⟨⟨epW,epH,epT,epK⟩,eC⟩):Zg Xs Ms Y8 [.ptr 0 0,(.d (.agg [J eK,J eL,J eX,J eY,J eW,J eH,J epW,J epH,.bool epT,J epK,J eC,J eo,J ea,J ep,.bool et,.sl (ek.map Zh.enc)]))] [.box [.own 1,.own 2,.own 3,(.d (J sL)),(.d (J sC))],.deep 4 4 (sS.map Zb.enc) none,.row 5 (sO.map Zc.enc) true false,.row 5 (sD.map Zc.enc) true false] =
  some ((.d (.bool true)),[.box [.own 1,.own 4,.own 3,(.d (J sL)),(.d (J sC))],.deep 4 4 (sS.map Zb.enc) none,.row 5 (sO.map Zc.enc) true false,.row 5 (sD.map Zc.enc) true false,.row 5 ((XP ⟨epW,epH,epT,epK⟩ eC sO).map Zc.enc) true false]):=by
 have e1:=Zat epW epH epT epK eC
 rw[decide_eq_true hn] at e1
 have e2:=Zbf sO epW epH epT epK eC (by have:=hv.2.1.1;simp only at this;omega) (fun x hx=>by have:=(Z7 hv.2.1 x hx).2;have:=hn.2;simp only at this;unfold R64;omega)
 refine Zd Xs Ms Vj Zif (by show 2≤_;decide) ?_
 simp +contextual -implicitDefEqProofs (maxSteps:=10^7) only[go_sem,seval,↓gZ,Vj,e1,e2]
theorem Zoz (sS:List Zb) (sO sD:List Zc) (sL sC:Int) (eK eL eX eY eW eH epW epH:Int) (epT:Bool) (epK eC eo ea ep:Int) (et:Bool) (ek:List Zh) (hv:ZH (Zo.mk sS sO sD sL sC)) (hn:¬(Ub ⟨⟨epW,epH,epT,epK⟩,eC⟩∧Xy ⟨epW,epH,epT,epK⟩ eC false sD=true)):Zg Xs Ms Y9 [.ptr 0 0,(.d (.agg [J eK,J eL,J eX,J eY,J eW,J eH,J epW,J epH,.bool epT,J epK,J eC,J eo,J ea,J ep,.bool et,.sl (ek.map Zh.enc)]))] [.box [.own 1,.own 2,.own 3,(.d (J sL)),(.d (J sC))],.deep 4 4 (sS.map Zb.enc) none,.row 5 (sO.map Zc.enc) true false,.row 5 (sD.map Zc.enc) true false]=some ((.d (.bool false)),[.box [.own 1,.own 2,.own 3,(.d (J sL)),(.d (J sC))],.deep 4 4 (sS.map Zb.enc) none,.row 5 (sO.map Zc.enc) true false,.row 5 (sD.map Zc.enc) true false]):=by
 have e1:=Zat epW epH epT epK eC
 by_cases hl:Ub ⟨⟨epW,epH,epT,epK⟩,eC⟩
 ·rw[decide_eq_true hl] at e1
  have e2:=Zcr sD epW epH epT epK eC (by have:=hv.2.2.1.1;simp only at this;omega) (Zas hv.2.2.1) (fun x hx=>by have:=(Z7 hv.2.2.1 x hx).2;have:=hl.2;simp only at this;unfold R64;omega)
  unfold tkV at e2
  rw[if_neg (fun h=>hn ⟨hl,h⟩)] at e2
  refine Zd Xs Ms XZ Zei (by show 2≤_;decide) ?_
  simp +contextual -implicitDefEqProofs (maxSteps:=10^7) only[go_sem,seval,↓gZ,XZ,e1,e2]
 ·rw[decide_eq_false hl] at e1
  refine Zd Xs Ms XZ Zei (by show 2≤_;decide) ?_
  simp +contextual -implicitDefEqProofs (maxSteps:=10^7) only[go_sem,seval,↓gZ,XZ,e1]
theorem Znm (sS:List Zb) (sO sD:List Zc) (sL sC:Int) (eK eL eX eY eW eH epW epH:Int) (epT:Bool) (epK eC eo ea ep:Int) (et:Bool) (ek:List Zh) (hv:ZH (Zo.mk sS sO sD sL sC)) (hl:Ub ⟨⟨epW,epH,epT,epK⟩,eC⟩) (hk:Xy ⟨epW,epH,epT,epK⟩ eC false sD=true):Zg Xs Ms Y9 [.ptr 0 0,(.d (.agg [J eK,J eL,J eX,J eY,J eW,J eH,J epW,J epH,.bool epT,J epK,J eC,J eo,J ea,J ep,.bool et,.sl (ek.map Zh.enc)]))] [.box [.own 1,.own 2,.own 3,(.d (J sL)),(.d (J sC))],.deep 4 4 (sS.map Zb.enc) none,.row 5 (sO.map Zc.enc) true false,.row 5 (sD.map Zc.enc) true false] =
  some ((.d (.bool true)),[.box [.own 1,.own 4,.own 5,(.d (J (sL+eC*epW*epH))),(.d (J sC))],.deep 4 4 (sS.map Zb.enc) none,.row 5 (sO.map Zc.enc) true false,.row 5 (sD.map Zc.enc) true false,.row 5 ((XP ⟨epW,epH,epT,epK⟩ eC sO).map Zc.enc) true false,.row 5 ((Yc sD ⟨epW,epH,epT,epK⟩ eC).map Zc.enc) true false]):=by
 have e1:=Zat epW epH epT epK eC
 rw[decide_eq_true hl] at e1
 have e2:=Zcr sD epW epH epT epK eC (by have:=hv.2.2.1.1;simp only at this;omega) (Zas hv.2.2.1) (fun x hx=>by have:=(Z7 hv.2.2.1 x hx).2;have:=hl.2;simp only at this;unfold R64;omega)
 unfold tkV at e2
 rw[if_pos hk] at e2
 have e3:=Zbf sO epW epH epT epK eC (by have:=hv.2.1.1;simp only at this;omega) (fun x hx=>by have:=(Z7 hv.2.1 x hx).2;have:=hl.2;simp only at this;unfold R64;omega)
 have hla:=ZdG hl
 have h6:=hv.2.2.2
 simp only at hla h6
 have u0:=wi (eC*epW) (by omega) (by omega)
 have u1:=wi (eC*epW*epH) (by omega) (by omega)
 have u2:=wi (sL+eC*epW*epH) (by omega) (by omega)
 refine Zd Xs Ms XZ Zei (by show 2≤_;decide) ?_
 simp +contextual -implicitDefEqProofs (maxSteps:=10^7) only[go_sem,seval,↓gZ,XZ,e1,e2,e3,u0,u1,u2]
theorem ZoA (sS:List Zb) (sO sD:List Zc) (sL sC:Int) (eK eL eX eY eW eH epW epH:Int) (epT:Bool) (epK eC eo ea ep:Int) (et:Bool) (ek:List Zh) (hn:QJ 0 sS eL<0):Zg Xs Ms Va [.ptr 0 0,(.d (.agg [J eK,J eL,J eX,J eY,J eW,J eH,J epW,J epH,.bool epT,J epK,J eC,J eo,J ea,J ep,.bool et,.sl (ek.map Zh.enc)]))] [.box [.own 1,.own 2,.own 3,(.d (J sL)),(.d (J sC))],.deep 4 4 (sS.map Zb.enc) none,.row 5 (sO.map Zc.enc) true false,.row 5 (sD.map Zc.enc) true false]=some ((.d (.bool false)),[.box [.own 1,.own 2,.own 3,(.d (J sL)),(.d (J sC))],.deep 4 4 (sS.map Zb.enc) none,.row 5 (sO.map Zc.enc) true false,.row 5 (sD.map Zc.enc) true false]):=by
 have e1:=ZhW sS eL (fun h=>by omega)
 refine Zd Xs Ms Vk Zig (by show 2≤_;decide) ?_
 simp +contextual -implicitDefEqProofs (maxSteps:=10^7) only[go_sem,seval,↓gZ,Vk,e1]
theorem Znn (sS:List Zb) (sO sD:List Zc) (sL sC:Int) (eK eL eX eY eW eH epW epH:Int) (epT:Bool) (epK eC eo ea ep:Int) (et:Bool) (ek:List Zh) (hv:ZH (Zo.mk sS sO sD sL sC)) (a:Nat) (ha:QJ 0 sS eL=(a:Int)) (xL xW xH:Int) (xF:List Box) (hx:sS[a]?=some (Zb.mk xL xW xH xF)):Zg Xs Ms Va [.ptr 0 0,(.d (.agg [J eK,J eL,J eX,J eY,J eW,J eH,J epW,J epH,.bool epT,J epK,J eC,J eo,J ea,J ep,.bool et,.sl (ek.map Zh.enc)]))] [.box [.own 1,.own 2,.own 3,(.d (J sL)),(.d (J sC))],.deep 4 4 (sS.map Zb.enc) none,.row 5 (sO.map Zc.enc) true false,.row 5 (sD.map Zc.enc) true false] =
  some ((.d (.bool true)),[.box [.own 4,.own 2,.own 3,(.d (J (sL+xW*xH))),(.d (J sC))],.deep 4 4 (sS.map Zb.enc) none,.row 5 (sO.map Zc.enc) true false,.row 5 (sD.map Zc.enc) true false,.row 4 ((sS.eraseIdx a).map Zb.enc) true false]):=by
 have e1:=ZgJ sS eL hv.1 a ha xL xW xH xF hx
 have hxv:=(Z8 hv.1.2 _ (List.mem_of_getElem? hx)).1
 simp only at hxv
 have h6:=hv.2.2.2
 simp only at h6
 have hb:VB ⟨0,0,xW,xH⟩:=by simp only[VB];omega
 have h3:=ZaZ hb
 simp only at h3
 have u0:=wi (xW*xH) (by omega) (by omega)
 have u1:=wi (sL+xW*xH) (by omega) (by omega)
 refine Zd Xs Ms Vk Zig (by show 2≤_;decide) ?_
 simp +contextual -implicitDefEqProofs (maxSteps:=10^7) only[go_sem,seval,↓gZ,Vk,e1,u0,u1]
end Go.Proofs.YtpobhkoombldlaaGreat
