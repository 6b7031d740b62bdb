import Derived.Test.YtfnegoimdljanaaGreatDoorBC14
set_option linter.unusedSimpArgs false
set_option linter.unusedVariables false
namespace Go.Proofs.YtfnegoimdljanaaGreatDoor
open Go Go.Abs Go.Abs.E Go.Abs.L
set_option maxRecDepth 20000
set_option maxHeartbeats 4000000
def loP (d:Bool) (b:Box):Int:=if d then b.X else b.Y
def hiP (d:Bool) (b:Box):Int:=if d then b.X+b.W else b.Y+b.H
def tch (d:Bool) (l:List L.Place) (t:Int):Bool:=l.any fun c=>decide (t=loP d c.Box∨t=hiP d c.Box)
def crs (d:Bool) (l:List L.Place) (t:Int):Bool:=l.any fun c=>decide (loP d c.Box<t∧t<hiP d c.Box)
def Ww (d:Bool) (l:List L.Place) (fr:Int):Nat→List Int
 | 0=>[]
 | n+1=>Ww d l fr n++(if tch d l (fr+1+n)=true then [fr+1+(n:Int)] else [])
def Ze6 (d:Bool) (l:List L.Place) (fr:Int):Nat→Option Int
 | 0=>none
 | n+1=>match Ze6 d l fr n with
  | some x=>some x
  | none=>if tch d l (fr+1+n)=true∧crs d l (fr+1+n)=false then some (fr+1+(n:Int)) else none
def Ym (d:Bool) (l:List L.Place) (t:Int) (f:Bool):List L.Place:=l.filter fun c=>f==decide (hiP d c.Box≤t)
theorem ZxT {d:Bool} {l:List L.Place} {t:Int} {k:Nat} {c:L.Place} (hx:l[k]?=some c):tch d (l.take (k+1)) t=(tch d (l.take k) t || decide (t=loP d c.Box∨t=hiP d c.Box)):=by
 unfold tch;rw[KB,hx,List.any_append];simp
theorem ZxU {d:Bool} {l:List L.Place} {t:Int} {k:Nat} {c:L.Place} (hx:l[k]?=some c):crs d (l.take (k+1)) t=(crs d (l.take k) t || decide (loP d c.Box<t∧t<hiP d c.Box)):=by
 unfold crs;rw[KB,hx,List.any_append];simp
theorem ZkX {d:Bool} {l:List L.Place} {t:Int} {f:Bool} {k:Nat} {c:L.Place} (hx:l[k]?=some c):Ym d (l.take (k+1)) t f=Ym d (l.take k) t f++(if f=decide (hiP d c.Box≤t) then [c] else []):=by
 unfold Ym;rw[KB,hx,List.filter_append];by_cases h:f=decide (hiP d c.Box≤t)
 ·simp[h]
 ·rw[Kd h];have:(f==decide (hiP d c.Box≤t))=false:=by simpa using h
  simp[this]
theorem Zmm {d:Bool} {l:List L.Place} {fr:Int}:∀ {n:Nat} {x:Int},x∈Ww d l fr n→fr<x∧x<fr+1+n
 | 0,x,h=>by simp[Ww] at h
 | n+1,x,h=>by
  unfold Ww at h;rcases Kj.1 h with h | h
  ·have:=Zmm h;omega
  ·split at h
   ·simp at h;omega
   ·simp at h
theorem Zjw {d:Bool} {l:List L.Place} {fr:Int}:∀ (n:Nat),(Ww d l fr n).length≤n
 | 0=>by simp[Ww]
 | n+1=>by
  have:=Zjw (d:=d) (l:=l) (fr:=fr) n;unfold Ww;split<;>simp<;>omega
theorem ZkY {d:Bool} {l:List L.Place} {fr:Int}:∀ (n:Nat),(Ww d l fr n).find? (fun x=>!crs d l x)=Ze6 d l fr n
 | 0=>rfl
 | n+1=>by
  unfold Ww Ze6;rw[List.find?_append,ZkY n];cases hc:Ze6 d l fr n with
  | some x=>rfl
  | none=>
   by_cases ht:tch d l (fr+1+n)=true
   ·rw[Kg ht];by_cases hx:crs d l (fr+1+n)=false
    ·rw[Kg ⟨ht,hx⟩];simp[hx]
    ·rw[Kd (fun h=>hx h.2)];simp only[Bool.not_eq_false] at hx;simp[hx]
   ·rw[Kd ht,Kd (fun h=>ht h.1)];rfl
theorem Ze7 {d:Bool} {l:List L.Place} {fr:Int}:∀ {n:Nat} {x:Int},Ze6 d l fr n=some x→fr<x∧x<fr+1+n∧crs d l x=false∧tch d l x=true
 | 0,x,h=>by simp[Ze6] at h
 | n+1,x,h=>by
  unfold Ze6 at h;split at h
  ·rename_i y hy;cases h;have:=Ze7 hy;exact⟨this.1,o_,this.2.2⟩
  ·split at h
   ·rename_i hc;cases h;exact⟨o_,o_,hc.2,hc.1⟩
   ·cases h
theorem Zj3:∀ (l:List Int) (k:Nat) (n:Int),n∉l→XH k l n=-1
 | [],_,_,_=>rfl
 | x :: l,k,n,h=>by
  simp only[Ke,not_or] at h;unfold XH;rw[Kd (fun e=>h.1 e.symm),Zj3 l (k+1) n h.2]
theorem Zj4:∀ (l:List Int) (k:Nat) (n:Int),n∈l→0≤XH k l n
 | [],_,_,h=>by simp at h
 | x :: l,k,n,h=>by
  unfold XH;split
  ·omega
  ·rename_i aa;rcases Ke.1 h with rfl | h
   ·exact absurd rfl aa
   ·exact Zj4 l (k+1) n h
def Za5 (d:Bool) (b:Box) (a:Int):Box:=if d then ⟨b.X,b.Y,a,b.H⟩ else ⟨b.X,b.Y,b.W,a⟩
def Uj (d:Bool) (b:Box) (a:Int):Box:=if d then ⟨b.X+a,b.Y,b.W-a,b.H⟩ else ⟨b.X,b.Y+a,b.W,b.H-a⟩
def Zg3 (d:Bool) (a:Int):Option BT→Option BT→Option BT
 | some p,some q=>some (.cut d a p q)
 | _,_=>none
def Zcs (l:List L.Place) (b:Box):Option (Bool×Int):=match Ze6 true l b.X (b.W-1).toNat with
 | some x=>some (true,x)
 | none=>match Ze6 false l b.Y (b.H-1).toNat with
  | some y=>some (false,y)
  | none=>none
def Y4:Nat→List L.Place→Box→Option BT
 | 0,_,_=>none
 | n+1,l,b=>match l with
  | []=>some .waste
  | c :: r=>if r=[]∧c.Box=b then some (.pane c.Pane c.Turned) else match Zcs (c :: r) b with
   | some (d,x)=>Zg3 d (x-loP d b) (Y4 n (Ym d (c :: r) x true) (Za5 d b (x-loP d b))) (Y4 n (Ym d (c :: r) x false) (Uj d b (x-loP d b)))
   | none=>none
def InL (l:List L.Place) (b:Box):Prop:=∀ c∈l,VB c.Box∧QI c.Box b
theorem Zf6 {l:List L.Place} {b:Box} {d:Bool} {x:Int} (h:Zcs l b=some (d,x)):loP d b<x∧x<hiP d b∧crs d l x=false:=by
 unfold Zcs at h;split at h
 ·rename_i y hy;cases h;have:=Ze7 hy;exact⟨this.1,by simp only[hiP,Km];omega,this.2.2.1⟩
 ·split at h
  ·rename_i y hy;cases h;have:=Ze7 hy;exact⟨this.1,by simp only[hiP,Ka,Kn];omega,this.2.2.1⟩
  ·cases h
theorem ZAZ {d:Bool} {l:List L.Place} {x:Int} (h:crs d l x=false):∀ c∈l,hiP d c.Box≤x∨x≤loP d c.Box:=fun c hc=>by
 have:=List.any_eq_false.1 h c hc;simp only[Ko] at this;omega
theorem Zqf {l:List L.Place} {b:Box} {d:Bool} {x:Int} (hb:VB b) (h:InL l b) (hx:loP d b<x∧x<hiP d b) (hc:crs d l x=false) :
  (VB (Za5 d b (x-loP d b))∧InL (Ym d l x true) (Za5 d b (x-loP d b)))∧VB (Uj d b (x-loP d b))∧InL (Ym d l x false) (Uj d b (x-loP d b)):=by
 have hn:=ZAZ hc;cases d
 ·simp only[loP,hiP,Za5,Uj,Ka,Kn] at hx hn ⊢;simp only[VB] at hb;refine⟨⟨by simp only[VB];omega,fun c hm=>?_⟩,by simp only[VB];omega,fun c hm=>?_⟩
  ·obtain⟨h1,h2⟩:=LY.1 hm;have h3:=h c h1;simp only[hiP,Ka,Kn,beq_iff_eq] at h2;have h4:=of_decide_eq_true h2.symm;simp only[QI] at h3 ⊢;exact⟨h3.1,o_⟩
  ·obtain⟨h1,h2⟩:=LY.1 hm;have h3:=h c h1;have h5:=hn c h1;simp only[hiP,Ka,Kn,beq_iff_eq] at h2;have h4:=of_decide_eq_false h2.symm;simp only[QI] at h3 ⊢;exact⟨h3.1,o_⟩
 ·simp only[loP,hiP,Za5,Uj,Km] at hx hn ⊢;simp only[VB] at hb;refine⟨⟨by simp only[VB];omega,fun c hm=>?_⟩,by simp only[VB];omega,fun c hm=>?_⟩
  ·obtain⟨h1,h2⟩:=LY.1 hm;have h3:=h c h1;simp only[hiP,Km,beq_iff_eq] at h2;have h4:=of_decide_eq_true h2.symm;simp only[QI] at h3 ⊢;exact⟨h3.1,o_⟩
  ·obtain⟨h1,h2⟩:=LY.1 hm;have h3:=h c h1;have h5:=hn c h1;simp only[hiP,Km,beq_iff_eq] at h2;have h4:=of_decide_eq_false h2.symm;simp only[QI] at h3 ⊢;exact⟨h3.1,o_⟩
def plV:Option BT→AV×List Zm
 | some b=>match b.plan with
  | .mk o a q t ks=>(.tup [.agg [(.d (J o)),(.d (J a)),(.d (J q)),(.d (.bool t)),.own 0],(.d (.bool true))],[.row 5 (ks.map Ze.enc) true false])
 | none=>(.tup [.agg [(.d (J 0)),(.d (J 0)),(.d (J 0)),(.d (.bool false)),.own 0],(.d (.bool false))],[.row 5 [] true false])
theorem Zo4 (l:List L.Place) (d:Bool) (fr to:Int) (hl:l.length≤1000) (hc:∀ c∈l,VB c.Box) (h0:0≤fr) (h1:fr<to) (h2:to≤1000):v_ 138 [(.d (.sl (l.map Place.enc))),(.d (J (Qb d))),(.d (J fr)),(.d (J to))] []=some (.own 0,[.row 1 ((Ww d l fr (to-fr-1).toNat).map XA) true false]):=by
 have w0:=wi (fr+1) o_ o_;refine cE ?_;simp (maxSteps:=9^7) +contextual -implicitDefEqProofs only[go_sem,seval,Zoq,w0];refine X1 Xs Ms (st0:=?st0) (α:=Nat) (fun n=>[(10,.d (J (fr+1+(n:Int))))]) (fun n=>[(0,.row 1 ((Ww d l fr n).map XA) true false)]) (fun n=>(n:Int)≤to-fr-1) (fun n=>(to-fr-1).toNat-n) 0 ?hc o_ ?h0 ?step
 case hc=>simp (maxSteps:=9^7) +contextual -implicitDefEqProofs only[go_sem,seval]<;>exact rfl
 case h0=>simp only[Ww,Kp,Int.natCast_zero,Int.add_zero];rfl
 case step=>
  intro n hn ih;by_cases ah:fr+1+(n:Int)<to
  ·have wt:=wi (fr+1+(n:Int)+1) o_ o_;have ak:=Zjw (d:=d) (l:=l) (fr:=fr) n;have ai:fr+1+(n:Int)∉Ww d l fr n:=fun h=>by have:=Zmm h;omega
   have aj:fr+1+((n+1:Nat):Int)=fr+1+(n:Int)+1:=o_
   have af:Ww d l fr (n+1)=Ww d l fr n++(if tch d l (fr+1+n)=true then [fr+1+(n:Int)] else []):=rfl;generalize ht:fr+1+(n:Int)=t at *;simp (maxSteps:=9^7) +contextual -implicitDefEqProofs only[go_sem,seval,ah];refine X1 Xs Ms (st0:=?st1) (α:=Nat) (fun i=>[(11,.d (J (i:Int)))]) (fun i=>[(0,.row 1 ((Ww d l fr n++(if tch d (l.take i) t=true then [t] else [])).map XA) true false)]) (fun i=>i≤l.length) (fun i=>l.length-i) 0 ?hc2 o_ ?h02 ?step2
   case hc2=>simp (maxSteps:=9^7) +contextual -implicitDefEqProofs only[go_sem,seval]<;>exact rfl
   case h02=>
    have e:tch d (l.take 0) t=false:=by simp[tch]
    simp only[e,Ka,Kn,KE];rfl
   case step2=>
    intro i hi ad;by_cases ab:i<l.length
    ·obtain⟨c,hx⟩:=Zn ab;have hw:=Zg (k:=i) o_;have aa:=ZxT (d:=d) (t:=t) hx;have hcb:=hc c (Kb hx);obtain⟨P,T,⟨X,Y,W,H⟩⟩:=c;simp only[VB] at hcb;simp only[loP,hiP] at aa;have wx:=wi (X+W) o_ o_;have wy:=wi (Y+H) o_ o_;have ae:=Zmj (Ww d l fr n++(if tch d (l.take i) t=true then [t] else [])) t (by split<;>simp<;>omega);by_cases hb:tch d (l.take i) t=true
     ·rw[Kg hb] at ae ⊢;have ag:=Zj4 (Ww d l fr n++[t]) 0 t (by simp);generalize XH 0 (Ww d l fr n++[t]) t=z at ae ag;have hz:¬z<0:=o_
      rw[hb,Bool.true_or] at aa;cases d with
      | true=>
       by_cases hm:t=X∨t=X+W
       ·simp (maxSteps:=9^7) +contextual -implicitDefEqProofs only[go_sem,seval,hx,ab,hw,wx,wy,Qb,hm,ae,hz,← Li];refine ad (i+1) _ o_ o_ ?_;rw[aa];simp (maxSteps:=9^7) +contextual -implicitDefEqProofs only[go_sem,seval,Qb]
       ·simp (maxSteps:=9^7) +contextual -implicitDefEqProofs only[go_sem,seval,hx,ab,hw,wx,wy,Qb,hm,← Li];refine ad (i+1) _ o_ o_ ?_;rw[aa];simp (maxSteps:=9^7) +contextual -implicitDefEqProofs only[go_sem,seval,Qb]
      | false=>
       by_cases hm:t=Y∨t=Y+H
       ·simp (maxSteps:=9^7) +contextual -implicitDefEqProofs only[go_sem,seval,hx,ab,hw,wx,wy,Qb,hm,ae,hz,← Li];refine ad (i+1) _ o_ o_ ?_;rw[aa];simp (maxSteps:=9^7) +contextual -implicitDefEqProofs only[go_sem,seval,Qb]
       ·simp (maxSteps:=9^7) +contextual -implicitDefEqProofs only[go_sem,seval,hx,ab,hw,wx,wy,Qb,hm,← Li];refine ad (i+1) _ o_ o_ ?_;rw[aa];simp (maxSteps:=9^7) +contextual -implicitDefEqProofs only[go_sem,seval,Qb]
     ·rw[Kd hb,KE] at ae ⊢;rw[Zj3 _ _ _ ai] at ae;simp only[LD] at hb;rw[hb,LU] at aa;have hr:((Ww d l fr n).length+1)*8≤140737488355328∧(Ww d l fr n).length≤140737488355327:=o_
      cases d with
      | true=>
       simp only[Km] at aa;by_cases hm:t=X∨t=X+W
       ·rw[Ki hm] at aa;simp (maxSteps:=9^7) +contextual -implicitDefEqProofs only[go_sem,seval,hx,ab,hw,wx,wy,Qb,hm,ae,hr,← Li];refine ad (i+1) _ o_ o_ ?_;rw[aa];simp (maxSteps:=9^7) +contextual -implicitDefEqProofs only[go_sem,seval,Qb,KJ]
       ·rw[Kk hm] at aa;simp (maxSteps:=9^7) +contextual -implicitDefEqProofs only[go_sem,seval,hx,ab,hw,wx,wy,Qb,hm,← Li];refine ad (i+1) _ o_ o_ ?_;rw[aa];simp (maxSteps:=9^7) +contextual -implicitDefEqProofs only[go_sem,seval,Qb,KE]
      | false=>
       simp only[Ka,Kn] at aa;by_cases hm:t=Y∨t=Y+H
       ·rw[Ki hm] at aa;simp (maxSteps:=9^7) +contextual -implicitDefEqProofs only[go_sem,seval,hx,ab,hw,wx,wy,Qb,hm,ae,hr,← Li];refine ad (i+1) _ o_ o_ ?_;rw[aa];simp (maxSteps:=9^7) +contextual -implicitDefEqProofs only[go_sem,seval,Qb,KJ]
       ·rw[Kk hm] at aa;simp (maxSteps:=9^7) +contextual -implicitDefEqProofs only[go_sem,seval,hx,ab,hw,wx,wy,Qb,hm,← Li];refine ad (i+1) _ o_ o_ ?_;rw[aa];simp (maxSteps:=9^7) +contextual -implicitDefEqProofs only[go_sem,seval,Qb,KE]
    ·have:i=l.length:=o_
     subst this;rw[KH (Kr _)];rw[← af];simp (maxSteps:=9^7) +contextual -implicitDefEqProofs only[go_sem,seval,wt];refine ih (n+1) _ o_ o_ ?_;simp (maxSteps:=9^7) +contextual -implicitDefEqProofs only[go_sem,seval,aj]
  ·have:(to-fr-1).toNat=n:=o_
   rw[this];simp (maxSteps:=9^7) +contextual -implicitDefEqProofs only[go_sem,seval,ah]
theorem ZER {d:Bool} {l:List L.Place} {t:Int} {c:L.Place} (hc:c∈l) (h:loP d c.Box<t∧t<hiP d c.Box):crs d l t=true:=LR.2 ⟨c,hc,Ki h⟩
def ZuV (d:Bool) (l:List L.Place) (t:Int) (f:Bool):AV×List Zm:=if crs d l t=true then (.tup [.own 0,(.d (.bool false))],[.row 6 [] true false]) else (.tup [.own 0,(.d (.bool true))],[.row 6 ((Ym d l t f).map Place.enc) true false])
theorem Zsh (l:List L.Place) (d:Bool) (t:Int) (f:Bool) (hl:l.length≤1000) (hc:∀ c∈l,VB c.Box):v_ 139 [(.d (.sl (l.map Place.enc))),(.d (J (Qb d))),(.d (J t)),(.d (.bool f))] []=some (ZuV d l t f):=by
 have bb:∀ a b:Bool,Zpu .eql true (.d (.bool a)) (.d (.bool b))=QR (.d (.bool (a==b))):=fun _ _=>rfl;refine cE ?_;simp (maxSteps:=9^7) +contextual -implicitDefEqProofs only[go_sem,seval,Zne];refine LO (α:=Nat) (fun i=>[(11,.d (J (i:Int)))]) (fun i=>[(0,.row 6 ((Ym d (l.take i) t f).map Place.enc) true false)]) (fun i=>i≤l.length∧crs d (l.take i) t=false) (fun i=>l.length-i) 0 ⟨o_,by simp[crs]⟩ ?_;intro i ⟨hi,hp⟩ ih;by_cases ad:i<l.length
 ·obtain⟨c,hx⟩:=Zn ad;have hw:=Zg (k:=i) o_;have ab:=ZxU (d:=d) (t:=t) hx;have aa:=ZkX (d:=d) (t:=t) (f:=f) hx;have ae:=@ZER d l t c (Kb hx);have hcb:=hc c (Kb hx);have ag:(Ym d (l.take i) t f).length≤i:=Ky (Kan _ _) (by simp;omega);have hr:((Ym d (l.take i) t f).length+1)*48≤140737488355328∧(Ym d (l.take i) t f).length≤140737488355327:=o_
  obtain⟨P,T,⟨X,Y,W,H⟩⟩:=c;simp only[VB] at hcb;simp only[loP,hiP] at ab aa ae;have wx:=wi (X+W) o_ o_;have wy:=wi (Y+H) o_ o_;rw[hp,LU] at ab;cases d with
  | true=>
   simp only[Km] at ab aa ae;by_cases hm:X<t∧t<X+W
   ·have af:=ae hm;unfold ZuV;rw[Kg af];simp (maxSteps:=9^7) +contextual -implicitDefEqProofs only[go_sem,seval,hx,ad,hw,wx,wy,Qb,hm,← Lf]
   ·rw[Kk hm] at ab;by_cases hf:f=decide (X+W≤t)
    ·have hg:(f==decide (X+W≤t))=true:=by rw[hf];simp
     rw[Kg hf] at aa;simp (maxSteps:=9^7) +contextual -implicitDefEqProofs only[go_sem,seval,hx,ad,hw,wx,wy,Qb,hm,bb,hg,hr,← Lf];refine ih (i+1) _ ⟨o_,ab⟩ o_ ?_;rw[aa];simp (maxSteps:=9^7) +contextual -implicitDefEqProofs only[go_sem,seval,Qb,KJ]
    ·have hg:(f==decide (X+W≤t))=false:=by simpa using hf
     rw[Kd hf] at aa;simp (maxSteps:=9^7) +contextual -implicitDefEqProofs only[go_sem,seval,hx,ad,hw,wx,wy,Qb,hm,bb,hg,← Lf];refine ih (i+1) _ ⟨o_,ab⟩ o_ ?_;rw[aa];simp (maxSteps:=9^7) +contextual -implicitDefEqProofs only[go_sem,seval,Qb,KE]
  | false=>
   simp only[Ka,Kn] at ab aa ae;by_cases hm:Y<t∧t<Y+H
   ·have af:=ae hm;unfold ZuV;rw[Kg af];simp (maxSteps:=9^7) +contextual -implicitDefEqProofs only[go_sem,seval,hx,ad,hw,wx,wy,Qb,hm,← Lf]
   ·rw[Kk hm] at ab;by_cases hf:f=decide (Y+H≤t)
    ·have hg:(f==decide (Y+H≤t))=true:=by rw[hf];simp
     rw[Kg hf] at aa;simp (maxSteps:=9^7) +contextual -implicitDefEqProofs only[go_sem,seval,hx,ad,hw,wx,wy,Qb,hm,bb,hg,hr,← Lf];refine ih (i+1) _ ⟨o_,ab⟩ o_ ?_;rw[aa];simp (maxSteps:=9^7) +contextual -implicitDefEqProofs only[go_sem,seval,Qb,KJ]
    ·have hg:(f==decide (Y+H≤t))=false:=by simpa using hf
     rw[Kd hf] at aa;simp (maxSteps:=9^7) +contextual -implicitDefEqProofs only[go_sem,seval,hx,ad,hw,wx,wy,Qb,hm,bb,hg,← Lf];refine ih (i+1) _ ⟨o_,ab⟩ o_ ?_;rw[aa];simp (maxSteps:=9^7) +contextual -implicitDefEqProofs only[go_sem,seval,Qb,KE]
 ·have:i=l.length:=o_
  subst this;rw[KH (Kr _)] at hp;unfold ZuV;rw[Kd (by rw[hp];simp)];simp (maxSteps:=9^7) +contextual -implicitDefEqProofs only[go_sem,seval,KI]
theorem ZzJ (A B:List L.Place) (bX bY bW bH:Int) (d:Bool) (a:Int) (l r:Option BT) (hb:VB (Box.mk bX bY bW bH)) (ha:0≤a∧a≤400)
  (hl:v_ 99 [(.d (.sl (A.map Place.enc))),.d (Za5 d (Box.mk bX bY bW bH) a).enc] []=some (plV l))
  (hr:v_ 99 [(.d (.sl (B.map Place.enc))),.d (Uj d (Box.mk bX bY bW bH) a).enc] []=some (plV r)) :
  v_ 140 [(.d (.sl (A.map Place.enc))),(.d (.sl (B.map Place.enc))),(.d (.agg [J bX,J bY,J bW,J bH])),(.d (J (Qb d))),(.d (J a))] []=some (plV (Zg3 d a l r)):=by
 simp only[VB] at hb;have w1:=wi (bX+a) o_ o_;have w2:=wi (bY+a) o_ o_;have w3:=wi (bW-a) o_ o_;have w4:=wi (bH-a) o_ o_;have aa:∀ b:BT,∃ o a q t ks,b.plan=.mk o a q t ks:=fun b=>by cases b.plan;exact⟨_,_,_,_,_,rfl⟩
 cases l with
 | none=>
  cases r with
  | none=>
   simp only[Zg3,plV] at hl hr ⊢;cases d<;>simp only[Za5,Uj,Box.enc,Qb,Km,Ka,Kn] at hl hr ⊢
   ·refine cE ?_;simp (maxSteps:=9^7) +contextual -implicitDefEqProofs only[go_sem,seval,Q1,w1,w2,w3,w4,hl,hr]
   ·refine cE ?_;simp (maxSteps:=9^7) +contextual -implicitDefEqProofs only[go_sem,seval,Q1,w1,w2,w3,w4,hl,hr]
  | some q=>
   obtain⟨ro,ra,rq,rt,rk,er⟩:=aa q;simp only[Zg3,plV,er] at hl hr ⊢;cases d<;>simp only[Za5,Uj,Box.enc,Qb,Km,Ka,Kn] at hl hr ⊢
   ·refine cE ?_;simp (maxSteps:=9^7) +contextual -implicitDefEqProofs only[go_sem,seval,Q1,w1,w2,w3,w4,hl,hr]
   ·refine cE ?_;simp (maxSteps:=9^7) +contextual -implicitDefEqProofs only[go_sem,seval,Q1,w1,w2,w3,w4,hl,hr]
 | some p=>
  obtain⟨lo,la,lq,lt,lk,el⟩:=aa p;cases r with
  | none=>
   simp only[Zg3,plV,el] at hl hr ⊢;cases d<;>simp only[Za5,Uj,Box.enc,Qb,Km,Ka,Kn] at hl hr ⊢
   ·refine cE ?_;simp (maxSteps:=9^7) +contextual -implicitDefEqProofs only[go_sem,seval,Q1,w1,w2,w3,w4,hl,hr]
   ·refine cE ?_;simp (maxSteps:=9^7) +contextual -implicitDefEqProofs only[go_sem,seval,Q1,w1,w2,w3,w4,hl,hr]
  | some q=>
   obtain⟨ro,ra,rq,rt,rk,er⟩:=aa q;simp only[Zg3,plV,BT.plan,el,er] at hl hr ⊢;cases d<;>simp only[Za5,Uj,Box.enc,Qb,Km,Ka,Kn] at hl hr ⊢
   ·refine cE ?_;simp (maxSteps:=9^7) +contextual -implicitDefEqProofs only[go_sem,seval,Q1,w1,w2,w3,w4,hl,hr]
   ·refine cE ?_;simp (maxSteps:=9^7) +contextual -implicitDefEqProofs only[go_sem,seval,Q1,w1,w2,w3,w4,hl,hr]
theorem ZuW {l:List Int} {p:Int→Bool} {k:Nat} {x:Int} (hx:l[k]?=some x):(l.drop k).find? p=if p x=true then some x else (l.drop (k+1)).find? p:=by
 obtain⟨h1,h2⟩:=Kc.1 hx;rw[Ku h1,h2,List.find?_cons];cases p x<;>rfl
theorem ZCd {n:Nat} {c:L.Place} {r:List L.Place} {b:Box} {d:Bool} {x:Int} (hn:¬(r=[]∧c.Box=b)) (h:Zcs (c :: r) b=some (d,x)) :
  Y4 (n+1) (c :: r) b=Zg3 d (x-loP d b) (Y4 n (Ym d (c :: r) x true) (Za5 d b (x-loP d b))) (Y4 n (Ym d (c :: r) x false) (Uj d b (x-loP d b))):=by
 rw[Y4,Kd hn,h]
theorem ZDB {n:Nat} {c:L.Place} {r:List L.Place} {b:Box} (hn:¬(r=[]∧c.Box=b)) (h:Zcs (c :: r) b=none):Y4 (n+1) (c :: r) b=none:=by
 rw[Y4,Kd hn,h]
theorem Zct (b:BT):∃ o a q t ks,b.plan=.mk o a q t ks:=by cases b.plan;exact⟨_,_,_,_,_,rfl⟩
theorem Zsi {b:Box} {d:Bool} {x:Int} (hb:VB b) (hx:loP d b<x∧x<hiP d b) :
  ((Za5 d b (x-loP d b)).W+(Za5 d b (x-loP d b)).H).toNat<(b.W+b.H).toNat∧((Uj d b (x-loP d b)).W+(Uj d b (x-loP d b)).H).toNat<(b.W+b.H).toNat:=by
 simp only[VB] at hb;cases d<;>simp only[loP,hiP,Za5,Uj,Km,Ka,Kn] at hx ⊢ <;> omega
theorem Zjx (d:Bool) (l:List L.Place) (t:Int) (f:Bool):(Ym d l t f).length≤l.length:=Kan _ _
theorem Ztu:∀ (n:Nat) (l:List L.Place) (bX bY bW bH:Int),VB (Box.mk bX bY bW bH)→InL l (Box.mk bX bY bW bH)→(bW+bH).toNat≤n→l.length≤1000→v_ 99 [(.d (.sl (l.map Place.enc))),(.d (.agg [J bX,J bY,J bW,J bH]))] []=some (plV (Y4 n l (Box.mk bX bY bW bH))):=by
 intro n
 induction n with
 | zero=>
  intro l bX bY bW bH hb _ hn _;simp only[VB] at hb;omega
 | succ n IH=>
  intro l bX bY bW bH hb hl hn aa;cases l with
  | nil=>
   simp only[Y4,plV,BT.plan,Kp];refine cE ?_;simp (maxSteps:=9^7) +contextual -implicitDefEqProofs only[go_sem,seval,Vo]
  | cons c r=>
   have ah:∀ y∈c :: r,VB y.Box:=fun y hy=>(hl y hy).1;by_cases hp:r=[]∧c.Box=(Box.mk bX bY bW bH)
   ·obtain⟨rfl,hcb⟩:=hp;obtain⟨P,T,⟨X,Y,W,H⟩⟩:=c;simp only at hcb;have aq:Y4 (n+1) [⟨P,T,⟨X,Y,W,H⟩⟩] (Box.mk bX bY bW bH)=some (.pane P T):=by rw[Y4,Kg ⟨rfl,hcb⟩]
    rw[aq];simp only[Box.mk.injEq] at hcb;obtain⟨rfl,rfl,rfl,rfl⟩:=hcb;simp only[plV,BT.plan];refine cE ?_;simp (maxSteps:=9^7) +contextual -implicitDefEqProofs only[go_sem,seval,Vo]
   ·have ai:=hb;simp only[VB] at hb;have am:(r=[]→¬(c.Box.X=bX∧c.Box.Y=bY∧c.Box.W=bW∧c.Box.H=bH)):=fun e h=>hp ⟨e,by cases hcB:c.Box;rw[hcB] at h;obtain⟨h1,h2,h3,h4⟩:=h;simp only at h1 h2 h3 h4;rw[h1,h2,h3,h4]⟩;have e1:=Zo4 (c :: r) true bX (bX+bW);have e2:=Zo4 (c :: r) false bY (bY+bH);have aj:∀ d x,Zcs (c :: r) (Box.mk bX bY bW bH)=some (d,x)→v_ 140 [.d (.sl ((Ym d (c :: r) x true).map Place.enc)),.d (.sl ((Ym d (c :: r) x false).map Place.enc)),(.d (.agg [J bX,J bY,J bW,J bH])),(.d (J (Qb d))),(.d (J (x-loP d (Box.mk bX bY bW bH))))] []=some (plV (Y4 (n+1) (c :: r) (Box.mk bX bY bW bH))):=fun d x h=>by
     obtain⟨h1,h2,h3⟩:=Zf6 h;obtain⟨⟨g1,g2⟩,g3,g4⟩:=Zqf ai hl ⟨h1,h2⟩ h3;obtain⟨s1,s2⟩:=Zsi ai ⟨h1,h2⟩;rw[ZCd hp h];simp only at s1 s2;refine ZzJ _ _ bX bY bW bH d _ _ _ ai (by cases d<;>simp only[loP,hiP,Km,Ka,Kn] at h1 h2 ⊢ <;> omega) ?_ ?_
     ·exact IH _ _ _ _ _ g1 g2 o_ (Ky (Zjx _ _ _ _) aa)
     ·exact IH _ _ _ _ _ g3 g4 o_ (Ky (Zjx _ _ _ _) aa)
    have pT:=fun d t=>Zsh (c :: r) d t true aa ah;have pF:=fun d t=>Zsh (c :: r) d t false aa ah;have w1:=wi (bX+bW) o_ o_;have w2:=wi (bY+bH) o_ o_;have ar:(bX+bW-bX-1).toNat=(bW-1).toNat:=o_
    have au:(bY+bH-bY-1).toNat=(bH-1).toNat:=o_
    have E1:=e1 aa ah o_ o_ o_;have E2:=e2 aa ah o_ o_ o_;rw[ar] at E1;rw[au] at E2;have F1:=ZkY (d:=true) (l:=c :: r) (fr:=bX) (bW-1).toNat;have F2:=ZkY (d:=false) (l:=c :: r) (fr:=bY) (bH-1).toNat;have L1:=Zjw (d:=true) (l:=c :: r) (fr:=bX) (bW-1).toNat;have L2:=Zjw (d:=false) (l:=c :: r) (fr:=bY) (bH-1).toNat;have B1:=fun x=>@Zmm true (c :: r) bX (bW-1).toNat x;have B2:=fun x=>@Zmm false (c :: r) bY (bH-1).toNat x;generalize ay:Ww true (c :: r) bX (bW-1).toNat=G1 at E1 F1 L1 B1;generalize az:Ww false (c :: r) bY (bH-1).toNat=G2 at E2 F2 L2 B2;have ae:Zcs (c :: r) (Box.mk bX bY bW bH)=match G1.find? (fun x=>!crs true (c :: r) x) with
     | some x=>some (true,x)
     | none=>match G2.find? (fun x=>!crs false (c :: r) x) with
      | some y=>some (false,y)
      | none=>none:=by unfold Zcs;rw[F1,F2]<;>rfl
    have an:=@ZDB n c r (Box.mk bX bY bW bH) hp;generalize hX:Y4 (n+1) (c :: r) (Box.mk bX bY bW bH)=X at aj an ⊢;clear hX F1 F2 e1 e2 IH hl;generalize hl:c :: r=l at *;have ao:1≤l.length:=by rw[← hl];simp
    have av:¬(l.length:Int)=0:=o_
    have ak:l[0]?=some c:=by rw[← hl];rfl
    have af:(l.length:Int)=1→¬(c.Box.X=bX∧c.Box.Y=bY∧c.Box.W=bW∧c.Box.H=bH):=fun h=>am (by
     rw[← hl] at h;cases r with
     | nil=>rfl
     | cons y r=>simp only[Kl] at h;omega)
    clear hl am hp;obtain⟨P,T,⟨cX,cY,cW,cH⟩⟩:=c;simp only at af;have al : 0<l.length:=o_
    have ag:¬((l.length:Int)=1∧cX=bX∧cY=bY∧cW=bW∧cH=bH):=fun h=>af h.1 h.2;simp only[Qb,Km,Ka,Kn] at E1 E2;refine cE ?_;simp (maxSteps:=9^7) +contextual -implicitDefEqProofs only[go_sem,seval,Vo,av,ak,al,ag,← Lf];refine ZE Xs Ms ?_;simp (maxSteps:=9^7) +contextual -implicitDefEqProofs only[go_sem,seval,w1,E1];refine X1 Xs Ms (st0:=?sa) (α:=Nat) (fun i=>[(10,.d (J (i:Int)))]) (fun _=>[]) (fun i=>i≤G1.length∧(G1.drop i).find? (fun x=>!crs true l x)=G1.find? (fun x=>!crs true l x)) (fun i=>G1.length-i) 0 ?ha1 ⟨o_,by simp⟩ ?ha2 ?ha3
    case ha1=>simp (maxSteps:=9^7) +contextual -implicitDefEqProofs only[go_sem,seval]<;>exact rfl
    case ha2=>rfl
    case ha3=>
     intro i ⟨hi,hq⟩ ih;by_cases ab:i<G1.length
     ·obtain⟨x,hx⟩:=Zn ab;have hw:=Zg (k:=i) o_;rw[ZuW hx] at hq;have aw:=B1 x (Kb hx);have w3:=wi (x-bX) o_ o_;have p1:=pT true x;have p2:=pF true x;unfold ZuV at p1 p2;by_cases ad:crs true l x=true
      ·rw[Kg ad] at p1;rw[Kd (by simp[ad])] at hq;simp only[Qb,Km,Ka,Kn] at p1;simp (maxSteps:=9^7) +contextual -implicitDefEqProofs only[go_sem,seval,ab,hx,hw,p1];refine ih (i+1) _ ⟨o_,hq⟩ o_ ?_;simp (maxSteps:=9^7) +contextual -implicitDefEqProofs only[go_sem,seval]
      ·rw[Kd ad] at p1 p2;rw[Kg (by simpa using ad)] at hq;have hb1:=aj true x (by rw[ae,← hq]);simp only[Qb,loP,Km,Ka,Kn] at p1 p2 hb1;cases X with
       | none=>
        unfold plV at hb1 ⊢;simp (maxSteps:=9^7) +contextual -implicitDefEqProofs only[go_sem,seval,ab,hx,hw,p1,p2,w3,hb1]
       | some q=>
        obtain⟨qo,qa,qq,qt,qk,eq⟩:=Zct q;simp only[plV,eq] at hb1 ⊢;simp (maxSteps:=9^7) +contextual -implicitDefEqProofs only[go_sem,seval,ab,hx,hw,p1,p2,w3,hb1]
     ·have:i=G1.length:=o_
      subst this;have ap:G1.find? (fun x=>!crs true l x)=none:=by rw[← hq];simp
      simp (maxSteps:=9^7) +contextual -implicitDefEqProofs only[go_sem,seval];refine ZE Xs Ms ?_;simp (maxSteps:=9^7) +contextual -implicitDefEqProofs only[go_sem,seval,w1,w2,E2];refine X1 Xs Ms (st0:=?sb) (α:=Nat) (fun i=>[(10,.d (J (i:Int)))]) (fun _=>[]) (fun i=>i≤G2.length∧(G2.drop i).find? (fun x=>!crs false l x)=G2.find? (fun x=>!crs false l x)) (fun i=>G2.length-i) 0 ?hb1 ⟨o_,by simp⟩ ?hb2 ?hb3
      case hb1=>simp (maxSteps:=9^7) +contextual -implicitDefEqProofs only[go_sem,seval]<;>exact rfl
      case hb2=>rfl
      case hb3=>
       intro i ⟨hi,hq⟩ ih;by_cases ab:i<G2.length
       ·obtain⟨x,hx⟩:=Zn ab;have hw:=Zg (k:=i) o_;rw[ZuW hx] at hq;have aw:=B2 x (Kb hx);have w3:=wi (x-bY) o_ o_;have p1:=pT false x;have p2:=pF false x;unfold ZuV at p1 p2;by_cases ad:crs false l x=true
        ·rw[Kg ad] at p1;rw[Kd (by simp[ad])] at hq;simp only[Qb,Km,Ka,Kn] at p1;simp (maxSteps:=9^7) +contextual -implicitDefEqProofs only[go_sem,seval,ab,hx,hw,p1];refine ih (i+1) _ ⟨o_,hq⟩ o_ ?_;simp (maxSteps:=9^7) +contextual -implicitDefEqProofs only[go_sem,seval]
        ·rw[Kd ad] at p1 p2;rw[Kg (by simpa using ad)] at hq;have hb1:=aj false x (by rw[ae,ap,← hq]);simp only[Qb,loP,Km,Ka,Kn] at p1 p2 hb1;cases X with
         | none=>
          unfold plV at hb1 ⊢;simp (maxSteps:=9^7) +contextual -implicitDefEqProofs only[go_sem,seval,ab,hx,hw,p1,p2,w3,hb1]
         | some q=>
          obtain⟨qo,qa,qq,qt,qk,eq⟩:=Zct q;simp only[plV,eq] at hb1 ⊢;simp (maxSteps:=9^7) +contextual -implicitDefEqProofs only[go_sem,seval,ab,hx,hw,p1,p2,w3,hb1]
       ·have:i=G2.length:=o_
        subst this;have ax:G2.find? (fun x=>!crs false l x)=none:=by rw[← hq];simp
        have hX:=an (by rw[ae,ap,ax]);subst hX;unfold plV;have w4:=wi 4 o_ o_;simp (maxSteps:=9^7) +contextual -implicitDefEqProofs only[go_sem,seval,w4];refine ZE Xs Ms ?_;simp (maxSteps:=9^7) +contextual -implicitDefEqProofs only[go_sem,seval]
def J3 (d:Bool) (c:L.Place):D:=.agg [J (loP d c.Box),J (hiP d c.Box)]
@[go_sem] theorem uni_span (d:Bool) (l:List L.Place):uni 2 (l.map (J3 d))=True:=eq_true (Zas l fun _=>rfl)
@[go_sem] theorem flat_span (d:Bool) (l:List L.Place):Xm (l.map (J3 d))=True:=eq_true (Zb4 l fun _=>rfl)
theorem ZdB (bX bY bW bH:Int) (d:Bool) (h1:R64 (bX+bW)) (h2:R64 (bY+bH)):v_ 242 [(.d (.agg [J bX,J bY,J bW,J bH])),(.d (.bool d))] []=some (.d (.agg [J (loP d (Box.mk bX bY bW bH)),J (hiP d (Box.mk bX bY bW bH))]),[]):=by
 have w1:=wi (bX+bW) h1.1 h1.2;have w2:=wi (bY+bH) h2.1 h2.2;cases d
 ·simp only[loP,hiP,Ka,Kn];refine cE ?_;simp (maxSteps:=9^7) +contextual -implicitDefEqProofs only[go_sem,seval,Zlo,w1,w2]
 ·simp only[loP,hiP,Km];refine cE ?_;simp (maxSteps:=9^7) +contextual -implicitDefEqProofs only[go_sem,seval,Zlo,w1,w2]
def Zsj:Option Int→AV×List Zm
 | some x=>(.tup [(.d (J x)),(.d (.bool true))],[])
 | none=>(.tup [(.d (J 0)),(.d (.bool false))],[])
theorem Zj5 (l:List L.Place) (d:Bool) (fr to:Int) (hl:l.length≤1000) (h0:0≤fr) (h1:fr<to) (h2:to≤1000):v_ 243 [.d (.sl (l.map (J3 d))),.d (.agg [J fr,J to])] []=some (Zsj (Ze6 d l fr (to-fr-1).toNat)):=by
 have w0:=wi (fr+1) o_ o_;refine cE ?_;simp (maxSteps:=9^7) +contextual -implicitDefEqProofs only[go_sem,seval,Zm0,w0];refine X1 Xs Ms (st0:=?st0) (α:=Nat) (fun n=>[(6,.d (J (fr+1+(n:Int))))]) (fun _=>[]) (fun n=>(n:Int)≤to-fr-1∧Ze6 d l fr n=none) (fun n=>(to-fr-1).toNat-n) 0 ?hc ⟨o_,rfl⟩ ?h0 ?step
 case hc=>simp (maxSteps:=9^7) +contextual -implicitDefEqProofs only[go_sem,seval]<;>exact rfl
 case h0=>simp only[Int.natCast_zero,Int.add_zero];rfl
 case step=>
  intro n ⟨hn,hp⟩ ih;by_cases ak:fr+1+(n:Int)<to
  ·have wt:=wi (fr+1+(n:Int)+1) o_ o_;have al:fr+1+((n+1:Nat):Int)=fr+1+(n:Int)+1:=o_
   have aa:Ze6 d l fr (n+1)=if tch d l (fr+1+n)=true∧crs d l (fr+1+n)=false then some (fr+1+(n:Int)) else none:=by rw[Ze6,hp]
   have ag:∀ k,Ze6 d l fr (n+1)=some (fr+1+(n:Int))→Ze6 d l fr (n+1+k)=some (fr+1+(n:Int)):=by
    intro k h
    induction k with
    | zero=>exact h
    | succ k ihk=>rw[show n+1+(k+1)=(n+1+k)+1 by omega,Ze6,ihk]
   have hk:(to-fr-1).toNat=n+1+((to-fr-1).toNat-(n+1)):=o_
   generalize ht:fr+1+(n:Int)=t at *;simp (maxSteps:=9^7) +contextual -implicitDefEqProofs only[go_sem,seval,ak];refine X1 Xs Ms (st0:=?st1) (α:=Nat) (fun i=>[(22,.d (J (i:Int))),(8,.d (.bool (crs d (l.take i) t))),(7,.d (.bool (tch d (l.take i) t)))]) (fun _=>[]) (fun i=>i≤l.length) (fun i=>l.length-i) 0 ?hc2 o_ ?h02 ?step2
   case hc2=>simp (maxSteps:=9^7) +contextual -implicitDefEqProofs only[go_sem,seval]<;>exact rfl
   case h02=>rfl
   case step2=>
    intro i hi aj;by_cases ah:i<l.length
    ·obtain⟨c,hx⟩:=Zn ah;have hw:=Zg (k:=i) o_;have ae:=ZxT (d:=d) (t:=t) hx;have ab:=ZxU (d:=d) (t:=t) hx;have af:(l.map (J3 d))[i]?=some (.agg [J (loP d c.Box),J (hiP d c.Box)]):=by rw[La,hx];rfl
     generalize loP d c.Box=a at ae ab af;generalize hiP d c.Box=b at ae ab af;generalize tch d (l.take i) t=T at ae ⊢;generalize crs d (l.take i) t=C at ab ⊢;by_cases hm:a=t∨b=t
     ·rw[Ki (show t=a∨t=b by omega),Bool.or_true] at ae;by_cases hq:a<t∧t<b
      ·rw[Ki hq,Bool.or_true] at ab;simp (maxSteps:=9^7) +contextual -implicitDefEqProofs only[go_sem,seval,af,ah,hw,hm,hq,KG,← Li,← Lf];refine aj (i+1) _ o_ o_ ?_;rw[ae,ab];simp (maxSteps:=9^7) +contextual -implicitDefEqProofs only[go_sem,seval,KG]
      ·rw[Kk hq,Bool.or_false] at ab;simp (maxSteps:=9^7) +contextual -implicitDefEqProofs only[go_sem,seval,af,ah,hw,hm,hq,KG,← Li,← Lf];refine aj (i+1) _ o_ o_ ?_;rw[ae,ab];simp (maxSteps:=9^7) +contextual -implicitDefEqProofs only[go_sem,seval,KG]
     ·rw[Kk (show ¬(t=a∨t=b) by omega),Bool.or_false] at ae;by_cases hq:a<t∧t<b
      ·rw[Ki hq,Bool.or_true] at ab;simp (maxSteps:=9^7) +contextual -implicitDefEqProofs only[go_sem,seval,af,ah,hw,hm,hq,KG,← Li,← Lf];refine aj (i+1) _ o_ o_ ?_;rw[ae,ab];simp (maxSteps:=9^7) +contextual -implicitDefEqProofs only[go_sem,seval,KG]
      ·rw[Kk hq,Bool.or_false] at ab;simp (maxSteps:=9^7) +contextual -implicitDefEqProofs only[go_sem,seval,af,ah,hw,hm,hq,KG,← Li,← Lf];refine aj (i+1) _ o_ o_ ?_;rw[ae,ab];simp (maxSteps:=9^7) +contextual -implicitDefEqProofs only[go_sem,seval,KG]
    ·have:i=l.length:=o_
     subst this;rw[KH (Kr _)];by_cases ad:tch d l t=true∧crs d l t=false
     ·rw[Kg ad] at aa;rw[hk,ag _ aa];rw[ad.1,ad.2];unfold Zsj;simp (maxSteps:=9^7) +contextual -implicitDefEqProofs only[go_sem,seval]
     ·rw[Kd ad] at aa;have ai:(tch d l t=false)∨(tch d l t=true∧crs d l t=true):=by
       cases h1:tch d l t
       ·exact .inl rfl
       ·refine .inr ⟨rfl,?_⟩;cases h2:crs d l t
        ·exact absurd ⟨h1,h2⟩ ad
        ·rfl
      rcases ai with h1 | ⟨h1,h2⟩
      ·rw[h1];simp (maxSteps:=9^7) +contextual -implicitDefEqProofs only[go_sem,seval,wt];refine ih (n+1) _ ⟨o_,aa⟩ o_ ?_;simp (maxSteps:=9^7) +contextual -implicitDefEqProofs only[go_sem,seval,al]
      ·rw[h1,h2];simp (maxSteps:=9^7) +contextual -implicitDefEqProofs only[go_sem,seval,wt];refine ih (n+1) _ ⟨o_,aa⟩ o_ ?_;simp (maxSteps:=9^7) +contextual -implicitDefEqProofs only[go_sem,seval,al]
  ·have:(to-fr-1).toNat=n:=o_
   rw[this,hp];unfold Zsj;simp (maxSteps:=9^7) +contextual -implicitDefEqProofs only[go_sem,seval,ak]
def ZuX (b:Box):Option (Bool×Int)→AV×List Zm
 | some (d,x)=>(.tup [.agg [(.d (J (Qb d))),(.d (J (x-loP d b))),(.d (J 0)),(.d (.bool false)),.own 0],(.d (.bool true))],[.row 5 [] true false])
 | none=>(.tup [.agg [(.d (J 0)),(.d (J 0)),(.d (J 0)),(.d (.bool false)),.own 0],(.d (.bool false))],[.row 5 [] true false])
theorem Ztv (l:List L.Place) (bX bY bW bH:Int) (hb:VB (Box.mk bX bY bW bH)) (hl:l.length≤1000) (hc:∀ c∈l,VB c.Box):v_ 221 [(.d (.sl (l.map Place.enc))),(.d (.agg [J bX,J bY,J bW,J bH]))] []=some (ZuX (Box.mk bX bY bW bH) (Zcs l (Box.mk bX bY bW bH))):=by
 have ai:=hb;simp only[VB] at hb;have s1:=ZdB bX bY bW bH true (by unfold R64;omega) (by unfold R64;omega);have s2:=ZdB bX bY bW bH false (by unfold R64;omega) (by unfold R64;omega);have e1:=Zj5 l true bX (bX+bW) hl o_ o_ o_;have e2:=Zj5 l false bY (bY+bH) hl o_ o_ o_;rw[show (bX+bW-bX-1).toNat=(bW-1).toNat by omega] at e1;rw[show (bY+bH-bY-1).toNat=(bH-1).toNat by omega] at e2;simp only[loP,hiP,Km,Ka,Kn] at s1 s2;have aa:Zcs l (Box.mk bX bY bW bH)=match Ze6 true l bX (bW-1).toNat with
  | some x=>some (true,x)
  | none=>match Ze6 false l bY (bH-1).toNat with
   | some y=>some (false,y)
   | none=>none:=rfl
 have C1:=fun x=>@Ze7 true l bX (bW-1).toNat x;have C2:=fun x=>@Ze7 false l bY (bH-1).toNat x;generalize Ze6 true l bX (bW-1).toNat=K1 at e1 aa C1;generalize Ze6 false l bY (bH-1).toNat=K2 at e2 aa C2;rw[aa];have ae:∀ i c,l[i]?=some c→(v_ 242 [.d c.Box.enc,(.d (.bool true))] []=some (.d (J3 true c),[]))∧(v_ 242 [.d c.Box.enc,(.d (.bool false))] []=some (.d (J3 false c),[])):=fun i c hx=>by
  have h:=hc c (Kb hx);obtain⟨P,T,⟨X,Y,W,H⟩⟩:=c;simp only[VB] at h;exact⟨ZdB X Y W H true (by unfold R64;omega) (by unfold R64;omega),ZdB X Y W H false (by unfold R64;omega) (by unfold R64;omega)⟩
 refine cE ?_;simp (maxSteps:=9^7) +contextual -implicitDefEqProofs only[go_sem,seval,Zm7];refine ZE Xs Ms ?_;simp (maxSteps:=9^7) +contextual -implicitDefEqProofs only[go_sem,seval];refine X1 Xs Ms (st0:=?sa) (α:=Nat) (fun i=>[(22,.d (J (i:Int)))]) (fun i=>[(1,.row 2 ((l.take i).map (J3 true)) true false)]) (fun i=>i≤l.length) (fun i=>l.length-i) 0 ?ha1 o_ ?ha2 ?ha3
 case ha1=>simp (maxSteps:=9^7) +contextual -implicitDefEqProofs only[go_sem,seval]<;>exact rfl
 case ha2=>rfl
 case ha3=>
  intro i hi ih;by_cases ab:i<l.length
  ·obtain⟨c,hx⟩:=Zn ab;have hw:=Zg (k:=i) o_;have ad:=(ae i c hx).1;have hm:(l.take (i+1)).map (J3 true)=(l.take i).map (J3 true)++[J3 true c]:=by rw[KB,hx];simp
   have af:(l.take i).length≤i:=by simp;omega
   have hr:((l.take i).length+1)*16≤140737488355328∧(l.take i).length≤140737488355327:=o_
   obtain⟨P,T,⟨X,Y,W,H⟩⟩:=c;simp only[Box.enc,J3] at ad;simp (maxSteps:=9^7) +contextual -implicitDefEqProofs only[go_sem,seval,hx,ab,hw,ad,hr];refine ih (i+1) _ o_ o_ ?_;rw[hm];simp (maxSteps:=9^7) +contextual -implicitDefEqProofs only[go_sem,seval,J3]
  ·have:i=l.length:=o_
   subst this;rw[KH (Kr _)];cases K1 with
   | some x=>
    have:=C1 x rfl;have w:=wi (x-bX) o_ o_;unfold Zsj at e1;unfold ZuX;simp only[loP,Km,Qb] at e1 ⊢;simp (maxSteps:=9^7) +contextual -implicitDefEqProofs only[go_sem,seval,s1,e1,w]
   | none=>
    unfold Zsj at e1;simp (maxSteps:=9^7) +contextual -implicitDefEqProofs only[go_sem,seval,s1,e1];refine ZE Xs Ms ?_;have ag:(1:Int)<((2:Nat):Int):=o_
    simp (maxSteps:=9^7) +contextual -implicitDefEqProofs only[go_sem,seval,ag];refine X1 Xs Ms (st0:=?sb) (α:=Nat) (fun i=>[(22,.d (J (i:Int)))]) (fun i=>[(1,.row 2 ((l.take i).map (J3 false)) true false)]) (fun i=>i≤l.length) (fun i=>l.length-i) 0 ?hb1 o_ ?hb2 ?hb3
    case hb1=>simp (maxSteps:=9^7) +contextual -implicitDefEqProofs only[go_sem,seval]<;>exact rfl
    case hb2=>rfl
    case hb3=>
     intro i hi ih;by_cases ab:i<l.length
     ·obtain⟨c,hx⟩:=Zn ab;have hw:=Zg (k:=i) o_;have ad:=(ae i c hx).2;have hm:(l.take (i+1)).map (J3 false)=(l.take i).map (J3 false)++[J3 false c]:=by rw[KB,hx];simp
      have af:(l.take i).length≤i:=by simp;omega
      have hr:((l.take i).length+1)*16≤140737488355328∧(l.take i).length≤140737488355327:=o_
      obtain⟨P,T,⟨X,Y,W,H⟩⟩:=c;simp only[Box.enc,J3] at ad;simp (maxSteps:=9^7) +contextual -implicitDefEqProofs only[go_sem,seval,hx,ab,hw,ad,hr];refine ih (i+1) _ o_ o_ ?_;rw[hm];simp (maxSteps:=9^7) +contextual -implicitDefEqProofs only[go_sem,seval,J3]
     ·have:i=l.length:=o_
      subst this;rw[KH (Kr _)];cases K2 with
      | some x=>
       have:=C2 x rfl;have w:=wi (x-bY) o_ o_;unfold Zsj at e2;unfold ZuX;simp only[loP,Ka,Kn,Qb] at e2 ⊢;simp (maxSteps:=9^7) +contextual -implicitDefEqProofs only[go_sem,seval,s2,e2,w]
      | none=>
       unfold Zsj at e2;unfold ZuX;simp (maxSteps:=9^7) +contextual -implicitDefEqProofs only[go_sem,seval,s2,e2];refine ZE Xs Ms ?_;have ah:¬(2:Int)<((2:Nat):Int):=o_
       simp (maxSteps:=9^7) +contextual -implicitDefEqProofs only[go_sem,seval,ah]
end Go.Proofs.YtfnegoimdljanaaGreatDoor
namespace Go.Proofs.YtfnegoimdljanaaGreatDoor
open Go Go.Abs Go.Abs.E Go.Abs.L
set_option maxRecDepth 20000
set_option maxHeartbeats 4000000
def Apt (l:List L.Place):Prop:=l.Pairwise fun a c=>¬Yk a.Box c.Box
theorem ZxV {l:List L.Place} {d:Bool} {t:Int} {f:Bool} (h:Apt l):Apt (Ym d l t f):=List.Pairwise.filter _ h
theorem ZDC {c:L.Place} {r:List L.Place} {b:Box} (ha:Apt (c :: r)) (hl:InL (c :: r) b) (h:c.Box=b):r=[]:=by
 cases r with
 | nil=>rfl
 | cons y r=>
  have h1:=(L6.1 ha).1 y (by simp);have h2:=hl y (by simp);have h3:=hl c (by simp);rw[h] at h1 h3;simp only[VB,QI,Yk] at h1 h2 h3;omega
theorem ZzK {l:List L.Place} {b:Box} {d:Bool} {x:Int} (hb:VB b) (h:InL l b) (hx:loP d b<x∧x<hiP d b) (hc:crs d l x=false):∀ c∈l,(VB c.Box∧VB (Za5 d b (x-loP d b))∧QI c.Box (Za5 d b (x-loP d b)))↔hiP d c.Box≤x:=fun c hm=>by
 have h1:=h c hm;have h2:=ZAZ hc c hm;have h3:=(Zqf hb h hx hc).1.1;cases d
 ·simp only[loP,hiP,Za5,Ka,Kn] at hx h2 h3 ⊢;simp only[VB,QI] at h1 h3 ⊢;omega
 ·simp only[loP,hiP,Za5,Km] at hx h2 h3 ⊢;simp only[VB,QI] at h1 h3 ⊢;omega
theorem ZxW (bX bY bW bH:Int) (d:Bool) (a:Int) (hb:VB (Box.mk bX bY bW bH)) (ha:0≤a∧a≤400):v_ 222 [.d (.agg [J (Qb d),J a,J 0,.bool false,.sl []]),(.d (.agg [J bX,J bY,J bW,J bH]))] []=some (.tup [.d (Za5 d (Box.mk bX bY bW bH) a).enc,.d (Uj d (Box.mk bX bY bW bH) a).enc],[]):=by
 simp only[VB] at hb;have w1:=wi (bX+a) o_ o_;have w2:=wi (bY+a) o_ o_;have w3:=wi (bW-a) o_ o_;have w4:=wi (bH-a) o_ o_;cases d
 ·simp only[Za5,Uj,Box.enc,Qb,Ka,Kn];refine cE ?_;simp (maxSteps:=9^7) +contextual -implicitDefEqProofs only[go_sem,seval,JV,w1,w2,w3,w4]
 ·simp only[Za5,Uj,Box.enc,Qb,Km];refine cE ?_;simp (maxSteps:=9^7) +contextual -implicitDefEqProofs only[go_sem,seval,JV,w1,w2,w3,w4]
def plT:Option BT→AV×List Zm
 | some b=>match b.plan with
  | .mk o a q t ks=>(.tup [.agg [(.d (J o)),(.d (J a)),(.d (J q)),(.d (.bool t)),.own 0],(.d (.bool true))],[plO ks])
 | none=>(.tup [.agg [(.d (J 0)),(.d (J 0)),(.d (J 0)),(.d (.bool false)),.own 0],(.d (.bool false))],[.row 5 [] true false])
theorem Zsk (l:List L.Place) (bX bY bW bH:Int) (p q:Bool→Int→Option BT) (hb:VB (Box.mk bX bY bW bH)) (hl:InL l (Box.mk bX bY bW bH)) (aa:l.length≤1000)
  (h1:∀ d x,Zcs l (Box.mk bX bY bW bH)=some (d,x)→v_ 126 [.d (.sl ((Ym d l x true).map Place.enc)),.d (Za5 d (Box.mk bX bY bW bH) (x-loP d (Box.mk bX bY bW bH))).enc] []=some (plT (p d x)))
  (h2:∀ d x,Zcs l (Box.mk bX bY bW bH)=some (d,x)→v_ 126 [.d (.sl ((Ym d l x false).map Place.enc)),.d (Uj d (Box.mk bX bY bW bH) (x-loP d (Box.mk bX bY bW bH))).enc] []=some (plT (q d x))) :
  v_ 184 [(.d (.sl (l.map Place.enc))),(.d (.agg [J bX,J bY,J bW,J bH]))] []=some (plT (match Zcs l (Box.mk bX bY bW bH) with
   | some (d,x)=>Zg3 d (x-loP d (Box.mk bX bY bW bH)) (p d x) (q d x)
   | none=>none)):=by
 have ef:=Ztv l bX bY bW bH hb aa (fun c hc=>(hl c hc).1);cases hc:Zcs l (Box.mk bX bY bW bH) with
 | none=>
  rw[hc] at ef;unfold ZuX at ef;unfold plT;refine cE ?_;simp (maxSteps:=9^7) +contextual -implicitDefEqProofs only[go_sem,seval,ZeF,ef]
 | some dx=>
  obtain⟨d,x⟩:=dx;obtain⟨g1,g2,g3⟩:=Zf6 hc;have af:=ZzK hb hl ⟨g1,g2⟩ g3;have k1:=h1 d x hc;have k2:=h2 d x hc;simp only[hc,ZuX] at ef;simp only;have ae:0≤x-loP d (Box.mk bX bY bW bH)∧x-loP d (Box.mk bX bY bW bH)≤400:=by
   simp only[VB] at hb;cases d<;>simp only[loP,hiP,Km,Ka,Kn] at g1 g2 ⊢ <;> omega
  have es:=ZxW bX bY bW bH d (x-loP d (Box.mk bX bY bW bH)) hb ae;generalize x-loP d (Box.mk bX bY bW bH)=a at *;generalize p d x=p0 at k1 ⊢;generalize q d x=q0 at k2 ⊢;generalize Za5 d (Box.mk bX bY bW bH) a=lb at *;generalize Uj d (Box.mk bX bY bW bH) a=hb' at *;clear h1 h2 ae g1 g2 g3 hc;obtain⟨lX,lY,lW,lH⟩:=lb;obtain⟨hX,hY,hW,hH⟩:=hb';simp only[Box.enc] at es k1 k2;refine cE ?_;simp (maxSteps:=9^7) +contextual -implicitDefEqProofs only[go_sem,seval,ZeF,ef,es];refine LO (α:=Nat) (fun i=>[(33,.d (J (i:Int)))]) (fun i=>[(0,.row 6 ((Ym d (l.take i) x false).map Place.enc) true false),(1,.row 6 ((Ym d (l.take i) x true).map Place.enc) true false)]) (fun i=>i≤l.length) (fun i=>l.length-i) 0 o_ ?_
  intro i hi ih;by_cases ab:i<l.length
  ·obtain⟨c,hx⟩:=Zn ab;have hw:=Zg (k:=i) o_;have pt:=ZkX (d:=d) (t:=x) (f:=true) hx;have pf:=ZkX (d:=d) (t:=x) (f:=false) hx;have ad:=af c (Kb hx);have ag:(Ym d (l.take i) x true).length≤i:=Ky (Kan _ _) (by simp;omega);have ah:(Ym d (l.take i) x false).length≤i:=Ky (Kan _ _) (by simp;omega);have rt:((Ym d (l.take i) x true).length+1)*48≤140737488355328∧(Ym d (l.take i) x true).length≤140737488355327:=o_
   have rf:((Ym d (l.take i) x false).length+1)*48≤140737488355328∧(Ym d (l.take i) x false).length≤140737488355327:=o_
   obtain⟨P,T,⟨X,Y,W,H⟩⟩:=c;have ei:=Zaw X Y W H lX lY lW lH;simp only at pt pf ad;by_cases hh:hiP d ⟨X,Y,W,H⟩≤x
   ·rw[Ki (ad.2 hh)] at ei;rw[Ki hh] at pt pf;rw[Kg rfl] at pt;rw[Kd (by simp)] at pf;simp (maxSteps:=9^7) +contextual -implicitDefEqProofs only[go_sem,seval,hx,ab,hw,ei,rt];refine ih (i+1) _ o_ o_ ?_;rw[pt,pf];simp (maxSteps:=9^7) +contextual -implicitDefEqProofs only[go_sem,seval,KJ,KE]
   ·rw[Kk (fun h=>hh (ad.1 h))] at ei;rw[Kk hh] at pt pf;rw[Kd (by simp)] at pt;rw[Kg rfl] at pf;simp (maxSteps:=9^7) +contextual -implicitDefEqProofs only[go_sem,seval,hx,ab,hw,ei,rf];refine ih (i+1) _ o_ o_ ?_;rw[pt,pf];simp (maxSteps:=9^7) +contextual -implicitDefEqProofs only[go_sem,seval,KJ,KE]
  ·have:i=l.length:=o_
   subst this;rw[KH (Kr _)];cases p0 with
   | none=>
    unfold plT at k1;simp only[Zg3];unfold plT;simp (maxSteps:=9^7) +contextual -implicitDefEqProofs only[go_sem,seval,k1]
   | some bp=>
    obtain⟨po,pa,pq,pt,pk,ep⟩:=Zct bp;simp only[plT,ep] at k1;cases q0 with
    | none=>
     unfold plT at k2;simp only[Zg3];unfold plT;cases pk with
     | nil=>
      simp only[plO] at k1;simp (maxSteps:=9^7) +contextual -implicitDefEqProofs only[go_sem,seval,k1,k2]
     | cons p1 pr=>
      simp only[plO] at k1;simp (maxSteps:=9^7) +contextual -implicitDefEqProofs only[go_sem,seval,k1,k2]
    | some bq=>
     obtain⟨qo,qa,qq,qt,qk,eq⟩:=Zct bq;simp only[plT,eq] at k2;simp only[Zg3,plT,BT.plan,ep,eq,plO];cases pk with
     | nil=>
      simp only[plO] at k1;cases qk with
      | nil=>
       simp only[plO] at k2;simp (maxSteps:=9^7) +contextual -implicitDefEqProofs only[go_sem,seval,k1,k2]
      | cons q1 qr=>
       simp only[plO] at k2;simp (maxSteps:=9^7) +contextual -implicitDefEqProofs only[go_sem,seval,k1,k2]
     | cons p1 pr=>
      simp only[plO] at k1;cases qk with
      | nil=>
       simp only[plO] at k2;simp (maxSteps:=9^7) +contextual -implicitDefEqProofs only[go_sem,seval,k1,k2]
      | cons q1 qr=>
       simp only[plO] at k2;simp (maxSteps:=9^7) +contextual -implicitDefEqProofs only[go_sem,seval,k1,k2]
theorem ZpQ:∀ (n:Nat) (l:List L.Place) (bX bY bW bH:Int),VB (Box.mk bX bY bW bH)→InL l (Box.mk bX bY bW bH)→Apt l→(bW+bH).toNat≤n→l.length≤1000→v_ 126 [(.d (.sl (l.map Place.enc))),(.d (.agg [J bX,J bY,J bW,J bH]))] []=some (plT (Y4 n l (Box.mk bX bY bW bH))):=by
 intro n
 induction n with
 | zero=>
  intro l bX bY bW bH hb _ _ hn _;simp only[VB] at hb;omega
 | succ n IH=>
  intro l bX bY bW bH hb hl ha hn ab;cases l with
  | nil=>
   simp only[Y4,plT,plO,BT.plan];refine cE ?_;simp (maxSteps:=9^7) +contextual -implicitDefEqProofs only[go_sem,seval,Vh]
  | cons c r=>
   by_cases hp:c.Box=(Box.mk bX bY bW bH)
   ·have hr:=ZDC ha hl hp;subst hr;obtain⟨P,T,⟨X,Y,W,H⟩⟩:=c;simp only at hp;have ag:Y4 (n+1) [⟨P,T,⟨X,Y,W,H⟩⟩] (Box.mk bX bY bW bH)=some (.pane P T):=by rw[Y4,Kg ⟨rfl,hp⟩]
    rw[ag];simp only[Box.mk.injEq] at hp;obtain⟨rfl,rfl,rfl,rfl⟩:=hp;simp only[plT,plO,BT.plan];refine cE ?_;simp (maxSteps:=9^7) +contextual -implicitDefEqProofs only[go_sem,seval,Vh]
   ·have aa:=Zsk (c :: r) bX bY bW bH (fun d x=>Y4 n (Ym d (c :: r) x true) (Za5 d (Box.mk bX bY bW bH) (x-loP d (Box.mk bX bY bW bH)))) (fun d x=>Y4 n (Ym d (c :: r) x false) (Uj d (Box.mk bX bY bW bH) (x-loP d (Box.mk bX bY bW bH)))) hb hl ab
     (fun d x h=>by
      obtain⟨h1,h2,h3⟩:=Zf6 h;obtain⟨⟨g1,g2⟩,g3,g4⟩:=Zqf hb hl ⟨h1,h2⟩ h3;obtain⟨s1,s2⟩:=Zsi hb ⟨h1,h2⟩;simp only at s1 s2;exact IH _ _ _ _ _ g1 g2 (ZxV ha) o_ (Ky (Zjx _ _ _ _) ab))
     (fun d x h=>by
      obtain⟨h1,h2,h3⟩:=Zf6 h;obtain⟨⟨g1,g2⟩,g3,g4⟩:=Zqf hb hl ⟨h1,h2⟩ h3;obtain⟨s1,s2⟩:=Zsi hb ⟨h1,h2⟩;simp only at s1 s2;exact IH _ _ _ _ _ g3 g4 (ZxV ha) o_ (Ky (Zjx _ _ _ _) ab))
    have hX:Y4 (n+1) (c :: r) (Box.mk bX bY bW bH)=match Zcs (c :: r) (Box.mk bX bY bW bH) with
     | some (d,x)=>Zg3 d (x-loP d (Box.mk bX bY bW bH)) (Y4 n (Ym d (c :: r) x true) (Za5 d (Box.mk bX bY bW bH) (x-loP d (Box.mk bX bY bW bH)))) (Y4 n (Ym d (c :: r) x false) (Uj d (Box.mk bX bY bW bH) (x-loP d (Box.mk bX bY bW bH))))
     | none=>none:=by rw[Y4,Kd (fun h=>hp h.2)];try rfl
    rw[← hX] at aa;clear hX IH hl ha;generalize Y4 (n+1) (c :: r) (Box.mk bX bY bW bH)=X at aa ⊢;have ad:(c :: r)[0]?=some c:=rfl;have ae:¬(((c :: r).length:Nat):Int)=0:=by simp only[Kl];omega
    have af:0<(c :: r).length:=by simp
    generalize c :: r=l at *;obtain⟨P,T,⟨cX,cY,cW,cH⟩⟩:=c;simp only[Box.mk.injEq] at hp;cases X with
    | none=>
     unfold plT at aa ⊢;refine cE ?_;simp (maxSteps:=9^7) +contextual -implicitDefEqProofs only[go_sem,seval,Vh,ae,af,ad,hp,aa]
    | some bq=>
     obtain⟨qo,qa,qq,qt,qk,eq⟩:=Zct bq;simp only[plT,eq] at aa ⊢;cases qk with
     | nil=>
      simp only[plO] at aa ⊢;refine cE ?_;simp (maxSteps:=9^7) +contextual -implicitDefEqProofs only[go_sem,seval,Vh,ae,af,ad,hp,aa]
     | cons q1 qr=>
      simp only[plO] at aa ⊢;refine cE ?_;simp (maxSteps:=9^7) +contextual -implicitDefEqProofs only[go_sem,seval,Vh,ae,af,ad,hp,aa]
def Zg4 (l:List Box):Prop:=l.Pairwise fun a c=>¬Yk a c
instance (l:List Box):Decidable (Zg4 l):=by unfold Zg4;infer_instance
def Zcu (k:Zv) (c:L.Place):Prop:=(VB c.Box∧QI c.Box ⟨0,0,k.W,k.H⟩)∧XS k.Panes c.Pane c.Turned c.Box.W c.Box.H=true
instance (k:Zv) (c:L.Place):Decidable (Zcu k c):=by unfold Zcu;infer_instance
def VPl (k:Zv) (l:List L.Place):Prop:=(VW k∧l.length≤12)∧(∀ c∈l,Zcu k c)∧Zg4 (l.map L.Place.Box)
instance (k:Zv) (l:List L.Place):Decidable (VPl k l):=by unfold VPl;infer_instance
theorem Zsl {a b:Box}:Yk a b↔Yk b a:=by unfold Yk;omega
theorem ZzL {l:List Box} {i:Nat} {x:Box} (hx:l[i]?=some x) (h:Zg4 (l.take i)) (hn:∀ y∈l.take i,¬Yk x y):Zg4 (l.take (i+1)):=by
 unfold Zg4 at h ⊢;rw[KB,hx,LV];exact⟨h,by simp,fun a ha b hb=>by simp at hb;subst hb;exact fun hm=>hn a ha (Zsl.1 hm)⟩
theorem ZCe {l:List Box} {i j:Nat} {x y:Box} (aa:j<i) (hx:l[i]?=some x) (hy:l[j]?=some y) (hm:Yk x y):¬Zg4 l:=fun h=>by
 obtain⟨h1,rfl⟩:=Kc.1 hx;obtain⟨h2,rfl⟩:=Kc.1 hy;exact(List.pairwise_iff_getElem.1 h) j i h2 h1 aa (Zsl.1 hm)
theorem ZpR (l:List Box) (hv:∀ b∈l,VB b) (hl:l.length≤24):v_ 220 [(.d (.sl (l.map Box.enc)))] []=some ((.d (.bool true)),[]):=by
 have ab:¬(24:Int)<(l.length:Int):=o_
 refine cE ?_;simp (maxSteps:=9^7) +contextual -implicitDefEqProofs only[go_sem,seval,ZiQ,ab];refine LO (α:=Nat) (fun i=>[(10,.d (J (i:Int)))]) (fun _=>[]) (fun i=>i≤l.length) (fun i=>l.length-i) 0 o_ ?_;intro i hi ih;by_cases aa:i<l.length
 ·obtain⟨x,hx⟩:=Zn aa;have hw:=Zg (k:=i) o_;have hb:=hv x (Kb hx);obtain⟨X,Y,W,H⟩:=x;have e:=Yl X Y W H;rw[Ki hb] at e;simp (maxSteps:=9^7) +contextual -implicitDefEqProofs only[go_sem,seval,hx,aa,hw,e];refine ih (i+1) _ o_ o_ ?_;simp (maxSteps:=9^7) +contextual -implicitDefEqProofs only[go_sem,seval]
 ·simp (maxSteps:=9^7) +contextual -implicitDefEqProofs only[go_sem,seval,aa]
theorem ZpS (l:List Box) (hv:∀ b∈l,VB b) (hl:l.length≤24):v_ 183 [(.d (.sl (l.map Box.enc)))] []=some ((.d (.bool (decide (Zg4 l)))),[]):=by
 have e1:=ZpR l hv hl;refine cE ?_;simp (maxSteps:=9^7) +contextual -implicitDefEqProofs only[go_sem,seval,ZiU,e1];refine LO (α:=Nat) (fun i=>[(14,.d (J (i:Int)))]) (fun _=>[]) (fun i=>i≤l.length∧Zg4 (l.take i)) (fun i=>l.length-i) 0 ⟨o_,by simp[Zg4]⟩ ?_;intro i ⟨hi,hp⟩ ih;by_cases af:i<l.length
 ·obtain⟨x,hx⟩:=Zn af;have hw:=Zg (k:=i) o_;have hb:=hv x (Kb hx);have ai:i≤l.length:=hi;have ab:(l.take i).length=i:=by simp;omega
  have ad:=ZzL hx hp;obtain⟨X,Y,W,H⟩:=x;simp (maxSteps:=9^7) +contextual -implicitDefEqProofs only[go_sem,seval,hx,af,hw,ai];refine X1 Xs Ms (st0:=?st1) (α:=Nat) (fun j=>[(23,.d (J (j:Int)))]) (fun _=>[]) (fun j=>j≤i∧∀ y∈l.take j,¬Yk ⟨X,Y,W,H⟩ y) (fun j=>i-j) 0 ?hc2 ⟨o_,by simp⟩ ?h02 ?step2
  case hc2=>simp (maxSteps:=9^7) +contextual -implicitDefEqProofs only[go_sem,seval]<;>exact rfl
  case h02=>rfl
  case step2=>
   intro j ⟨hj,hq⟩ aj;by_cases aa:j<i
   ·obtain⟨y,hy⟩:=Zn (l:=l) (k:=j) o_;have ag:=Zg (k:=j) o_;have ak:=hv y (Kb hy);have ah:(l.take i)[j]?=some y:=by rw[List.getElem?_take_of_lt aa];exact hy
    have ae:=ZCe aa hx hy;have al:l.take (j+1)=l.take j++[y]:=by rw[KB,hy];simp
    obtain⟨X',Y',W',H'⟩:=y;by_cases hm:Yk ⟨X,Y,W,H⟩ ⟨X',Y',W',H'⟩
    ·have e:=ZbA X Y W H X' Y' W' H' hb ak hm;have hn:=ae hm;rw[Kk hn];simp (maxSteps:=9^7) +contextual -implicitDefEqProofs only[go_sem,seval,ah,aa,ab,ag,e,KG,Zg0]
    ·have e:=ZdA X Y W H X' Y' W' H' (fun h=>hm h.2.2);simp (maxSteps:=9^7) +contextual -implicitDefEqProofs only[go_sem,seval,ah,aa,ab,ag,e,KG];refine aj (j+1) _ ⟨o_,?_⟩ o_ ?_
     ·rw[al];intro z hz;rcases Kj.1 hz with hz | hz
      ·exact hq z hz
      ·simp at hz;subst hz;exact hm
     ·simp (maxSteps:=9^7) +contextual -implicitDefEqProofs only[go_sem,seval,ab]
   ·have:j=i:=o_
    subst this;simp (maxSteps:=9^7) +contextual -implicitDefEqProofs only[go_sem,seval,aa,ab,hw,KG];refine ih (j+1) _ ⟨o_,ad hq⟩ o_ ?_;simp (maxSteps:=9^7) +contextual -implicitDefEqProofs only[go_sem,seval]
 ·have:i=l.length:=o_
  subst this;rw[KH (Kr _)] at hp;rw[Ki hp];simp (maxSteps:=9^7) +contextual -implicitDefEqProofs only[go_sem,seval]
theorem Zn1 (kW kH:Int) (kP:List Pane) (l:List L.Place):v_ 125 [(.d (.agg [J kW,J kH,.sl (kP.map Pane.enc)])),(.d (.sl (l.map Place.enc)))] []=some ((.d (.bool (decide (VPl (Zv.mk kW kH kP) l)))),[]):=by
 have ew:=Wv kW kH kP;by_cases hw:VW (Zv.mk kW kH kP)
 ·rw[Ki hw] at ew;by_cases af:(12:Int)<(l.length:Int)
  ·have hn:¬VPl (Zv.mk kW kH kP) l:=fun h=>by have:=h.1.2;omega
   refine cE ?_;simp (maxSteps:=9^7) +contextual -implicitDefEqProofs only[go_sem,seval,UH,ew,af,hn]
  ·have es:=ZbB kW kH kP;have ah:l.length≤12:=o_
   have ai:=hw;simp only[VW] at hw;have aj:VB ⟨0,0,kW,kH⟩:=by simp only[VB];omega
   refine cE ?_;simp (maxSteps:=9^7) +contextual -implicitDefEqProofs only[go_sem,seval,UH,ew,af];refine LO (α:=Nat) (fun i=>[(19,.d (J (i:Int)))]) (fun i=>[(0,.row 4 (((l.take i).map L.Place.Box).map Box.enc) true false)]) (fun i=>i≤l.length∧∀ c∈l.take i,Zcu (Zv.mk kW kH kP) c) (fun i=>l.length-i) 0 ⟨o_,by simp⟩ ?_;intro i ⟨hi,hp⟩ ih;by_cases aa:i<l.length
   ·obtain⟨c,hx⟩:=Zn aa;have ab:=Zg (k:=i) o_;have ag:l.take (i+1)=l.take i++[c]:=by rw[KB,hx];simp
    have ad:=Kb hx;have am:(l.take i).length≤i:=by simp;omega
    have hr:((l.take i).length+1)*32≤140737488355328∧(l.take i).length≤140737488355327:=o_
    have ae:¬Zcu (Zv.mk kW kH kP) c→¬VPl (Zv.mk kW kH kP) l:=fun h h'=>h (h'.2.1 c ad);have ak:Zcu (Zv.mk kW kH kP) c→∀ z∈l.take (i+1),Zcu (Zv.mk kW kH kP) z:=fun h z hz=>by
     rw[ag] at hz;rcases Kj.1 hz with hz | hz
     ·exact hp z hz
     ·simp at hz;subst hz;exact h
    obtain⟨P,T,⟨X,Y,W,H⟩⟩:=c;have e1:=Yl X Y W H;have e2:=Zaw X Y W H 0 0 kW kH;have e3:=Zh1 kW kH kP P T W H;by_cases v1:VB ⟨X,Y,W,H⟩
    ·rw[Ki v1] at e1;by_cases v2:VB ⟨X,Y,W,H⟩∧VB ⟨0,0,kW,kH⟩∧QI ⟨X,Y,W,H⟩ ⟨0,0,kW,kH⟩
     ·rw[Ki v2] at e2;cases v3:XS kP P T W H with
      | true=>
       rw[v3] at e3;have al:Zcu (Zv.mk kW kH kP) ⟨P,T,⟨X,Y,W,H⟩⟩:=⟨⟨v1,v2.2.2⟩,v3⟩
       simp (maxSteps:=9^7) +contextual -implicitDefEqProofs only[go_sem,seval,hx,aa,ab,e1,e2,e3,es,hr];refine ih (i+1) _ ⟨o_,ak al⟩ o_ ?_;rw[ag,KJ];simp (maxSteps:=9^7) +contextual -implicitDefEqProofs only[go_sem,seval,KJ]
      | false=>
       rw[v3] at e3;have hn:=ae (fun h=>by have:=h.2;simp only at this;rw[v3] at this;cases this);rw[Kk hn];simp (maxSteps:=9^7) +contextual -implicitDefEqProofs only[go_sem,seval,hx,aa,ab,e1,e2,e3,es]
     ·rw[Kk v2] at e2;have hn:=ae (fun h=>v2 ⟨v1,aj,h.1.2⟩);rw[Kk hn];simp (maxSteps:=9^7) +contextual -implicitDefEqProofs only[go_sem,seval,hx,aa,ab,e1,e2,es]
    ·rw[Kk v1] at e1;have hn:=ae (fun h=>v1 h.1.1);rw[Kk hn];simp (maxSteps:=9^7) +contextual -implicitDefEqProofs only[go_sem,seval,hx,aa,ab,e1]
   ·have:i=l.length:=o_
    subst this;rw[KH (Kr _)] at hp ⊢;have ea:=ZpS (l.map L.Place.Box) (fun b hb=>by
     obtain⟨c,hc,rfl⟩:=Ll.1 hb;exact(hp c hc).1.1) (by simp;omega)
    simp (maxSteps:=9^7) +contextual -implicitDefEqProofs only[go_sem,seval,ea];exact Zb3 ⟨fun h=>⟨⟨ai,ah⟩,hp,h⟩,fun h=>h.2.2⟩
 ·rw[Kk hw] at ew;have hn:¬VPl (Zv.mk kW kH kP) l:=fun h=>hw h.1.1;refine cE ?_;simp (maxSteps:=9^7) +contextual -implicitDefEqProofs only[go_sem,seval,UH,ew,hn]
def popL (k:Zv) (l:List L.Place):Option BT:=if VPl k l then Y4 (k.W+k.H).toNat l ⟨0,0,k.W,k.H⟩ else none
theorem ZuY {k:Zv} {l:List L.Place} (h:VPl k l):VB ⟨0,0,k.W,k.H⟩∧InL l ⟨0,0,k.W,k.H⟩∧Apt l∧(∀ c∈l,XS k.Panes c.Pane c.Turned c.Box.W c.Box.H=true):=by
 obtain⟨⟨h1,h2⟩,h3,h4⟩:=h;refine⟨by simp only[VW] at h1;simp only[VB];omega,fun c hc=>(h3 c hc).1,?_,fun c hc=>(h3 c hc).2⟩;unfold Zg4 at h4;rw[List.pairwise_map] at h4;exact h4
theorem Zmn (kW kH:Int) (kP:List Pane) (l:List L.Place):v_ 85 [(.d (.agg [J kW,J kH,.sl (kP.map Pane.enc)])),(.d (.sl (l.map Place.enc)))] []=some (plT (popL (Zv.mk kW kH kP) l)):=by
 have e1:=Zn1 kW kH kP l;unfold popL;by_cases hv:VPl (Zv.mk kW kH kP) l
 ·obtain⟨h1,h2,h3,_⟩:=ZuY hv;rw[Ki hv] at e1;rw[Kg hv];have es:=ZbB kW kH kP;have ep:=ZpQ (kW+kH).toNat l 0 0 kW kH h1 h2 h3 (Kr _) (by have:=hv.1.2;omega);generalize Y4 (kW+kH).toNat l ⟨0,0,kW,kH⟩=X at ep ⊢;cases X with
  | none=>
   unfold plT at ep ⊢;refine cE ?_;simp (maxSteps:=9^7) +contextual -implicitDefEqProofs only[go_sem,seval,Vi,e1,es,ep]
  | some b=>
   obtain⟨o,a,q,t,ks,eb⟩:=Zct b;simp only[plT,eb] at ep ⊢;cases ks with
   | nil=>
    simp only[plO] at ep ⊢;refine cE ?_;simp (maxSteps:=9^7) +contextual -implicitDefEqProofs only[go_sem,seval,Vi,e1,es,ep]
   | cons k1 kr=>
    simp only[plO] at ep ⊢;refine cE ?_;simp (maxSteps:=9^7) +contextual -implicitDefEqProofs only[go_sem,seval,Vi,e1,es,ep]
 ·rw[Kk hv] at e1;rw[Kd hv];unfold plT;refine cE ?_;simp (maxSteps:=9^7) +contextual -implicitDefEqProofs only[go_sem,seval,Vi,e1]
end Go.Proofs.YtfnegoimdljanaaGreatDoor
namespace Go.Proofs.YtfnegoimdljanaaGreatDoor
open Go Go.Abs Go.Abs.E Go.Abs.L
set_option maxRecDepth 20000
set_option maxHeartbeats 4000000
theorem Ux (qL qW qH:Int) (qF:List Box) (w h:Int) (hq:VPc (Zb.mk qL qW qH qF)) (hw:1≤w∧w≤200) (hh:1≤h∧h≤200):v_ 84 [(.d (.agg [J qL,J qW,J qH,.sl (qF.map Box.enc)])),(.d (J w)),(.d (J h))] []=some (fcV (Xh (Zb.mk qL qW qH qF) w h)):=by
 have e0:=Q4 qL qW qH qF;rw[Ki hq] at e0;have hF:∀ f∈qF,VB f:=fun f hf=>(hq.2 f hf).1;obtain⟨_,_,af,ag,ah,ai,aj⟩:=hq.1;simp only at af ag ah ai aj;clear hq;have n1:¬w<1:=o_
 have n2:¬(200:Int)<w:=o_
 have n3:¬h<1:=o_
 have n4:¬(200:Int)<h:=o_
 unfold Xh;simp only;refine cE ?_;simp (maxSteps:=9^7) +contextual -implicitDefEqProofs only[go_sem,seval,ZiN,e0,n1,n2,n3,n4];refine LO (α:=Nat) (fun y=>[(8,.d (J (y:Int)))]) (fun _=>[]) (fun y=>(y:Int)≤qH∧Zs0 qF qW qH w h (qH.toNat+1-y) y=Zs0 qF qW qH w h (qH.toNat+1) 0) (fun y=>qH.toNat+1-y) 0 ⟨o_,by simp⟩ ?_;intro y ⟨hy,hp⟩ ih;obtain⟨n,hn⟩:∃ n,qH.toNat+1-y=n+1:=⟨qH.toNat-y,o_⟩
 rw[hn,Zs0] at hp;have wy:=wi ((y:Int)+h) o_ o_;by_cases ad:(y:Int)+h≤qH
 ·rw[Kg ad] at hp;simp (maxSteps:=9^7) +contextual -implicitDefEqProofs only[go_sem,seval,wy,ad];refine X1 Xs Ms (st0:=?st1) (α:=Nat) (fun x=>[(9,.d (J (x:Int)))]) (fun _=>[]) (fun x=>(x:Int)≤qW∧ZsZ qF qW w h y (qW.toNat+1-x) x=ZsZ qF qW w h y (qW.toNat+1) 0) (fun x=>qW.toNat+1-x) 0 ?hc2 ⟨o_,by simp⟩ ?h02 ?step2
  case hc2=>simp (maxSteps:=9^7) +contextual -implicitDefEqProofs only[go_sem,seval]<;>exact rfl
  case h02=>rfl
  case step2=>
   intro x ⟨hx,aa⟩ ak;obtain⟨m,hm⟩:∃ m,qW.toNat+1-x=m+1:=⟨qW.toNat-x,o_⟩
   rw[hm,ZsZ] at aa;have wx:=wi ((x:Int)+w) o_ o_;have al:=Zg (k:=x) o_;have am:=Zg (k:=y) o_;by_cases ab:(x:Int)+w≤qW
   ·rw[Kg ab] at aa;have ec:=Zh8 qF x y w h hF (by simp only[VB];omega) o_;by_cases ae:Z8 qF ⟨x,y,w,h⟩
    ·rw[Kg ae] at aa;rw[← aa] at hp;simp only at hp;rw[Ki ae] at ec;simp (maxSteps:=9^7) +contextual -implicitDefEqProofs only[go_sem,seval,wx,ab,ec,Bool.not_true];rw[← hp];rfl
    ·rw[Kd ae] at aa;rw[Kk ae] at ec;simp (maxSteps:=9^7) +contextual -implicitDefEqProofs only[go_sem,seval,wx,ab,ec,al,Kao];refine ak (x+1) _ ⟨o_,?_⟩ o_ ?_
     ·rw[← aa];have:qW.toNat+1-(x+1)=m:=o_
      rw[this];rfl
     ·simp (maxSteps:=9^7) +contextual -implicitDefEqProofs only[go_sem,seval]
   ·rw[Kd ab] at aa;rw[← aa] at hp;simp only at hp;simp (maxSteps:=9^7) +contextual -implicitDefEqProofs only[go_sem,seval,wx,ab,am];refine ih (y+1) _ ⟨o_,?_⟩ o_ ?_
    ·rw[← hp];have:qH.toNat+1-(y+1)=n:=o_
     rw[this];rfl
    ·simp (maxSteps:=9^7) +contextual -implicitDefEqProofs only[go_sem,seval]
 ·rw[Kd ad] at hp;simp (maxSteps:=9^7) +contextual -implicitDefEqProofs only[go_sem,seval,wy,ad];rw[← hp];rfl
theorem Zsm (qL qW qH:Int) (qF:List Box) (pW pH:Int) (pT:Bool) (pK:Int) (hq:VPc (Zb.mk qL qW qH qF)) (hp:VP (Pane.mk pW pH pT pK)):v_ 80 [(.d (.agg [J qL,J qW,J qH,.sl (qF.map Box.enc)])),(.d (.agg [J pW,J pH,.bool pT,J pK]))] []=some ((.d (.bool (okP (Pane.mk pW pH pT pK) (Zb.mk qL qW qH qF)))),[]):=by
 have aa:1≤pW∧pW≤200∧1≤pH∧pH≤200:=⟨hp.1,hp.2.1,hp.2.2.1,hp.2.2.2.1⟩
 have f1:=Ux qL qW qH qF pW pH hq ⟨aa.1,aa.2.1⟩ aa.2.2;have f2:=Ux qL qW qH qF pH pW hq aa.2.2 ⟨aa.1,aa.2.1⟩;have ab:okP (Pane.mk pW pH pT pK) (Zb.mk qL qW qH qF)=((Xh ⟨qL,qW,qH,qF⟩ pW pH).isSome || (pT&&(Xh ⟨qL,qW,qH,qF⟩ pH pW).isSome)):=rfl;rw[ab];cases h1:Xh ⟨qL,qW,qH,qF⟩ pW pH with
 | some b1=>
  rw[h1] at f1;unfold fcV at f1;obtain⟨bX,bY,bW,bH⟩:=b1;refine cE ?_;simp (maxSteps:=9^7) +contextual -implicitDefEqProofs only[go_sem,seval,Uo,f1,KV,Bool.true_or]
 | none=>
  rw[h1] at f1;unfold fcV at f1;cases pT with
  | false=>
   refine cE ?_;simp (maxSteps:=9^7) +contextual -implicitDefEqProofs only[go_sem,seval,Uo,f1,Kv,LU,Bool.false_and]
  | true=>
   cases h2:Xh ⟨qL,qW,qH,qF⟩ pH pW with
   | some b2=>
    rw[h2] at f2;unfold fcV at f2;obtain⟨bX,bY,bW,bH⟩:=b2;refine cE ?_;simp (maxSteps:=9^7) +contextual -implicitDefEqProofs only[go_sem,seval,Uo,f1,f2,Kv,KV,LU,Kal]
   | none=>
    rw[h2] at f2;unfold fcV at f2;refine cE ?_;simp (maxSteps:=9^7) +contextual -implicitDefEqProofs only[go_sem,seval,Uo,f1,f2,Kv,LU,Kal]
theorem Zsn (l:List Zb) (pW pH:Int) (pT:Bool) (pK:Int) (hv:VSt l) (hp:VP (Pane.mk pW pH pT pK)):v_ 39 [(.d (.sl (l.map Zb.enc))),(.d (.agg [J pW,J pH,.bool pT,J pK]))] []=some ((.d (J (Zvo l (Pane.mk pW pH pT pK)))),[]):=by
 have e1:=YH l;have e2:=Jr pW pH pT pK;rw[Ki hv] at e1;rw[Ki hp] at e2;have ab:=fun x hx=>ZW hv.2 x hx;have af:=hv.1;unfold Zvo;rw[Kg ⟨hv,hp⟩];refine cE ?_;simp (maxSteps:=9^7) +contextual -implicitDefEqProofs only[go_sem,seval,Zkh,e1,e2];refine LO (α:=Nat×Int×Int×Int) (fun s=>[(20,.d (J (s.1:Int))),(5,.d (J s.2.2.1)),(6,.d (J s.2.2.2))]) (fun _=>[]) (fun s=>s.1≤l.length∧Za9 l (Pane.mk pW pH pT pK) (l.drop s.1) s.1 s.2.1=ZdG l (Pane.mk pW pH pT pK)∧((s.2.1=-1∧s.2.2.1=0)∨∃ (j:Nat) (y:Zb),s.2.1=(j:Int)∧l[j]?=some y∧s.2.2.1=y.Label∧s.2.2.2=y.W*y.H)) (fun s=>l.length-s.1) (0,-1,0,0) ⟨by simp,by simp[ZdG],.inl ⟨rfl,rfl⟩⟩ ?_
 intro⟨i,b,lb,ls⟩ ⟨hi,hq,hb⟩ ih;simp only at hi hq hb;by_cases aa:i<l.length
 ·obtain⟨x,hx⟩:=Zn aa;have hw:=Zg (k:=i) o_;rw[Zpe hx] at hq;have ae:=ab x (Kb hx);have f1:=Zsm x.Label x.W x.H x.Flaws pW pH pT pK ae hp;have ag:=ae.1;have ah:0≤x.W*x.H∧x.W*x.H≤40000:=Jq (b:=⟨0,0,x.W,x.H⟩) (by simp only[VB];omega);obtain⟨L,W,H,F⟩:=x;simp only at f1 ah hq ag;have u1:=wi (W*H) o_ o_;by_cases hc:lb=0∨W*H<ls
  ·have hcb:b<0∨W*H<Zgg l b:=by
    rcases hb with ⟨h1,h2⟩ | ⟨j,y,h1,h2,h3,h4⟩
    ·left;omega
    ·have:=(ab y (Kb h2)).1;right
     unfold Zgg;rw[h1,Kz,h2];simp only;rcases hc with hc | hc
     ·omega
     ·omega
   by_cases ad:okP (Pane.mk pW pH pT pK) ⟨L,W,H,F⟩=true
   ·rw[ad] at f1;rw[Kg ⟨ad,hcb⟩] at hq;rcases hc with hc | hc
    ·simp (maxSteps:=9^7) +contextual -implicitDefEqProofs only[go_sem,seval,hx,aa,hw,f1,u1,hc];refine ih (i+1,(i:Int),L,W*H) _ ⟨p_,hq,.inr ⟨i,⟨L,W,H,F⟩,rfl,hx,rfl,rfl⟩⟩ p_ ?_;simp (maxSteps:=9^7) +contextual -implicitDefEqProofs only[go_sem,seval]
    ·by_cases h0:lb=0
     ·simp (maxSteps:=9^7) +contextual -implicitDefEqProofs only[go_sem,seval,hx,aa,hw,f1,u1,h0];refine ih (i+1,(i:Int),L,W*H) _ ⟨p_,hq,.inr ⟨i,⟨L,W,H,F⟩,rfl,hx,rfl,rfl⟩⟩ p_ ?_;simp (maxSteps:=9^7) +contextual -implicitDefEqProofs only[go_sem,seval]
     ·simp (maxSteps:=9^7) +contextual -implicitDefEqProofs only[go_sem,seval,hx,aa,hw,f1,u1,h0,hc];refine ih (i+1,(i:Int),L,W*H) _ ⟨p_,hq,.inr ⟨i,⟨L,W,H,F⟩,rfl,hx,rfl,rfl⟩⟩ p_ ?_;simp (maxSteps:=9^7) +contextual -implicitDefEqProofs only[go_sem,seval]
   ·rw[Kd (fun h=>ad h.1)] at hq;simp only[LD] at ad;rw[ad] at f1;by_cases h0:lb=0
    ·simp (maxSteps:=9^7) +contextual -implicitDefEqProofs only[go_sem,seval,hx,aa,hw,f1,u1,h0];refine ih (i+1,b,0,ls) _ ⟨p_,hq,by rw[h0] at hb;exact hb⟩ p_ ?_;simp (maxSteps:=9^7) +contextual -implicitDefEqProofs only[go_sem,seval]
    ·have hc:W*H<ls:=hc.resolve_left h0;simp (maxSteps:=9^7) +contextual -implicitDefEqProofs only[go_sem,seval,hx,aa,hw,f1,u1,h0,hc];refine ih (i+1,b,lb,ls) _ ⟨p_,hq,hb⟩ p_ ?_;simp (maxSteps:=9^7) +contextual -implicitDefEqProofs only[go_sem,seval]
  ·have h0:¬lb=0:=fun h=>hc (.inl h);have h1:¬W*H<ls:=fun h=>hc (.inr h);rw[Kd (fun h=>by
    rcases hb with ⟨h2,h3⟩ | ⟨j,y,h2,h3,h4,h5⟩
    ·exact h0 h3
    ·rcases h.2 with h6 | h6
     ·omega
     ·unfold Zgg at h6;rw[h2,Kz,h3] at h6;simp only at h6;omega)] at hq
   simp (maxSteps:=9^7) +contextual -implicitDefEqProofs only[go_sem,seval,hx,aa,hw,f1,u1,h0,h1];refine ih (i+1,b,lb,ls) _ ⟨p_,hq,hb⟩ p_ ?_;simp (maxSteps:=9^7) +contextual -implicitDefEqProofs only[go_sem,seval]
 ·have:i=l.length:=o_
  subst this;rw[Zs1] at hq;rcases hb with ⟨h1,h2⟩ | ⟨j,y,h1,h2,h3,h4⟩
  ·have hn:ZdG l (Pane.mk pW pH pT pK)<0:=o_
   simp (maxSteps:=9^7) +contextual -implicitDefEqProofs only[go_sem,seval];rw[Kg hn,h2]
  ·have hn:¬ZdG l (Pane.mk pW pH pT pK)<0:=o_
   simp (maxSteps:=9^7) +contextual -implicitDefEqProofs only[go_sem,seval];rw[Kd hn,← hq,h1,Kz,h2,h3]
mutual
theorem Ze.enc_inj:∀ (p q:Ze),p.enc=q.enc→p=q
 | .mk o a i t ks,.mk o' a' i' t' ks',h=>by
  rw[Ze.enc_mk,Ze.enc_mk] at h;injection h with h;simp only[List.cons.injEq,D.int.injEq,D.bool.injEq,D.sl.injEq,true_and,and_true] at h;obtain⟨rfl,rfl,rfl,rfl,h⟩:=h;rw[Ze.encL_inj ks ks' h]
theorem Ze.encL_inj:∀ (l m:List Ze),l.map Ze.enc=m.map Ze.enc→l=m
 | [],[],_=>rfl
 | [],_ :: _,h=>by simp at h
 | _ :: _,[],h=>by simp at h
 | x :: l,y :: m,h=>by
  rw[Kh,Kh] at h;injection h with h1 h2;rw[Ze.enc_inj x y h1,Ze.encL_inj l m h2]
end
theorem ZCf {X:Option BT} {p:Ze} (h:plV X=JA p):∃ b,X=some b∧b.plan=p:=by
 obtain⟨o,a,q,t,ks⟩:=p;cases X with
 | none=>simp[plV,JA] at h
 | some b=>
  obtain⟨o',a',q',t',aa,eb⟩:=Zct b;simp only[plV,JA,eb] at h;simp only[Prod.mk.injEq,AV.tup.injEq,List.cons.injEq,AV.agg.injEq,AV.d.injEq,D.int.injEq,D.bool.injEq,Zm.row.injEq,true_and,and_true] at h;obtain⟨⟨rfl,rfl,rfl,rfl⟩,h⟩:=h;exact⟨b,rfl,by rw[eb,Ze.encL_inj _ _ h]⟩
theorem ZDD {k:Zv} {c:L.Place} (hw:VW k) (hc:Zcu k c):plT (popL k [c])=plT (some (Qf c.Pane c.Turned c.Box.X c.Box.Y c.Box.W c.Box.H 0 0 k.W k.H))∧VPl k [c]:=by
 have hv:VPl k [c]:=by
  refine⟨⟨hw,by simp⟩,fun d hd=>?_,?_⟩
  ·rw[KD.1 hd];exact hc
  ·unfold Zg4;simp
 refine⟨?_,hv⟩;obtain⟨h1,h2,h3,h4⟩:=ZuY hv;have hG:=Ztu (k.W+k.H).toNat [c] 0 0 k.W k.H h1 h2 (Kr _) (by simp);have hi:=h2 c (by simp);obtain⟨P,T,⟨X,Y,W,H⟩⟩:=c;have hO:=Zka P T X Y W H 0 0 k.W k.H (by simp only[VB] at h1;simp only[VB,QI] at hi;unfold ZcL;omega);have h:some (plV (Y4 (k.W+k.H).toNat [⟨P,T,⟨X,Y,W,H⟩⟩] ⟨0,0,k.W,k.H⟩))=some (JA (Qf P T X Y W H 0 0 k.W k.H).plan):=hG.symm.trans hO;unfold popL;rw[Kg hv];obtain⟨b,hb,aa⟩:=ZCf (Option.some.inj h);rw[hb];simp only[plT,aa]
def nxT:Option Zl→AV×List Zm
 | some ⟨k,l,⟨x,y,w,h⟩,⟨⟨pw,ph,pt,pk⟩,c⟩,.mk o a q t ks⟩=>(.tup [.agg [(.d (J k)),(.d (J l)),(.d (J x)),(.d (J y)),(.d (J w)),(.d (J h)),(.d (J pw)),(.d (J ph)),(.d (.bool pt)),(.d (J pk)),(.d (J c)),(.d (J o)),(.d (J a)),(.d (J q)),(.d (.bool t)),.own 0],(.d (.bool true))],[plO ks])
 | none=>(.tup [.agg [(.d (J 0)),(.d (J 0)),(.d (J 0)),(.d (J 0)),(.d (J 0)),(.d (J 0)),(.d (J 0)),(.d (J 0)),(.d (.bool false)),(.d (J 0)),(.d (J 0)),(.d (J 0)),(.d (J 0)),(.d (J 0)),(.d (.bool false)),.own 0],(.d (.bool false))],[.row 5 [] true false])
def cfV (ok:Bool):Zl→AV×List Zm
 | ⟨k,l,⟨x,y,w,h⟩,⟨⟨pw,ph,pt,pk⟩,c⟩,.mk o a q t ks⟩=>(.tup [.agg [(.d (J k)),(.d (J l)),(.d (J x)),(.d (J y)),(.d (J w)),(.d (J h)),(.d (J pw)),(.d (J ph)),(.d (.bool pt)),(.d (J pk)),(.d (J c)),(.d (J o)),(.d (J a)),(.d (J q)),(.d (.bool t)),.own 0],(.d (.bool ok))],[plO ks])
theorem ZxX (sS:List Zb) (sO sD:List Zc) (sL sC:Int) (qL qW qH:Int) (qF:List Box) (i:Nat) (pW pH:Int) (pT:Bool) (pK:Int) (hv:ZI (Zo.mk sS sO sD sL sC)) (a:Nat) (ha:sS[a]?=some (Zb.mk qL qW qH qF)) (y:Zc) (hy:sO[i]?=some y) (ai:y.Pane=(Pane.mk pW pH pT pK)) (af:okP (Pane.mk pW pH pT pK) (Zb.mk qL qW qH qF)=true) :
  ∃ (t:Bool) (b:Box),((Xh (Zb.mk qL qW qH qF) pW pH=some b∧t=false)∨(Xh (Zb.mk qL qW qH qF) pW pH=none∧Xh (Zb.mk qL qW qH qF) pH pW=some b∧t=true))∧Zcu ⟨qW,qH,sO.map Zc.Pane⟩ ⟨i,t,b⟩∧VW ⟨qW,qH,sO.map Zc.Pane⟩ ∧
   v_ 41 [(.d (.agg [.sl (sS.map Zb.enc),.sl (sO.map Zc.enc),.sl (sD.map Zc.enc),J sL,J sC])),(.d (.agg [J qL,J qW,J qH,.sl (qF.map Box.enc)])),(.d (J i)),(.d (.agg [J pW,J pH,.bool pT,J pK]))] []=some (cfV (Qs (Zo.mk sS sO sD sL sC) (Zlc i t b (Zb.mk qL qW qH qF))).isSome (Zlc i t b (Zb.mk qL qW qH qF))):=by
 have ag:=ZW hv.1.2 _ (Kb ha);have al:=ag.1;simp only at al;have hp:VP (Pane.mk pW pH pT pK):=by rw[← ai];exact(Z5 hv.2.1 y (Kb hy)).1
 have ae:1≤pW∧pW≤200∧1≤pH∧pH≤200:=⟨hp.1,hp.2.1,hp.2.2.1,hp.2.2.2.1⟩
 have e1:=ZmR sS sO sD sL sC qL;unfold ZBa at e1;have ab:=ZmP (k:=0) hv.1.2 ha;rw[K0] at ab;rw[Kg hv] at e1;simp only at ab;simp only[ZbY ab ha] at e1;unfold wkV at e1;simp only at e1;have f1:=Ux qL qW qH qF pW pH ag ⟨ae.1,ae.2.1⟩ ae.2.2;have f2:=Ux qL qW qH qF pH pW ag ae.2.2 ⟨ae.1,ae.2.1⟩;have am:=hv.2.1.1;simp only at am;have ah:VW ⟨qW,qH,sO.map Zc.Pane⟩:=by
  refine⟨p_,p_,p_,p_,by simp;omega,fun z hz=>?_⟩;obtain⟨x,hx,rfl⟩:=Ll.1 hz;exact(Z5 hv.2.1 x hx).1
 have aj:(sO.map Zc.Pane)[i]?=some (Pane.mk pW pH pT pK):=by rw[La,hy,← ai];rfl
 have ak:∀ (t:Bool) (b:Box),Zcu ⟨qW,qH,sO.map Zc.Pane⟩ ⟨i,t,b⟩→∃ (o a' p' : Int) (t' : Bool) (ks:List Ze),(Qf i t b.X b.Y b.W b.H 0 0 qW qH).plan=.mk o a' p' t' ks ∧
   v_ 85 [.d (.agg [J qW,J qH,.sl ((sO.map Zc.Pane).map Pane.enc)]),.d (.sl [.agg [J (i:Int),.bool t,J b.X,J b.Y,J b.W,J b.H]])] []=some (.tup [.agg [(.d (J o)),(.d (J (a'))),(.d (J (p'))),(.d (.bool (t'))),.own 0],(.d (.bool true))],[plO ks]):=by
  intro t b hc;have e:=Zmn qW qH (sO.map Zc.Pane) [⟨i,t,b⟩];rw[(ZDD ah hc).1] at e;simp only[plT] at e;cases hpp:(Qf i t b.X b.Y b.W b.H 0 0 qW qH).plan with
  | mk o a' p' t' ks=>
   rw[hpp] at e;exact⟨o,a',p',t',ks,rfl,e⟩
 cases h1:Xh (Zb.mk qL qW qH qF) pW pH with
 | some b=>
  obtain⟨g1,g2,g3,g4,g5,g6,_⟩:=ZaT h1;simp only at g2 g4;have hc:Zcu ⟨qW,qH,sO.map Zc.Pane⟩ ⟨i,false,b⟩:=by
   refine⟨⟨?_,?_⟩,?_⟩
   ·simp only[VB];omega
   ·simp only[QI];omega
   ·simp[XS,aj,g5,g6]
  refine⟨false,b,.inl ⟨rfl,rfl⟩,hc,ah,?_⟩;obtain⟨o,a',p',t',ks,k1,k2⟩:=ak false b hc;rw[h1] at f1;have e5:=Za4 sS sO sD sL sC 3 qL 0 0 0 0 0 0 false 0 0 o a' p' t' ks;rw[Kg hv] at e5;unfold Zlc;simp only[k1];obtain⟨bX,bY,bW,bH⟩:=b;unfold fcV at f1;simp only at f1 k2;cases hap:Qs (Zo.mk sS sO sD sL sC) ⟨3,qL,⟨0,0,0,0⟩,⟨⟨0,0,false,0⟩,0⟩,.mk o a' p' t' ks⟩ with
  | none=>
   rw[hap] at e5;unfold shT at e5;unfold cfV;refine cE ?_;by_cases aa:ks=[]
   ·subst aa;simp only[Kp] at e5;simp +contextual -implicitDefEqProofs (maxSteps:=9^7) only[go_sem,seval,VD,e1,f1,k2,e5,Kv]
   ·have ad:=Zf3 aa;simp +contextual -implicitDefEqProofs (maxSteps:=9^7) only[go_sem,seval,VD,e1,f1,k2,e5,Kv,ad]
  | some u=>
   rw[hap] at e5;obtain⟨a1,a2,a3,a4,a5⟩:=u;unfold shT at e5;simp only at e5;unfold cfV;refine cE ?_;by_cases aa:ks=[]
   ·subst aa;simp only[Kp] at e5;simp +contextual -implicitDefEqProofs (maxSteps:=9^7) only[go_sem,seval,VD,e1,f1,k2,e5,KV]
   ·have ad:=Zf3 aa;simp +contextual -implicitDefEqProofs (maxSteps:=9^7) only[go_sem,seval,VD,e1,f1,k2,e5,KV,ad]
 | none=>
  unfold okP at af;simp only[h1,Kv,LU,Kf] at af;obtain⟨hT,hs⟩:=af;subst hT;cases h2:Xh (Zb.mk qL qW qH qF) pH pW with
  | none=>rw[h2] at hs;cases hs
  | some b=>
   obtain⟨g1,g2,g3,g4,g5,g6,_⟩:=ZaT h2;simp only at g2 g4;have an:¬pW=pH:=fun h=>by rw[h] at h1 h2;rw[h1] at h2;cases h2
   have hc:Zcu ⟨qW,qH,sO.map Zc.Pane⟩ ⟨i,true,b⟩:=by
    refine⟨⟨?_,?_⟩,?_⟩
    ·simp only[VB];omega
    ·simp only[QI];omega
    ·simp[XS,aj,g5,g6,an]
   refine⟨true,b,.inr ⟨rfl,rfl,rfl⟩,hc,ah,?_⟩;obtain⟨o,a',p',t',ks,k1,k2⟩:=ak true b hc;rw[h1] at f1;rw[h2] at f2;have e5:=Za4 sS sO sD sL sC 3 qL 0 0 0 0 0 0 false 0 0 o a' p' t' ks;rw[Kg hv] at e5;unfold Zlc;simp only[k1];obtain⟨bX,bY,bW,bH⟩:=b;unfold fcV at f1 f2;simp only at f1 f2 k2;cases hap:Qs (Zo.mk sS sO sD sL sC) ⟨3,qL,⟨0,0,0,0⟩,⟨⟨0,0,false,0⟩,0⟩,.mk o a' p' t' ks⟩ with
   | none=>
    rw[hap] at e5;unfold shT at e5;unfold cfV;refine cE ?_;by_cases aa:ks=[]
    ·subst aa;simp only[Kp] at e5;simp +contextual -implicitDefEqProofs (maxSteps:=9^7) only[go_sem,seval,VD,e1,f1,f2,k2,e5,Kv]
    ·have ad:=Zf3 aa;simp +contextual -implicitDefEqProofs (maxSteps:=9^7) only[go_sem,seval,VD,e1,f1,f2,k2,e5,Kv,ad]
   | some u=>
    rw[hap] at e5;obtain⟨a1,a2,a3,a4,a5⟩:=u;unfold shT at e5;simp only at e5;unfold cfV;refine cE ?_;by_cases aa:ks=[]
    ·subst aa;simp only[Kp] at e5;simp +contextual -implicitDefEqProofs (maxSteps:=9^7) only[go_sem,seval,VD,e1,f1,f2,k2,e5,KV]
    ·have ad:=Zf3 aa;simp +contextual -implicitDefEqProofs (maxSteps:=9^7) only[go_sem,seval,VD,e1,f1,f2,k2,e5,KV,ad]
theorem Zmo (sS:List Zb) (sO sD:List Zc) (sL sC:Int) (hv:ZI (Zo.mk sS sO sD sL sC)):v_ 15 [(.d (.agg [.sl (sS.map Zb.enc),.sl (sO.map Zc.enc),.sl (sD.map Zc.enc),J sL,J sC]))] []=some (nxT (WA (Zo.mk sS sO sD sL sC))):=by
 have e1:=Z9 sS sO sD sL sC;rw[Ki hv] at e1;have ai:=hv.2.1.1;have af:=hv.1.1;simp only at ai af;refine cE ?_;simp (maxSteps:=9^7) +contextual -implicitDefEqProofs only[go_sem,seval,Zpk,e1];refine LO (α:=Nat) (fun i=>[(17,.d (J (i:Int)))]) (fun _=>[]) (fun i=>i≤sO.length∧Wz (Zo.mk sS sO sD sL sC) (sO.drop i) i=WA (Zo.mk sS sO sD sL sC)) (fun i=>sO.length-i) 0 ⟨o_,by simp[WA]⟩ ?_;intro i ⟨hi,hp⟩ ih;by_cases aa:i<sO.length
 ·obtain⟨x,hx⟩:=Zn aa;have hw:=Zg (k:=i) o_;rw[Zin hx] at hp;have ag:=Z5 hv.2.1 x (Kb hx);have aj:=hx;obtain⟨⟨W,H,T,K⟩,C⟩:=x;simp only at ag;have ef:=Zsn sS W H T K hv.1 ag.1;unfold Zvo at ef;rw[Kg ⟨hv.1,ag.1⟩] at ef;unfold Zs5 at hp;simp only at hp;rcases Zs2 sS ⟨W,H,T,K⟩ with h0 | ⟨j,q,hj,hq,ak⟩
  ·rw[Kg h0] at ef hp;simp only at hp;simp (maxSteps:=9^7) +contextual -implicitDefEqProofs only[go_sem,seval,hx,aa,hw,ef];refine ih (i+1) _ ⟨o_,hp⟩ o_ ?_;simp (maxSteps:=9^7) +contextual -implicitDefEqProofs only[go_sem,seval]
  ·have al:¬(j:Int)<0:=o_
   rw[hj,Kd al,Kz,hq] at ef hp;simp only at hp ef;have am:=ZW hv.1.2 q (Kb hq);have ae:=(Kc.1 hq).1;have el:=Yy sS q.Label o_;rw[ZmP hv.1.2 hq,K0] at el;have ab:0<q.Label:=by have:=am.1;omega
   obtain⟨qL,qW,qH,qF⟩:=q;simp only at ef el hp ab;obtain⟨t,b,hb,_,_,ec⟩:=ZxX sS sO sD sL sC qL qW qH qF i W H T K hv j hq _ aj rfl ak;have hp:(if (Qs (Zo.mk sS sO sD sL sC) (Zlc i t b ⟨qL,qW,qH,qF⟩)).isSome=true then some (Zlc i t b ⟨qL,qW,qH,qF⟩) else Wz (Zo.mk sS sO sD sL sC) (sO.drop (i+1)) (i+1))=WA (Zo.mk sS sO sD sL sC):=by
    rcases hb with ⟨k1,rfl⟩ | ⟨k1,k2,rfl⟩
    ·rw[k1] at hp;exact hp
    ·rw[k1,k2] at hp;exact hp
   unfold Zlc at ec hp;cases hpp:(Qf i t b.X b.Y b.W b.H 0 0 qW qH).plan with
   | mk o a p t' ks=>
    simp only[hpp] at ec hp;unfold cfV at ec;simp only at ec;cases hap:Qs (Zo.mk sS sO sD sL sC) ⟨3,qL,⟨0,0,0,0⟩,⟨⟨0,0,false,0⟩,0⟩,.mk o a p t' ks⟩ with
    | none=>
     rw[hap] at ec hp;simp only[Kv,Ka,Kn] at ec hp;by_cases ad:ks=[]
     ·subst ad;simp (maxSteps:=9^7) +contextual -implicitDefEqProofs only[go_sem,seval,hx,aa,hw,ef,el,ec,ab,ae,hq,ZAX];refine ih (i+1) _ ⟨o_,hp⟩ o_ ?_;simp (maxSteps:=9^7) +contextual -implicitDefEqProofs only[go_sem,seval]
     ·have ah:=Zf3 ad;simp (maxSteps:=9^7) +contextual -implicitDefEqProofs only[go_sem,seval,hx,aa,hw,ef,el,ec,ab,ae,hq,ah];refine ih (i+1) _ ⟨o_,hp⟩ o_ ?_;simp (maxSteps:=9^7) +contextual -implicitDefEqProofs only[go_sem,seval]
    | some u=>
     rw[hap] at ec hp;simp only[KV,Km] at ec hp;rw[← hp];unfold nxT;by_cases ad:ks=[]
     ·subst ad;simp (maxSteps:=9^7) +contextual -implicitDefEqProofs only[go_sem,seval,hx,aa,hw,ef,el,ec,ab,ae,hq,ZAX]
     ·have ah:=Zf3 ad;simp (maxSteps:=9^7) +contextual -implicitDefEqProofs only[go_sem,seval,hx,aa,hw,ef,el,ec,ab,ae,hq,ah]
 ·have:i=sO.length:=o_
  subst this;rw[Zs6] at hp;rw[← hp];unfold nxT;simp (maxSteps:=9^7) +contextual -implicitDefEqProofs only[go_sem,seval]
def Zmp:List Int→Int
 | []=>0
 | x :: l=>x+Zmp l
theorem ZxY:∀ {u:List Int} {n:Nat} {v w:Int},u[n]?=some v→Zmp (u.set n w)=Zmp u-v+w
 | [],n,v,w,h=>by simp at h
 | x :: u,0,v,w,h=>by
  simp only[KX,Option.some.injEq] at h;subst h;simp only[KaC,Zmp];omega
 | x :: u,n+1,v,w,h=>by
  simp only[KY] at h;simp only[Kak,Zmp,ZxY h];omega
theorem ZuZ:∀ (l:List L.Place) (u:List Int),(∀ c∈l,∃ n:Nat,c.Pane=(n:Int)∧n<u.length)→Zmp (Uk u l)=Zmp u+l.length
 | [],u,_=>by simp[Uk]
 | x :: l,u,h=>by
  obtain⟨n,h1,h2⟩:=h x (by simp);obtain⟨v,hv⟩:=Zn h2;rw[Uk,h1,Kz,hv,ZuZ l _ (fun c hc=>by
   obtain⟨m,a,b⟩:=h c (by simp[hc]);exact⟨m,a,by simpa using b⟩),ZxY hv]
  simp only[Option.getD_some,Kl];omega
theorem ZxZ:∀ n:Nat,Zmp (List.replicate n 0)=0
 | 0=>rfl
 | n+1=>by simp[LZ,Zmp,ZxZ n]
theorem ZCg {k:Zv} {p:Ze} (hv:Va k p=true):Zmp (Zbq k p)=((Qx k p).filterMap Xd).length:=by
 obtain⟨b,hb,ae,af,ab,aa,ad⟩:=QU hv;unfold Zbq;rw[ad,YF,ZuZ _ _ (fun c hc=>by
  obtain⟨n,h1,h2⟩:=ZaS aa c hc;exact⟨n,h1,by simpa using h2⟩),ZxZ]
 omega
theorem ZkZ:∀ {ps:List Pane} {us:List Int} {o d o' d' : List Zc},us.length=ps.length→Ve ps us o d=some (o',d')→Qr d'=Qr d+Zmp us
 | [],us,o,d,o',d',hl,h=>by
  cases us with
  | nil=>unfold Ve at h;cases h;simp[Zmp]
  | cons c us=>simp at hl
 | p :: ps,[],o,d,o',d',hl,h=>by simp at hl
 | p :: ps,c :: us,o,d,o',d',hl,h=>by
  rw[Ve] at h;simp only[Kl,Nat.add_right_cancel_iff] at hl;split at h
  ·rename_i h0;rw[ZkZ hl h,Zmp,h0];omega
  ·split at h
   ·rw[ZkZ hl h,ZbU,Zmp];omega
   ·cases h
theorem ZES {i:Int} {t:Bool} {X Y W H bX bY bW bH:Int} (h:ZcL X Y W H bX bY bW bH):plc (Qf i t X Y W H bX bY bW bH) bX bY bW bH=[⟨i,t,⟨X,Y,W,H⟩⟩]:=by
 have h0:=h;unfold ZcL at h0;have q4:∀ (y h' : Int),y=Y→Y+H≤y+h'→plc (if Y+H<Y+h' then BT.cut false H (.pane i t) .waste else .pane i t) X y W h'=[⟨i,t,⟨X,Y,W,H⟩⟩]:=by
  intro y h' e e2;subst e;split
  ·simp[plc]
  ·have:h'=H:=o_
   simp[plc,this]
 have q3:plc (if bY<Y then BT.cut false (Y-bY) .waste (if Y+H<bY+bH then BT.cut false H (.pane i t) .waste else .pane i t) else (if Y+H<bY+bH then BT.cut false H (.pane i t) .waste else .pane i t)) X bY W bH=[⟨i,t,⟨X,Y,W,H⟩⟩]:=by
  split
  ·have e:Y+H<bY+bH↔Y+H<Y+(bH-(Y-bY)):=o_
   simp only[plc,Ka,Kn,K6,e];exact q4 _ _ o_ o_
  ·have e:bY=Y:=o_
   subst e;exact q4 _ _ rfl o_
 have q2:∀ (x w' : Int),x=X→X+W≤x+w'→plc (if X+W<X+w' then BT.cut true W (if bY<Y then BT.cut false (Y-bY) .waste (if Y+H<bY+bH then BT.cut false H (.pane i t) .waste else .pane i t) else (if Y+H<bY+bH then BT.cut false H (.pane i t) .waste else .pane i t)) .waste else (if bY<Y then BT.cut false (Y-bY) .waste (if Y+H<bY+bH then BT.cut false H (.pane i t) .waste else .pane i t) else (if Y+H<bY+bH then BT.cut false H (.pane i t) .waste else .pane i t))) x bY w' bH=[⟨i,t,⟨X,Y,W,H⟩⟩]:=by
  intro x w' e e2;subst e;split
  ·simp only[plc,Km,KE,q3]
  ·have:w'=W:=o_
   rw[this];exact q3
 unfold Qf;simp only;split
 ·have e:X+W<bX+bW↔X+W<X+(bW-(X-bX)):=o_
  simp only[plc,Km,K6,e];exact q2 _ _ o_ o_
 ·have e:bX=X:=o_
  subst e;exact q2 _ _ rfl o_
theorem Zo5 {s:Zo} (hv:ZI s):∀ {m:Nat} {i:Nat} {e:Zl},s.Opn.length-i=m→Wz s (s.Opn.drop i) i=some e→∃ (n j:Nat) (x:Zc) (q:Zb) (t:Bool) (b:Box),s.Opn[n]?=some x∧s.Stock[j]?=some q∧e=Zlc n t b q∧((Xh q x.Pane.W x.Pane.H=some b∧t=false)∨(Xh q x.Pane.W x.Pane.H=none∧Xh q x.Pane.H x.Pane.W=some b∧t=true))∧okP x.Pane q=true∧∃ u,Qs s e=some u
 | 0,i,e,hm,h=>by
  rw[List.drop_eq_nil_of_le o_] at h;simp[Wz] at h
 | m+1,i,e,hm,h=>by
  obtain⟨x,hx⟩:=Zn (l:=s.Opn) (k:=i) o_;rw[Zin hx] at h;have nx:=fun h=>Zo5 hv (m:=m) (i:=i+1) (e:=e) o_ h;unfold Zs5 at h;rcases Zs2 s.Stock x.Pane with h0 | ⟨j,q,hj,hq,aa⟩
  ·rw[Kg h0] at h;exact nx h
  ·rw[hj,Kd o_,Kz,hq] at h;simp only at h;cases h1:Xh q x.Pane.W x.Pane.H with
   | some b=>
    rw[h1] at h;simp only at h;split at h
    ·rename_i ha;cases h;exact⟨i,j,x,q,false,b,hx,hq,rfl,.inl ⟨h1,rfl⟩,aa,Lg.1 ha⟩
    ·exact nx h
   | none=>
    rw[h1] at h;simp only at h;cases h2:Xh q x.Pane.H x.Pane.W with
    | some b=>
     rw[h2] at h;simp only at h;split at h
     ·rename_i ha;cases h;exact⟨i,j,x,q,true,b,hx,hq,rfl,.inr ⟨h1,h2,rfl⟩,aa,Lg.1 ha⟩
     ·exact nx h
    | none=>rw[h2] at h;exact nx h
structure NFacts (s:Zo) (e:Zl) (u:Zo) (n j:Nat) (x:Zc) (q:Zb) (t:Bool) (b:Box):Prop where
 fx:s.Opn[n]?=some x
 fq:s.Stock[j]?=some q
 lab:QD 0 s.Stock q.Label=(j:Int)
 fe:e=Zlc n t b q
 ap:Qs s e=some u
 vw:VW ⟨q.W,q.H,s.Opn.map Zc.Pane⟩
 pl:Zcu ⟨q.W,q.H,s.Opn.map Zc.Pane⟩ ⟨n,t,b⟩
 good:Vk q ⟨q.W,q.H,s.Opn.map Zc.Pane⟩ e.plan
 places:(Qx ⟨q.W,q.H,s.Opn.map Zc.Pane⟩ e.plan).filterMap Xd=[⟨n,t,b⟩]
 clr:Z8 q.Flaws b
 done:Qr u.Done=Qr s.Done+1
 opn:Qr u.Opn=Qr s.Opn-1
theorem Zx0 {s:Zo} {e:Zl} (hv:ZI s) (h:WA s=some e):∃ u n j x q t b,NFacts s e u n j x q t b:=by
 obtain⟨n,j,x,q,t,b,hx,hq,he,hb,af,u,hu⟩:=Zo5 hv (i:=0) rfl (by simpa [WA] using h);have aj:=ZW hv.1.2 q (Kb hq);have ar:=aj.1;have hp:=(Z5 hv.2.1 x (Kb hx)).1;have au:1≤x.Pane.W∧x.Pane.W≤200∧1≤x.Pane.H∧x.Pane.H≤200:=⟨hp.1,hp.2.1,hp.2.2.1,hp.2.2.2.1⟩
 have av:=hv.2.1.1;have ak:VW ⟨q.W,q.H,s.Opn.map Zc.Pane⟩:=by
  refine⟨p_,p_,p_,p_,by simp;omega,fun z hz=>?_⟩;obtain⟨y,hy,rfl⟩:=Ll.1 hz;exact(Z5 hv.2.1 y hy).1
 have ai:(s.Opn.map Zc.Pane)[n]?=some x.Pane:=by rw[La,hx];rfl
 have ad:=ZmP (k:=0) hv.1.2 hq;rw[K0] at ad;have ag:Z8 q.Flaws b∧Zcu ⟨q.W,q.H,s.Opn.map Zc.Pane⟩ ⟨n,t,b⟩:=by
  rcases hb with ⟨k1,rfl⟩ | ⟨k1,k2,rfl⟩
  ·obtain⟨g1,g2,g3,g4,g5,g6,g7⟩:=ZaT k1;refine⟨g7,⟨?_,?_⟩,?_⟩
   ·simp only[VB];omega
   ·simp only[QI];omega
   ·simp[XS,ai,g5,g6]
  ·obtain⟨g1,g2,g3,g4,g5,g6,g7⟩:=ZaT k2;have al:¬x.Pane.W=x.Pane.H:=fun h=>by rw[h] at k1 k2;rw[k1] at k2;cases k2
   unfold okP at af;simp only[k1,Kv,LU,Kf] at af;refine⟨g7,⟨?_,?_⟩,?_⟩
   ·simp only[VB];omega
   ·simp only[QI];omega
   ·simp[XS,ai,g5,g6,al,af.1]
 have am:ZcL b.X b.Y b.W b.H 0 0 q.W q.H:=by
  have:=ag.2.1;simp only[VB,QI] at this;unfold ZcL;omega
 have hf:=ZzI hv hu;have hk:e.kind=3:=by rw[he];rfl
 obtain⟨ab,_⟩:=ZxQ hu;have an:evS s e=Zdj s e:=by unfold evS;rw[Kd o_,Kd o_,Kd o_,Kd o_,Kd o_,Kg hk]
 rw[an] at ab;have ao:e.label=q.Label:=by rw[he];rfl
 have ap:e.plan=(Qf n t b.X b.Y b.W b.H 0 0 q.W q.H).plan:=by rw[he];rfl
 unfold Zdj at ab;rw[ao,ad,Kz,hq] at ab;simp only at ab;cases hst:ZaQ s.Stock q.Label ⟨q.W,q.H,s.Opn.map Zc.Pane⟩ e.plan 5 with
 | none=>rw[hst] at ab;cases ab
 | some R=>
  rw[hst] at ab;simp only at ab;have ae:Vk q ⟨q.W,q.H,s.Opn.map Zc.Pane⟩ e.plan:=by
   unfold ZaQ at hst;split at hst
   ·rw[ad,Kz,hq] at hst;simp only at hst;split at hst
    ·rename_i hg;exact hg.1
    ·cases hst
   ·cases hst
  have ah:=ae.1;have aa:(Qx ⟨q.W,q.H,s.Opn.map Zc.Pane⟩ e.plan).filterMap Xd=[⟨n,t,b⟩]:=by
   obtain⟨B,hB,aw,_,_,_,aq⟩:=QU ah;rw[ap,XG] at hB;cases hB;rw[aq,YF];exact ZES am
  split at ab
  ·split at ab
   ·cases ab
   ·rename_i o d hg;cases ab;have hd:=ZkZ (by rw[(ZdF ah).1]) hg;rw[ZCg ah,aa] at hd;have hc:=hf.cnt;rw[Kd o_] at hc;simp only[Kl,KO] at hd;have hc:Qr o+Qr d=Qr s.Opn+Qr s.Done+0:=hc;exact⟨_,n,j,x,q,t,b,hx,hq,ad,he,hu,ak,ag.2,ae,aa,ag.1,(by show Qr d=_;omega),(by show Qr o=_;omega)⟩
  ·cases ab
end Go.Proofs.YtfnegoimdljanaaGreatDoor
