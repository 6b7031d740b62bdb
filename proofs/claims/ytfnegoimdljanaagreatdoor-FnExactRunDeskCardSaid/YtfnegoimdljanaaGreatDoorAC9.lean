/- Own text. -/
import Derived.Test.YtfnegoimdljanaaGreatDoorACode
import Derived.Test.YtfnegoimdljanaaGreatDoorAC1
import Derived.Test.YtfnegoimdljanaaGreatDoorAbsOkD
namespace Go.Proofs.YtfnegoimdljanaaGreatDoor
open Go Go.Abs Go.Abs.E Go.Abs.L
set_option linter.unusedSimpArgs false
set_option linter.unusedVariables false
set_option maxRecDepth 20000
set_option maxHeartbeats 4000000
def loP (d:Bool) (b:Box):Int:=if d then b.X else b.Y
def hiP (d:Bool) (b:Box):Int:=if d then b.X+b.W else b.Y+b.H
def tch (d:Bool) (l:List L.Place) (t:Int):Bool:=l.any fun c=>decide (t=loP d c.Box∨t=hiP d c.Box)
def crs (d:Bool) (l:List L.Place) (t:Int):Bool:=l.any fun c=>decide (loP d c.Box<t∧t<hiP d c.Box)
def WH (d:Bool) (l:List L.Place) (fr:Int):Nat→List Int
 | 0=>[]
 | n+1=>WH d l fr n++(if tch d l (fr+1+n)=true then [fr+1+(n:Int)] else [])
def Zgr (d:Bool) (l:List L.Place) (fr:Int):Nat→Option Int
 | 0=>none
 | n+1=>match Zgr d l fr n with
  | some x=>some x
  | none=>if tch d l (fr+1+n)=true∧crs d l (fr+1+n)=false then some (fr+1+(n:Int)) else none
def Yo (d:Bool) (l:List L.Place) (t:Int) (f:Bool):List L.Place:=l.filter fun c=>f==decide (hiP d c.Box≤t)
theorem ZzA {d:Bool} {l:List L.Place} {t:Int} {k:Nat} {c:L.Place} (hx:l[k]?=some c):tch d (l.take (k+1)) t=(tch d (l.take k) t || decide (t=loP d c.Box∨t=hiP d c.Box)):=by
 unfold tch;rw[KB,hx,List.any_append];simp
theorem ZzB {d:Bool} {l:List L.Place} {t:Int} {k:Nat} {c:L.Place} (hx:l[k]?=some c):crs d (l.take (k+1)) t=(crs d (l.take k) t || decide (loP d c.Box<t∧t<hiP d c.Box)):=by
 unfold crs;rw[KB,hx,List.any_append];simp
theorem Zli {d:Bool} {l:List L.Place} {t:Int} {f:Bool} {k:Nat} {c:L.Place} (hx:l[k]?=some c):Yo d (l.take (k+1)) t f=Yo d (l.take k) t f++(if f=decide (hiP d c.Box≤t) then [c] else []):=by
 unfold Yo;rw[KB,hx,List.filter_append];by_cases h:f=decide (hiP d c.Box≤t)
 ·simp[h]
 ·rw[Kd h];have:(f==decide (hiP d c.Box≤t))=false:=by simpa using h
  simp[this]
theorem Zmt {d:Bool} {l:List L.Place} {fr:Int}:∀ {n:Nat} {x:Int},x∈WH d l fr n→fr<x∧x<fr+1+n
 | 0,x,h=>by simp[WH] at h
 | n+1,x,h=>by
  unfold WH at h;rcases Ki.1 h with h | h
  ·have:=Zmt h;omega
  ·split at h
   ·simp at h;omega
   ·simp at h
theorem ZjT {d:Bool} {l:List L.Place} {fr:Int}:∀ (n:Nat),(WH d l fr n).length≤n
 | 0=>by simp[WH]
 | n+1=>by
  have:=ZjT (d:=d) (l:=l) (fr:=fr) n;unfold WH;split<;>simp<;>omega
theorem Zlj {d:Bool} {l:List L.Place} {fr:Int}:∀ (n:Nat),(WH d l fr n).find? (fun x=>!crs d l x)=Zgr d l fr n
 | 0=>rfl
 | n+1=>by
  unfold WH Zgr;rw[List.find?_append,Zlj n];cases hc:Zgr d l fr n with
  | some x=>rfl
  | none=>
   by_cases ht:tch d l (fr+1+n)=true
   ·rw[Kg ht];by_cases hx:crs d l (fr+1+n)=false
    ·rw[Kg ⟨ht,hx⟩];simp[hx]
    ·rw[Kd (fun h=>hx h.2)];simp only[Bool.not_eq_false] at hx;simp[hx]
   ·rw[Kd ht,Kd (fun h=>ht h.1)];rfl
theorem Zgs {d:Bool} {l:List L.Place} {fr:Int}:∀ {n:Nat} {x:Int},Zgr d l fr n=some x→fr<x∧x<fr+1+n∧crs d l x=false∧tch d l x=true
 | 0,x,h=>by simp[Zgr] at h
 | n+1,x,h=>by
  unfold Zgr at h;split at h
  ·rename_i y hy;cases h;have:=Zgs hy;exact⟨this.1,by omega,this.2.2⟩
  ·split at h
   ·rename_i hc;cases h;exact⟨by omega,by omega,hc.2,hc.1⟩
   ·cases h
theorem ZkK:∀ (l:List Int) (k:Nat) (n:Int),n∉l→XJ k l n=-1
 | [],_,_,_=>rfl
 | x :: l,k,n,h=>by
  simp only[Ke,not_or] at h;unfold XJ;rw[Kd (fun e=>h.1 e.symm),ZkK l (k+1) n h.2]
theorem ZkL:∀ (l:List Int) (k:Nat) (n:Int),n∈l→0≤XJ k l n
 | [],_,_,h=>by simp at h
 | x :: l,k,n,h=>by
  unfold XJ;split
  ·omega
  ·rename_i aa;rcases Ke.1 h with rfl | h
   ·exact absurd rfl aa
   ·exact ZkL l (k+1) n h
def Zch (d:Bool) (b:Box) (a:Int):Box:=if d then ⟨b.X,b.Y,a,b.H⟩ else ⟨b.X,b.Y,b.W,a⟩
def UF (d:Bool) (b:Box) (a:Int):Box:=if d then ⟨b.X+a,b.Y,b.W-a,b.H⟩ else ⟨b.X,b.Y+a,b.W,b.H-a⟩
def Zih (d:Bool) (a:Int):Option BT→Option BT→Option BT
 | some p,some q=>some (.cut d a p q)
 | _,_=>none
def ZdY (l:List L.Place) (b:Box):Option (Bool×Int):=match Zgr true l b.X (b.W-1).toNat with
 | some x=>some (true,x)
 | none=>match Zgr false l b.Y (b.H-1).toNat with
  | some y=>some (false,y)
  | none=>none
def Y9:Nat→List L.Place→Box→Option BT
 | 0,_,_=>none
 | n+1,l,b=>match l with
  | []=>some .waste
  | c :: r=>if r=[]∧c.Box=b then some (.pane c.Pane c.Turned) else match ZdY (c :: r) b with
   | some (d,x)=>Zih d (x-loP d b) (Y9 n (Yo d (c :: r) x true) (Zch d b (x-loP d b))) (Y9 n (Yo d (c :: r) x false) (UF d b (x-loP d b)))
   | none=>none
def InL (l:List L.Place) (b:Box):Prop:=∀ c∈l,VB c.Box∧QI c.Box b
theorem Zg0 {l:List L.Place} {b:Box} {d:Bool} {x:Int} (h:ZdY l b=some (d,x)):loP d b<x∧x<hiP d b∧crs d l x=false:=by
 unfold ZdY at h;split at h
 ·rename_i y hy;cases h;have:=Zgs hy;exact⟨this.1,by simp only[hiP,Km];omega,this.2.2.1⟩
 ·split at h
  ·rename_i y hy;cases h;have:=Zgs hy;exact⟨this.1,by simp only[hiP,Ka,Kn];omega,this.2.2.1⟩
  ·cases h
theorem ZCQ {d:Bool} {l:List L.Place} {x:Int} (h:crs d l x=false):∀ c∈l,hiP d c.Box≤x∨x≤loP d c.Box:=fun c hc=>by
 have:=List.any_eq_false.1 h c hc;simp only[Ko] at this;omega
theorem ZqP {l:List L.Place} {b:Box} {d:Bool} {x:Int} (hb:VB b) (h:InL l b) (hx:loP d b<x∧x<hiP d b) (hc:crs d l x=false) :
  (VB (Zch d b (x-loP d b))∧InL (Yo d l x true) (Zch d b (x-loP d b)))∧VB (UF d b (x-loP d b))∧InL (Yo d l x false) (UF d b (x-loP d b)):=by
 have hn:=ZCQ hc;cases d
 ·simp only[loP,hiP,Zch,UF,Ka,Kn] at hx hn ⊢;simp only[VB] at hb;refine⟨⟨by simp only[VB];omega,fun c hm=>?_⟩,by simp only[VB];omega,fun c hm=>?_⟩
  ·obtain⟨h1,h2⟩:=LX.1 hm;have h3:=h c h1;simp only[hiP,Ka,Kn,beq_iff_eq] at h2;have h4:=of_decide_eq_true h2.symm;simp only[QI] at h3 ⊢;exact⟨h3.1,by omega⟩
  ·obtain⟨h1,h2⟩:=LX.1 hm;have h3:=h c h1;have h5:=hn c h1;simp only[hiP,Ka,Kn,beq_iff_eq] at h2;have h4:=of_decide_eq_false h2.symm;simp only[QI] at h3 ⊢;exact⟨h3.1,by omega⟩
 ·simp only[loP,hiP,Zch,UF,Km] at hx hn ⊢;simp only[VB] at hb;refine⟨⟨by simp only[VB];omega,fun c hm=>?_⟩,by simp only[VB];omega,fun c hm=>?_⟩
  ·obtain⟨h1,h2⟩:=LX.1 hm;have h3:=h c h1;simp only[hiP,Km,beq_iff_eq] at h2;have h4:=of_decide_eq_true h2.symm;simp only[QI] at h3 ⊢;exact⟨h3.1,by omega⟩
  ·obtain⟨h1,h2⟩:=LX.1 hm;have h3:=h c h1;have h5:=hn c h1;simp only[hiP,Km,beq_iff_eq] at h2;have h4:=of_decide_eq_false h2.symm;simp only[QI] at h3 ⊢;exact⟨h3.1,by omega⟩
def plV:Option BT→AV×List Zm
 | some b=>match b.plan with
  | .mk o a q t ks=>(.tup [.agg [(.d (J o)),(.d (J a)),(.d (J q)),(.d (.bool t)),.own 0],(.d (.bool true))],[.row 5 (ks.map Ze.enc) true false])
 | none=>(.tup [.agg [(.d (J 0)),(.d (J 0)),(.d (J 0)),(.d (.bool false)),.own 0],(.d (.bool false))],[.row 5 [] true false])
theorem ZoZ (l:List L.Place) (d:Bool) (fr to:Int) (hl:l.length≤1000) (hc:∀ c∈l,VB c.Box) (h0:0≤fr) (h1:fr<to) (h2:to≤1000):Zd Xs Ms 138 [(.d (.sl (l.map Place.enc))),(.d (J (Qb d))),(.d (J fr)),(.d (J to))] []=some (.own 0,[.row 1 ((WH d l fr (to-fr-1).toNat).map X3) true false]):=by
 have w0:=wi (fr+1) (by omega) (by omega);refine cE ?_;simp +contextual -implicitDefEqProofs only[go_sem,seval,ZjX,w0];refine XR Xs Ms (st0:=?st0) (α:=Nat) (fun n=>[(10,.d (J (fr+1+(n:Int))))]) (fun n=>[(0,.row 1 ((WH d l fr n).map X3) true false)]) (fun n=>(n:Int)≤to-fr-1) (fun n=>(to-fr-1).toNat-n) 0 ?hc (by omega) ?h0 ?step
 case hc=>simp +contextual -implicitDefEqProofs only[go_sem,seval]<;>exact rfl
 case h0=>simp only[WH,Ks,Int.natCast_zero,Int.add_zero];rfl
 case step=>
  intro n hn ih;by_cases ah:fr+1+(n:Int)<to
  ·have wt:=wi (fr+1+(n:Int)+1) (by omega) (by omega);have ak:=ZjT (d:=d) (l:=l) (fr:=fr) n;have ai:fr+1+(n:Int)∉WH d l fr n:=fun h=>by have:=Zmt h;omega
   have aj:fr+1+((n+1:Nat):Int)=fr+1+(n:Int)+1:=by omega
   have af:WH d l fr (n+1)=WH d l fr n++(if tch d l (fr+1+n)=true then [fr+1+(n:Int)] else []):=rfl;generalize ht:fr+1+(n:Int)=t at *;simp +contextual -implicitDefEqProofs only[go_sem,seval,ah];refine XR Xs Ms (st0:=?st1) (α:=Nat) (fun i=>[(11,.d (J (i:Int)))]) (fun i=>[(0,.row 1 ((WH d l fr n++(if tch d (l.take i) t=true then [t] else [])).map X3) true false)]) (fun i=>i≤l.length) (fun i=>l.length-i) 0 ?hc2 (by omega) ?h02 ?step2
   case hc2=>simp +contextual -implicitDefEqProofs only[go_sem,seval]<;>exact rfl
   case h02=>
    have e:tch d (l.take 0) t=false:=by simp[tch]
    simp only[e,Ka,Kn,KF];rfl
   case step2=>
    intro i hi ad;by_cases ab:i<l.length
    ·obtain⟨c,hx⟩:=Zp ab;have hw:=Zg (k:=i) (by omega);have aa:=ZzA (d:=d) (t:=t) hx;have hcb:=hc c (Kc hx);obtain⟨P,T,⟨X,Y,W,H⟩⟩:=c;simp only[VB] at hcb;simp only[loP,hiP] at aa;have wx:=wi (X+W) (by omega) (by omega);have wy:=wi (Y+H) (by omega) (by omega);have ae:=ZlZ (WH d l fr n++(if tch d (l.take i) t=true then [t] else [])) t (by split<;>simp<;>omega);by_cases hb:tch d (l.take i) t=true
     ·rw[Kg hb] at ae ⊢;have ag:=ZkL (WH d l fr n++[t]) 0 t (by simp);generalize XJ 0 (WH d l fr n++[t]) t=z at ae ag;have hz:¬z<0:=by omega
      rw[hb,Bool.true_or] at aa;cases d with
      | true=>
       by_cases hm:t=X∨t=X+W
       ·simp +contextual -implicitDefEqProofs only[go_sem,seval,hx,ab,hw,wx,wy,Qb,hm,ae,hz,← Lh];refine ad (i+1) _ (by omega) (by omega) ?_;rw[aa];simp +contextual -implicitDefEqProofs only[go_sem,seval,Qb]
       ·simp +contextual -implicitDefEqProofs only[go_sem,seval,hx,ab,hw,wx,wy,Qb,hm,← Lh];refine ad (i+1) _ (by omega) (by omega) ?_;rw[aa];simp +contextual -implicitDefEqProofs only[go_sem,seval,Qb]
      | false=>
       by_cases hm:t=Y∨t=Y+H
       ·simp +contextual -implicitDefEqProofs only[go_sem,seval,hx,ab,hw,wx,wy,Qb,hm,ae,hz,← Lh];refine ad (i+1) _ (by omega) (by omega) ?_;rw[aa];simp +contextual -implicitDefEqProofs only[go_sem,seval,Qb]
       ·simp +contextual -implicitDefEqProofs only[go_sem,seval,hx,ab,hw,wx,wy,Qb,hm,← Lh];refine ad (i+1) _ (by omega) (by omega) ?_;rw[aa];simp +contextual -implicitDefEqProofs only[go_sem,seval,Qb]
     ·rw[Kd hb,KF] at ae ⊢;rw[ZkK _ _ _ ai] at ae;simp only[LD] at hb;rw[hb,LR] at aa;have hr:((WH d l fr n).length+1)*8≤140737488355328∧(WH d l fr n).length≤140737488355327:=by omega
      cases d with
      | true=>
       simp only[Km] at aa;by_cases hm:t=X∨t=X+W
       ·rw[Kh hm] at aa;simp +contextual -implicitDefEqProofs only[go_sem,seval,hx,ab,hw,wx,wy,Qb,hm,ae,hr,← Lh];refine ad (i+1) _ (by omega) (by omega) ?_;rw[aa];simp +contextual -implicitDefEqProofs only[go_sem,seval,Qb,KI]
       ·rw[Kj hm] at aa;simp +contextual -implicitDefEqProofs only[go_sem,seval,hx,ab,hw,wx,wy,Qb,hm,← Lh];refine ad (i+1) _ (by omega) (by omega) ?_;rw[aa];simp +contextual -implicitDefEqProofs only[go_sem,seval,Qb,KF]
      | false=>
       simp only[Ka,Kn] at aa;by_cases hm:t=Y∨t=Y+H
       ·rw[Kh hm] at aa;simp +contextual -implicitDefEqProofs only[go_sem,seval,hx,ab,hw,wx,wy,Qb,hm,ae,hr,← Lh];refine ad (i+1) _ (by omega) (by omega) ?_;rw[aa];simp +contextual -implicitDefEqProofs only[go_sem,seval,Qb,KI]
       ·rw[Kj hm] at aa;simp +contextual -implicitDefEqProofs only[go_sem,seval,hx,ab,hw,wx,wy,Qb,hm,← Lh];refine ad (i+1) _ (by omega) (by omega) ?_;rw[aa];simp +contextual -implicitDefEqProofs only[go_sem,seval,Qb,KF]
    ·have:i=l.length:=by omega
     subst this;rw[KJ (Kp _)];rw[← af];simp +contextual -implicitDefEqProofs only[go_sem,seval,wt];refine ih (n+1) _ (by omega) (by omega) ?_;simp +contextual -implicitDefEqProofs only[go_sem,seval,aj]
  ·have:(to-fr-1).toNat=n:=by omega
   rw[this];simp +contextual -implicitDefEqProofs only[go_sem,seval,ah]
theorem ZGQ {d:Bool} {l:List L.Place} {t:Int} {c:L.Place} (hc:c∈l) (h:loP d c.Box<t∧t<hiP d c.Box):crs d l t=true:=LQ.2 ⟨c,hc,Kh h⟩
def Zv7 (d:Bool) (l:List L.Place) (t:Int) (f:Bool):AV×List Zm:=if crs d l t=true then (.tup [.own 0,(.d (.bool false))],[.row 6 [] true false]) else (.tup [.own 0,(.d (.bool true))],[.row 6 ((Yo d l t f).map Place.enc) true false])
theorem Zr0 (l:List L.Place) (d:Bool) (t:Int) (f:Bool) (hl:l.length≤1000) (hc:∀ c∈l,VB c.Box):Zd Xs Ms 139 [(.d (.sl (l.map Place.enc))),(.d (J (Qb d))),(.d (J t)),(.d (.bool f))] []=some (Zv7 d l t f):=by
 have bb:∀ a b:Bool,ZqH .eql true (.d (.bool a)) (.d (.bool b))=QV (.d (.bool (a==b))):=fun _ _=>rfl;refine cE ?_;simp +contextual -implicitDefEqProofs only[go_sem,seval,ZiQ];refine LO (α:=Nat) (fun i=>[(11,.d (J (i:Int)))]) (fun i=>[(0,.row 6 ((Yo d (l.take i) t f).map Place.enc) true false)]) (fun i=>i≤l.length∧crs d (l.take i) t=false) (fun i=>l.length-i) 0 ⟨by omega,by simp[crs]⟩ ?_;intro i ⟨hi,hp⟩ ih;by_cases ad:i<l.length
 ·obtain⟨c,hx⟩:=Zp ad;have hw:=Zg (k:=i) (by omega);have ab:=ZzB (d:=d) (t:=t) hx;have aa:=Zli (d:=d) (t:=t) (f:=f) hx;have ae:=@ZGQ d l t c (Kc hx);have hcb:=hc c (Kc hx);have ag:(Yo d (l.take i) t f).length≤i:=Kx (Kal _ _) (by simp;omega);have hr:((Yo d (l.take i) t f).length+1)*48≤140737488355328∧(Yo d (l.take i) t f).length≤140737488355327:=by omega
  obtain⟨P,T,⟨X,Y,W,H⟩⟩:=c;simp only[VB] at hcb;simp only[loP,hiP] at ab aa ae;have wx:=wi (X+W) (by omega) (by omega);have wy:=wi (Y+H) (by omega) (by omega);rw[hp,LR] at ab;cases d with
  | true=>
   simp only[Km] at ab aa ae;by_cases hm:X<t∧t<X+W
   ·have af:=ae hm;unfold Zv7;rw[Kg af];simp +contextual -implicitDefEqProofs only[go_sem,seval,hx,ad,hw,wx,wy,Qb,hm,← Ld]
   ·rw[Kj hm] at ab;by_cases hf:f=decide (X+W≤t)
    ·have hg:(f==decide (X+W≤t))=true:=by rw[hf];simp
     rw[Kg hf] at aa;simp +contextual -implicitDefEqProofs only[go_sem,seval,hx,ad,hw,wx,wy,Qb,hm,bb,hg,hr,← Ld];refine ih (i+1) _ ⟨by omega,ab⟩ (by omega) ?_;rw[aa];simp +contextual -implicitDefEqProofs only[go_sem,seval,Qb,KI]
    ·have hg:(f==decide (X+W≤t))=false:=by simpa using hf
     rw[Kd hf] at aa;simp +contextual -implicitDefEqProofs only[go_sem,seval,hx,ad,hw,wx,wy,Qb,hm,bb,hg,← Ld];refine ih (i+1) _ ⟨by omega,ab⟩ (by omega) ?_;rw[aa];simp +contextual -implicitDefEqProofs only[go_sem,seval,Qb,KF]
  | false=>
   simp only[Ka,Kn] at ab aa ae;by_cases hm:Y<t∧t<Y+H
   ·have af:=ae hm;unfold Zv7;rw[Kg af];simp +contextual -implicitDefEqProofs only[go_sem,seval,hx,ad,hw,wx,wy,Qb,hm,← Ld]
   ·rw[Kj hm] at ab;by_cases hf:f=decide (Y+H≤t)
    ·have hg:(f==decide (Y+H≤t))=true:=by rw[hf];simp
     rw[Kg hf] at aa;simp +contextual -implicitDefEqProofs only[go_sem,seval,hx,ad,hw,wx,wy,Qb,hm,bb,hg,hr,← Ld];refine ih (i+1) _ ⟨by omega,ab⟩ (by omega) ?_;rw[aa];simp +contextual -implicitDefEqProofs only[go_sem,seval,Qb,KI]
    ·have hg:(f==decide (Y+H≤t))=false:=by simpa using hf
     rw[Kd hf] at aa;simp +contextual -implicitDefEqProofs only[go_sem,seval,hx,ad,hw,wx,wy,Qb,hm,bb,hg,← Ld];refine ih (i+1) _ ⟨by omega,ab⟩ (by omega) ?_;rw[aa];simp +contextual -implicitDefEqProofs only[go_sem,seval,Qb,KF]
 ·have:i=l.length:=by omega
  subst this;rw[KJ (Kp _)] at hp;unfold Zv7;rw[Kd (by rw[hp];simp)];simp +contextual -implicitDefEqProofs only[go_sem,seval,KN]
theorem ZBp (A B:List L.Place) (bX bY bW bH:Int) (d:Bool) (a:Int) (l r:Option BT) (hb:VB (Box.mk bX bY bW bH)) (ha:0≤a∧a≤400)
  (hl:Zd Xs Ms 99 [(.d (.sl (A.map Place.enc))),.d (Zch d (Box.mk bX bY bW bH) a).enc] []=some (plV l))
  (hr:Zd Xs Ms 99 [(.d (.sl (B.map Place.enc))),.d (UF d (Box.mk bX bY bW bH) a).enc] []=some (plV r)) :
  Zd Xs Ms 140 [(.d (.sl (A.map Place.enc))),(.d (.sl (B.map Place.enc))),(.d (.agg [J bX,J bY,J bW,J bH])),(.d (J (Qb d))),(.d (J a))] []=some (plV (Zih d a l r)):=by
 simp only[VB] at hb;have w1:=wi (bX+a) (by omega) (by omega);have w2:=wi (bY+a) (by omega) (by omega);have w3:=wi (bW-a) (by omega) (by omega);have w4:=wi (bH-a) (by omega) (by omega);have aa:∀ b:BT,∃ o a q t ks,b.plan=.mk o a q t ks:=fun b=>by cases b.plan;exact⟨_,_,_,_,_,rfl⟩
 cases l with
 | none=>
  cases r with
  | none=>
   simp only[Zih,plV] at hl hr ⊢;cases d<;>simp only[Zch,UF,Box.enc,Qb,Km,Ka,Kn] at hl hr ⊢
   ·refine cE ?_;simp +contextual -implicitDefEqProofs only[go_sem,seval,QL,w1,w2,w3,w4,hl,hr]
   ·refine cE ?_;simp +contextual -implicitDefEqProofs only[go_sem,seval,QL,w1,w2,w3,w4,hl,hr]
  | some q=>
   obtain⟨ro,ra,rq,rt,rk,er⟩:=aa q;simp only[Zih,plV,er] at hl hr ⊢;cases d<;>simp only[Zch,UF,Box.enc,Qb,Km,Ka,Kn] at hl hr ⊢
   ·refine cE ?_;simp +contextual -implicitDefEqProofs only[go_sem,seval,QL,w1,w2,w3,w4,hl,hr]
   ·refine cE ?_;simp +contextual -implicitDefEqProofs only[go_sem,seval,QL,w1,w2,w3,w4,hl,hr]
 | some p=>
  obtain⟨lo,la,lq,lt,lk,el⟩:=aa p;cases r with
  | none=>
   simp only[Zih,plV,el] at hl hr ⊢;cases d<;>simp only[Zch,UF,Box.enc,Qb,Km,Ka,Kn] at hl hr ⊢
   ·refine cE ?_;simp +contextual -implicitDefEqProofs only[go_sem,seval,QL,w1,w2,w3,w4,hl,hr]
   ·refine cE ?_;simp +contextual -implicitDefEqProofs only[go_sem,seval,QL,w1,w2,w3,w4,hl,hr]
  | some q=>
   obtain⟨ro,ra,rq,rt,rk,er⟩:=aa q;simp only[Zih,plV,BT.plan,el,er] at hl hr ⊢;cases d<;>simp only[Zch,UF,Box.enc,Qb,Km,Ka,Kn] at hl hr ⊢
   ·refine cE ?_;simp +contextual -implicitDefEqProofs only[go_sem,seval,QL,w1,w2,w3,w4,hl,hr]
   ·refine cE ?_;simp +contextual -implicitDefEqProofs only[go_sem,seval,QL,w1,w2,w3,w4,hl,hr]
theorem Zv8 {l:List Int} {p:Int→Bool} {k:Nat} {x:Int} (hx:l[k]?=some x):(l.drop k).find? p=if p x=true then some x else (l.drop (k+1)).find? p:=by
 obtain⟨h1,h2⟩:=Kb.1 hx;rw[Ku h1,h2,List.find?_cons];cases p x<;>rfl
theorem ZDS {n:Nat} {c:L.Place} {r:List L.Place} {b:Box} {d:Bool} {x:Int} (hn:¬(r=[]∧c.Box=b)) (h:ZdY (c :: r) b=some (d,x)) :
  Y9 (n+1) (c :: r) b=Zih d (x-loP d b) (Y9 n (Yo d (c :: r) x true) (Zch d b (x-loP d b))) (Y9 n (Yo d (c :: r) x false) (UF d b (x-loP d b))):=by
 rw[Y9,Kd hn,h]
theorem ZFn {n:Nat} {c:L.Place} {r:List L.Place} {b:Box} (hn:¬(r=[]∧c.Box=b)) (h:ZdY (c :: r) b=none):Y9 (n+1) (c :: r) b=none:=by
 rw[Y9,Kd hn,h]
theorem ZdZ (b:BT):∃ o a q t ks,b.plan=.mk o a q t ks:=by cases b.plan;exact⟨_,_,_,_,_,rfl⟩
theorem Zr1 {b:Box} {d:Bool} {x:Int} (hb:VB b) (hx:loP d b<x∧x<hiP d b) :
  ((Zch d b (x-loP d b)).W+(Zch d b (x-loP d b)).H).toNat<(b.W+b.H).toNat∧((UF d b (x-loP d b)).W+(UF d b (x-loP d b)).H).toNat<(b.W+b.H).toNat:=by
 simp only[VB] at hb;cases d<;>simp only[loP,hiP,Zch,UF,Km,Ka,Kn] at hx ⊢ <;> omega
theorem ZjU (d:Bool) (l:List L.Place) (t:Int) (f:Bool):(Yo d l t f).length≤l.length:=Kal _ _
theorem ZuF:∀ (n:Nat) (l:List L.Place) (bX bY bW bH:Int),VB (Box.mk bX bY bW bH)→InL l (Box.mk bX bY bW bH)→(bW+bH).toNat≤n→l.length≤1000→Zd Xs Ms 99 [(.d (.sl (l.map Place.enc))),(.d (.agg [J bX,J bY,J bW,J bH]))] []=some (plV (Y9 n l (Box.mk bX bY bW bH))):=by
 intro n
 induction n with
 | zero=>
  intro l bX bY bW bH hb _ hn _;simp only[VB] at hb;omega
 | succ n IH=>
  intro l bX bY bW bH hb hl hn aa;cases l with
  | nil=>
   simp only[Y9,plV,BT.plan,Ks];refine cE ?_;simp +contextual -implicitDefEqProofs only[go_sem,seval,YU]
  | cons c r=>
   have ah:∀ y∈c :: r,VB y.Box:=fun y hy=>(hl y hy).1;by_cases hp:r=[]∧c.Box=(Box.mk bX bY bW bH)
   ·obtain⟨rfl,hcb⟩:=hp;obtain⟨P,T,⟨X,Y,W,H⟩⟩:=c;simp only at hcb;have aq:Y9 (n+1) [⟨P,T,⟨X,Y,W,H⟩⟩] (Box.mk bX bY bW bH)=some (.pane P T):=by rw[Y9,Kg ⟨rfl,hcb⟩]
    rw[aq];simp only[Box.mk.injEq] at hcb;obtain⟨rfl,rfl,rfl,rfl⟩:=hcb;simp only[plV,BT.plan];refine cE ?_;simp +contextual -implicitDefEqProofs only[go_sem,seval,YU]
   ·have ai:=hb;simp only[VB] at hb;have am:(r=[]→¬(c.Box.X=bX∧c.Box.Y=bY∧c.Box.W=bW∧c.Box.H=bH)):=fun e h=>hp ⟨e,by cases hcB:c.Box;rw[hcB] at h;obtain⟨h1,h2,h3,h4⟩:=h;simp only at h1 h2 h3 h4;rw[h1,h2,h3,h4]⟩;have e1:=ZoZ (c :: r) true bX (bX+bW);have e2:=ZoZ (c :: r) false bY (bY+bH);have aj:∀ d x,ZdY (c :: r) (Box.mk bX bY bW bH)=some (d,x)→Zd Xs Ms 140 [.d (.sl ((Yo d (c :: r) x true).map Place.enc)),.d (.sl ((Yo d (c :: r) x false).map Place.enc)),(.d (.agg [J bX,J bY,J bW,J bH])),(.d (J (Qb d))),(.d (J (x-loP d (Box.mk bX bY bW bH))))] []=some (plV (Y9 (n+1) (c :: r) (Box.mk bX bY bW bH))):=fun d x h=>by
     obtain⟨h1,h2,h3⟩:=Zg0 h;obtain⟨⟨g1,g2⟩,g3,g4⟩:=ZqP ai hl ⟨h1,h2⟩ h3;obtain⟨s1,s2⟩:=Zr1 ai ⟨h1,h2⟩;rw[ZDS hp h];simp only at s1 s2;refine ZBp _ _ bX bY bW bH d _ _ _ ai (by cases d<;>simp only[loP,hiP,Km,Ka,Kn] at h1 h2 ⊢ <;> omega) ?_ ?_
     ·exact IH _ _ _ _ _ g1 g2 (by omega) (Kx (ZjU _ _ _ _) aa)
     ·exact IH _ _ _ _ _ g3 g4 (by omega) (Kx (ZjU _ _ _ _) aa)
    have pT:=fun d t=>Zr0 (c :: r) d t true aa ah;have pF:=fun d t=>Zr0 (c :: r) d t false aa ah;have w1:=wi (bX+bW) (by omega) (by omega);have w2:=wi (bY+bH) (by omega) (by omega);have ar:(bX+bW-bX-1).toNat=(bW-1).toNat:=by omega
    have au:(bY+bH-bY-1).toNat=(bH-1).toNat:=by omega
    have E1:=e1 aa ah (by omega) (by omega) (by omega);have E2:=e2 aa ah (by omega) (by omega) (by omega);rw[ar] at E1;rw[au] at E2;have F1:=Zlj (d:=true) (l:=c :: r) (fr:=bX) (bW-1).toNat;have F2:=Zlj (d:=false) (l:=c :: r) (fr:=bY) (bH-1).toNat;have L1:=ZjT (d:=true) (l:=c :: r) (fr:=bX) (bW-1).toNat;have L2:=ZjT (d:=false) (l:=c :: r) (fr:=bY) (bH-1).toNat;have B1:=fun x=>@Zmt true (c :: r) bX (bW-1).toNat x;have B2:=fun x=>@Zmt false (c :: r) bY (bH-1).toNat x;generalize ay:WH true (c :: r) bX (bW-1).toNat=G1 at E1 F1 L1 B1;generalize az:WH false (c :: r) bY (bH-1).toNat=G2 at E2 F2 L2 B2;have ae:ZdY (c :: r) (Box.mk bX bY bW bH)=match G1.find? (fun x=>!crs true (c :: r) x) with
     | some x=>some (true,x)
     | none=>match G2.find? (fun x=>!crs false (c :: r) x) with
      | some y=>some (false,y)
      | none=>none:=by unfold ZdY;rw[F1,F2]<;>rfl
    have an:=@ZFn n c r (Box.mk bX bY bW bH) hp;generalize hX:Y9 (n+1) (c :: r) (Box.mk bX bY bW bH)=X at aj an ⊢;clear hX F1 F2 e1 e2 IH hl;generalize hl:c :: r=l at *;have ao:1≤l.length:=by rw[← hl];simp
    have av:¬(l.length:Int)=0:=by omega
    have ak:l[0]?=some c:=by rw[← hl];rfl
    have af:(l.length:Int)=1→¬(c.Box.X=bX∧c.Box.Y=bY∧c.Box.W=bW∧c.Box.H=bH):=fun h=>am (by
     rw[← hl] at h;cases r with
     | nil=>rfl
     | cons y r=>simp only[Kl] at h;omega)
    clear hl am hp;obtain⟨P,T,⟨cX,cY,cW,cH⟩⟩:=c;simp only at af;have al : 0<l.length:=by omega
    have ag:¬((l.length:Int)=1∧cX=bX∧cY=bY∧cW=bW∧cH=bH):=fun h=>af h.1 h.2;simp only[Qb,Km,Ka,Kn] at E1 E2;refine cE ?_;simp +contextual -implicitDefEqProofs only[go_sem,seval,YU,av,ak,al,ag,← Ld];refine ZE Xs Ms ?_;simp +contextual -implicitDefEqProofs only[go_sem,seval,w1,E1];refine XR Xs Ms (st0:=?sa) (α:=Nat) (fun i=>[(10,.d (J (i:Int)))]) (fun _=>[]) (fun i=>i≤G1.length∧(G1.drop i).find? (fun x=>!crs true l x)=G1.find? (fun x=>!crs true l x)) (fun i=>G1.length-i) 0 ?ha1 ⟨by omega,by simp⟩ ?ha2 ?ha3
    case ha1=>simp +contextual -implicitDefEqProofs only[go_sem,seval]<;>exact rfl
    case ha2=>rfl
    case ha3=>
     intro i ⟨hi,hq⟩ ih;by_cases ab:i<G1.length
     ·obtain⟨x,hx⟩:=Zp ab;have hw:=Zg (k:=i) (by omega);rw[Zv8 hx] at hq;have aw:=B1 x (Kc hx);have w3:=wi (x-bX) (by omega) (by omega);have p1:=pT true x;have p2:=pF true x;unfold Zv7 at p1 p2;by_cases ad:crs true l x=true
      ·rw[Kg ad] at p1;rw[Kd (by simp[ad])] at hq;simp only[Qb,Km,Ka,Kn] at p1;simp +contextual -implicitDefEqProofs only[go_sem,seval,ab,hx,hw,p1];refine ih (i+1) _ ⟨by omega,hq⟩ (by omega) ?_;simp +contextual -implicitDefEqProofs only[go_sem,seval]
      ·rw[Kd ad] at p1 p2;rw[Kg (by simpa using ad)] at hq;have hb1:=aj true x (by rw[ae,← hq]);simp only[Qb,loP,Km,Ka,Kn] at p1 p2 hb1;cases X with
       | none=>
        unfold plV at hb1 ⊢;simp +contextual -implicitDefEqProofs only[go_sem,seval,ab,hx,hw,p1,p2,w3,hb1]
       | some q=>
        obtain⟨qo,qa,qq,qt,qk,eq⟩:=ZdZ q;simp only[plV,eq] at hb1 ⊢;simp +contextual -implicitDefEqProofs only[go_sem,seval,ab,hx,hw,p1,p2,w3,hb1]
     ·have:i=G1.length:=by omega
      subst this;have ap:G1.find? (fun x=>!crs true l x)=none:=by rw[← hq];simp
      simp +contextual -implicitDefEqProofs only[go_sem,seval];refine ZE Xs Ms ?_;simp +contextual -implicitDefEqProofs only[go_sem,seval,w1,w2,E2];refine XR Xs Ms (st0:=?sb) (α:=Nat) (fun i=>[(10,.d (J (i:Int)))]) (fun _=>[]) (fun i=>i≤G2.length∧(G2.drop i).find? (fun x=>!crs false l x)=G2.find? (fun x=>!crs false l x)) (fun i=>G2.length-i) 0 ?hb1 ⟨by omega,by simp⟩ ?hb2 ?hb3
      case hb1=>simp +contextual -implicitDefEqProofs only[go_sem,seval]<;>exact rfl
      case hb2=>rfl
      case hb3=>
       intro i ⟨hi,hq⟩ ih;by_cases ab:i<G2.length
       ·obtain⟨x,hx⟩:=Zp ab;have hw:=Zg (k:=i) (by omega);rw[Zv8 hx] at hq;have aw:=B2 x (Kc hx);have w3:=wi (x-bY) (by omega) (by omega);have p1:=pT false x;have p2:=pF false x;unfold Zv7 at p1 p2;by_cases ad:crs false l x=true
        ·rw[Kg ad] at p1;rw[Kd (by simp[ad])] at hq;simp only[Qb,Km,Ka,Kn] at p1;simp +contextual -implicitDefEqProofs only[go_sem,seval,ab,hx,hw,p1];refine ih (i+1) _ ⟨by omega,hq⟩ (by omega) ?_;simp +contextual -implicitDefEqProofs only[go_sem,seval]
        ·rw[Kd ad] at p1 p2;rw[Kg (by simpa using ad)] at hq;have hb1:=aj false x (by rw[ae,ap,← hq]);simp only[Qb,loP,Km,Ka,Kn] at p1 p2 hb1;cases X with
         | none=>
          unfold plV at hb1 ⊢;simp +contextual -implicitDefEqProofs only[go_sem,seval,ab,hx,hw,p1,p2,w3,hb1]
         | some q=>
          obtain⟨qo,qa,qq,qt,qk,eq⟩:=ZdZ q;simp only[plV,eq] at hb1 ⊢;simp +contextual -implicitDefEqProofs only[go_sem,seval,ab,hx,hw,p1,p2,w3,hb1]
       ·have:i=G2.length:=by omega
        subst this;have ax:G2.find? (fun x=>!crs false l x)=none:=by rw[← hq];simp
        have hX:=an (by rw[ae,ap,ax]);subst hX;unfold plV;have w4:=wi 4 (by omega) (by omega);simp +contextual -implicitDefEqProofs only[go_sem,seval,w4];refine ZE Xs Ms ?_;simp +contextual -implicitDefEqProofs only[go_sem,seval]
def ZaD (d:Bool) (c:L.Place):D:=.agg [J (loP d c.Box),J (hiP d c.Box)]
@[go_sem] theorem uni_span (d:Bool) (l:List L.Place):uni 2 (l.map (ZaD d))=True:=eq_true (ZbO l fun _=>rfl)
@[go_sem] theorem flat_span (d:Bool) (l:List L.Place):Xz (l.map (ZaD d))=True:=eq_true (Zem l fun _=>rfl)
theorem ZeR (bX bY bW bH:Int) (d:Bool) (h1:R64 (bX+bW)) (h2:R64 (bY+bH)):Zd Xs Ms 242 [(.d (.agg [J bX,J bY,J bW,J bH])),(.d (.bool d))] []=some (.d (.agg [J (loP d (Box.mk bX bY bW bH)),J (hiP d (Box.mk bX bY bW bH))]),[]):=by
 have w1:=wi (bX+bW) h1.1 h1.2;have w2:=wi (bY+bH) h2.1 h2.2;cases d
 ·simp only[loP,hiP,Ka,Kn];refine cE ?_;simp +contextual -implicitDefEqProofs only[go_sem,seval,Zhx,w1,w2]
 ·simp only[loP,hiP,Km];refine cE ?_;simp +contextual -implicitDefEqProofs only[go_sem,seval,Zhx,w1,w2]
def Zr2:Option Int→AV×List Zm
 | some x=>(.tup [(.d (J x)),(.d (.bool true))],[])
 | none=>(.tup [(.d (J 0)),(.d (.bool false))],[])
theorem ZkM (l:List L.Place) (d:Bool) (fr to:Int) (hl:l.length≤1000) (h0:0≤fr) (h1:fr<to) (h2:to≤1000):Zd Xs Ms 243 [.d (.sl (l.map (ZaD d))),.d (.agg [J fr,J to])] []=some (Zr2 (Zgr d l fr (to-fr-1).toNat)):=by
 have w0:=wi (fr+1) (by omega) (by omega);refine cE ?_;simp +contextual -implicitDefEqProofs only[go_sem,seval,Zhg,w0];refine XR Xs Ms (st0:=?st0) (α:=Nat) (fun n=>[(6,.d (J (fr+1+(n:Int))))]) (fun _=>[]) (fun n=>(n:Int)≤to-fr-1∧Zgr d l fr n=none) (fun n=>(to-fr-1).toNat-n) 0 ?hc ⟨by omega,rfl⟩ ?h0 ?step
 case hc=>simp +contextual -implicitDefEqProofs only[go_sem,seval]<;>exact rfl
 case h0=>simp only[Int.natCast_zero,Int.add_zero];rfl
 case step=>
  intro n ⟨hn,hp⟩ ih;by_cases ak:fr+1+(n:Int)<to
  ·have wt:=wi (fr+1+(n:Int)+1) (by omega) (by omega);have al:fr+1+((n+1:Nat):Int)=fr+1+(n:Int)+1:=by omega
   have aa:Zgr d l fr (n+1)=if tch d l (fr+1+n)=true∧crs d l (fr+1+n)=false then some (fr+1+(n:Int)) else none:=by rw[Zgr,hp]
   have ag:∀ k,Zgr d l fr (n+1)=some (fr+1+(n:Int))→Zgr d l fr (n+1+k)=some (fr+1+(n:Int)):=by
    intro k h
    induction k with
    | zero=>exact h
    | succ k ihk=>rw[show n+1+(k+1)=(n+1+k)+1 by omega,Zgr,ihk]
   have hk:(to-fr-1).toNat=n+1+((to-fr-1).toNat-(n+1)):=by omega
   generalize ht:fr+1+(n:Int)=t at *;simp +contextual -implicitDefEqProofs only[go_sem,seval,ak];refine XR Xs Ms (st0:=?st1) (α:=Nat) (fun i=>[(22,.d (J (i:Int))),(8,.d (.bool (crs d (l.take i) t))),(7,.d (.bool (tch d (l.take i) t)))]) (fun _=>[]) (fun i=>i≤l.length) (fun i=>l.length-i) 0 ?hc2 (by omega) ?h02 ?step2
   case hc2=>simp +contextual -implicitDefEqProofs only[go_sem,seval]<;>exact rfl
   case h02=>rfl
   case step2=>
    intro i hi aj;by_cases ah:i<l.length
    ·obtain⟨c,hx⟩:=Zp ah;have hw:=Zg (k:=i) (by omega);have ae:=ZzA (d:=d) (t:=t) hx;have ab:=ZzB (d:=d) (t:=t) hx;have af:(l.map (ZaD d))[i]?=some (.agg [J (loP d c.Box),J (hiP d c.Box)]):=by rw[K0,hx];rfl
     generalize loP d c.Box=a at ae ab af;generalize hiP d c.Box=b at ae ab af;generalize tch d (l.take i) t=T at ae ⊢;generalize crs d (l.take i) t=C at ab ⊢;by_cases hm:a=t∨b=t
     ·rw[Kh (show t=a∨t=b by omega),Bool.or_true] at ae;by_cases hq:a<t∧t<b
      ·rw[Kh hq,Bool.or_true] at ab;simp +contextual -implicitDefEqProofs only[go_sem,seval,af,ah,hw,hm,hq,KC,← Lh,← Ld];refine aj (i+1) _ (by omega) (by omega) ?_;rw[ae,ab];simp +contextual -implicitDefEqProofs only[go_sem,seval,KC]
      ·rw[Kj hq,Bool.or_false] at ab;simp +contextual -implicitDefEqProofs only[go_sem,seval,af,ah,hw,hm,hq,KC,← Lh,← Ld];refine aj (i+1) _ (by omega) (by omega) ?_;rw[ae,ab];simp +contextual -implicitDefEqProofs only[go_sem,seval,KC]
     ·rw[Kj (show ¬(t=a∨t=b) by omega),Bool.or_false] at ae;by_cases hq:a<t∧t<b
      ·rw[Kh hq,Bool.or_true] at ab;simp +contextual -implicitDefEqProofs only[go_sem,seval,af,ah,hw,hm,hq,KC,← Lh,← Ld];refine aj (i+1) _ (by omega) (by omega) ?_;rw[ae,ab];simp +contextual -implicitDefEqProofs only[go_sem,seval,KC]
      ·rw[Kj hq,Bool.or_false] at ab;simp +contextual -implicitDefEqProofs only[go_sem,seval,af,ah,hw,hm,hq,KC,← Lh,← Ld];refine aj (i+1) _ (by omega) (by omega) ?_;rw[ae,ab];simp +contextual -implicitDefEqProofs only[go_sem,seval,KC]
    ·have:i=l.length:=by omega
     subst this;rw[KJ (Kp _)];by_cases ad:tch d l t=true∧crs d l t=false
     ·rw[Kg ad] at aa;rw[hk,ag _ aa];rw[ad.1,ad.2];unfold Zr2;simp +contextual -implicitDefEqProofs only[go_sem,seval]
     ·rw[Kd ad] at aa;have ai:(tch d l t=false)∨(tch d l t=true∧crs d l t=true):=by
       cases h1:tch d l t
       ·exact .inl rfl
       ·refine .inr ⟨rfl,?_⟩;cases h2:crs d l t
        ·exact absurd ⟨h1,h2⟩ ad
        ·rfl
      rcases ai with h1 | ⟨h1,h2⟩
      ·rw[h1];simp +contextual -implicitDefEqProofs only[go_sem,seval,wt];refine ih (n+1) _ ⟨by omega,aa⟩ (by omega) ?_;simp +contextual -implicitDefEqProofs only[go_sem,seval,al]
      ·rw[h1,h2];simp +contextual -implicitDefEqProofs only[go_sem,seval,wt];refine ih (n+1) _ ⟨by omega,aa⟩ (by omega) ?_;simp +contextual -implicitDefEqProofs only[go_sem,seval,al]
  ·have:(to-fr-1).toNat=n:=by omega
   rw[this,hp];unfold Zr2;simp +contextual -implicitDefEqProofs only[go_sem,seval,ak]
def Zv9 (b:Box):Option (Bool×Int)→AV×List Zm
 | some (d,x)=>(.tup [.agg [(.d (J (Qb d))),(.d (J (x-loP d b))),(.d (J 0)),(.d (.bool false)),.own 0],(.d (.bool true))],[.row 5 [] true false])
 | none=>(.tup [.agg [(.d (J 0)),(.d (J 0)),(.d (J 0)),(.d (.bool false)),.own 0],(.d (.bool false))],[.row 5 [] true false])
theorem ZuG (l:List L.Place) (bX bY bW bH:Int) (hb:VB (Box.mk bX bY bW bH)) (hl:l.length≤1000) (hc:∀ c∈l,VB c.Box):Zd Xs Ms 221 [(.d (.sl (l.map Place.enc))),(.d (.agg [J bX,J bY,J bW,J bH]))] []=some (Zv9 (Box.mk bX bY bW bH) (ZdY l (Box.mk bX bY bW bH))):=by
 have ai:=hb;simp only[VB] at hb;have s1:=ZeR bX bY bW bH true (by unfold R64;omega) (by unfold R64;omega);have s2:=ZeR bX bY bW bH false (by unfold R64;omega) (by unfold R64;omega);have e1:=ZkM l true bX (bX+bW) hl (by omega) (by omega) (by omega);have e2:=ZkM l false bY (bY+bH) hl (by omega) (by omega) (by omega);rw[show (bX+bW-bX-1).toNat=(bW-1).toNat by omega] at e1;rw[show (bY+bH-bY-1).toNat=(bH-1).toNat by omega] at e2;simp only[loP,hiP,Km,Ka,Kn] at s1 s2;have aa:ZdY l (Box.mk bX bY bW bH)=match Zgr true l bX (bW-1).toNat with
  | some x=>some (true,x)
  | none=>match Zgr false l bY (bH-1).toNat with
   | some y=>some (false,y)
   | none=>none:=rfl
 have C1:=fun x=>@Zgs true l bX (bW-1).toNat x;have C2:=fun x=>@Zgs false l bY (bH-1).toNat x;generalize Zgr true l bX (bW-1).toNat=K1 at e1 aa C1;generalize Zgr false l bY (bH-1).toNat=K2 at e2 aa C2;rw[aa];have ae:∀ i c,l[i]?=some c→(Zd Xs Ms 242 [.d c.Box.enc,(.d (.bool true))] []=some (.d (ZaD true c),[]))∧(Zd Xs Ms 242 [.d c.Box.enc,(.d (.bool false))] []=some (.d (ZaD false c),[])):=fun i c hx=>by
  have h:=hc c (Kc hx);obtain⟨P,T,⟨X,Y,W,H⟩⟩:=c;simp only[VB] at h;exact⟨ZeR X Y W H true (by unfold R64;omega) (by unfold R64;omega),ZeR X Y W H false (by unfold R64;omega) (by unfold R64;omega)⟩
 refine cE ?_;simp +contextual -implicitDefEqProofs only[go_sem,seval,Zhn];refine ZE Xs Ms ?_;simp +contextual -implicitDefEqProofs only[go_sem,seval];refine XR Xs Ms (st0:=?sa) (α:=Nat) (fun i=>[(22,.d (J (i:Int)))]) (fun i=>[(1,.row 2 ((l.take i).map (ZaD true)) true false)]) (fun i=>i≤l.length) (fun i=>l.length-i) 0 ?ha1 (by omega) ?ha2 ?ha3
 case ha1=>simp +contextual -implicitDefEqProofs only[go_sem,seval]<;>exact rfl
 case ha2=>rfl
 case ha3=>
  intro i hi ih;by_cases ab:i<l.length
  ·obtain⟨c,hx⟩:=Zp ab;have hw:=Zg (k:=i) (by omega);have ad:=(ae i c hx).1;have hm:(l.take (i+1)).map (ZaD true)=(l.take i).map (ZaD true)++[ZaD true c]:=by rw[KB,hx];simp
   have af:(l.take i).length≤i:=by simp;omega
   have hr:((l.take i).length+1)*16≤140737488355328∧(l.take i).length≤140737488355327:=by omega
   obtain⟨P,T,⟨X,Y,W,H⟩⟩:=c;simp only[Box.enc,ZaD] at ad;simp +contextual -implicitDefEqProofs only[go_sem,seval,hx,ab,hw,ad,hr];refine ih (i+1) _ (by omega) (by omega) ?_;rw[hm];simp +contextual -implicitDefEqProofs only[go_sem,seval,ZaD]
  ·have:i=l.length:=by omega
   subst this;rw[KJ (Kp _)];cases K1 with
   | some x=>
    have:=C1 x rfl;have w:=wi (x-bX) (by omega) (by omega);unfold Zr2 at e1;unfold Zv9;simp only[loP,Km,Qb] at e1 ⊢;simp +contextual -implicitDefEqProofs only[go_sem,seval,s1,e1,w]
   | none=>
    unfold Zr2 at e1;simp +contextual -implicitDefEqProofs only[go_sem,seval,s1,e1];refine ZE Xs Ms ?_;have ag:(1:Int)<((2:Nat):Int):=by omega
    simp +contextual -implicitDefEqProofs only[go_sem,seval,ag];refine XR Xs Ms (st0:=?sb) (α:=Nat) (fun i=>[(22,.d (J (i:Int)))]) (fun i=>[(1,.row 2 ((l.take i).map (ZaD false)) true false)]) (fun i=>i≤l.length) (fun i=>l.length-i) 0 ?hb1 (by omega) ?hb2 ?hb3
    case hb1=>simp +contextual -implicitDefEqProofs only[go_sem,seval]<;>exact rfl
    case hb2=>rfl
    case hb3=>
     intro i hi ih;by_cases ab:i<l.length
     ·obtain⟨c,hx⟩:=Zp ab;have hw:=Zg (k:=i) (by omega);have ad:=(ae i c hx).2;have hm:(l.take (i+1)).map (ZaD false)=(l.take i).map (ZaD false)++[ZaD false c]:=by rw[KB,hx];simp
      have af:(l.take i).length≤i:=by simp;omega
      have hr:((l.take i).length+1)*16≤140737488355328∧(l.take i).length≤140737488355327:=by omega
      obtain⟨P,T,⟨X,Y,W,H⟩⟩:=c;simp only[Box.enc,ZaD] at ad;simp +contextual -implicitDefEqProofs only[go_sem,seval,hx,ab,hw,ad,hr];refine ih (i+1) _ (by omega) (by omega) ?_;rw[hm];simp +contextual -implicitDefEqProofs only[go_sem,seval,ZaD]
     ·have:i=l.length:=by omega
      subst this;rw[KJ (Kp _)];cases K2 with
      | some x=>
       have:=C2 x rfl;have w:=wi (x-bY) (by omega) (by omega);unfold Zr2 at e2;unfold Zv9;simp only[loP,Ka,Kn,Qb] at e2 ⊢;simp +contextual -implicitDefEqProofs only[go_sem,seval,s2,e2,w]
      | none=>
       unfold Zr2 at e2;unfold Zv9;simp +contextual -implicitDefEqProofs only[go_sem,seval,s2,e2];refine ZE Xs Ms ?_;have ah:¬(2:Int)<((2:Nat):Int):=by omega
       simp +contextual -implicitDefEqProofs only[go_sem,seval,ah]
end Go.Proofs.YtfnegoimdljanaaGreatDoor
