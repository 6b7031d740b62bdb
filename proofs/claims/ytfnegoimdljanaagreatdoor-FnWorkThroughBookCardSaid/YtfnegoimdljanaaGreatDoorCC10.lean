import Derived.Test.YtfnegoimdljanaaGreatDoorCC1
set_option linter.unusedSimpArgs false
set_option linter.unusedVariables false
namespace Go.Proofs.YtfnegoimdljanaaGreatDoor
open Go Go.Abs Go.Abs.E Go.Abs.L
set_option maxRecDepth 20000
set_option maxHeartbeats 4000000
def loP (d:Bool) (b:Box):Int:=if d then b.X else b.Y
def hiP (d:Bool) (b:Box):Int:=if d then b.X+b.W else b.Y+b.H
def tch (d:Bool) (l:List L.Place) (t:Int):Bool:=l.any fun c=>decide (t=loP d c.Box∨t=hiP d c.Box)
def crs (d:Bool) (l:List L.Place) (t:Int):Bool:=l.any fun c=>decide (loP d c.Box<t∧t<hiP d c.Box)
def V8 (d:Bool) (l:List L.Place) (fr:Int):Nat→List Int
 | 0=>[]
 | n+1=>V8 d l fr n++(if tch d l (fr+1+n)=true then [fr+1+(n:Int)] else [])
def Zeu (d:Bool) (l:List L.Place) (fr:Int):Nat→Option Int
 | 0=>none
 | n+1=>match Zeu d l fr n with
  | some x=>some x
  | none=>if tch d l (fr+1+n)=true∧crs d l (fr+1+n)=false then some (fr+1+(n:Int)) else none
def X1 (d:Bool) (l:List L.Place) (t:Int) (f:Bool):List L.Place:=l.filter fun c=>f==decide (hiP d c.Box≤t)
theorem Zwb {d:Bool} {l:List L.Place} {t:Int} {k:Nat} {c:L.Place} (hx:l[k]?=some c):tch d (l.take (k+1)) t=(tch d (l.take k) t || decide (t=loP d c.Box∨t=hiP d c.Box)):=by
 unfold tch;rw[KH,hx,List.any_append];simp
theorem Zwc {d:Bool} {l:List L.Place} {t:Int} {k:Nat} {c:L.Place} (hx:l[k]?=some c):crs d (l.take (k+1)) t=(crs d (l.take k) t || decide (loP d c.Box<t∧t<hiP d c.Box)):=by
 unfold crs;rw[KH,hx,List.any_append];simp
theorem ZjU {d:Bool} {l:List L.Place} {t:Int} {f:Bool} {k:Nat} {c:L.Place} (hx:l[k]?=some c):X1 d (l.take (k+1)) t f=X1 d (l.take k) t f++(if f=decide (hiP d c.Box≤t) then [c] else []):=by
 unfold X1;rw[KH,hx,List.filter_append];by_cases h:f=decide (hiP d c.Box≤t)
 ·simp[h]
 ·rw[Ke h];have:(f==decide (hiP d c.Box≤t))=false:=by simpa using h
  simp[this]
theorem Zk8 {d:Bool} {l:List L.Place} {fr:Int}:∀ {n:Nat} {x:Int},x∈V8 d l fr n→fr<x∧x<fr+1+n
 | 0,x,h=>by simp[V8] at h
 | n+1,x,h=>by
  unfold V8 at h;rcases Kh.1 h with h | h
  ·have:=Zk8 h;omega
  ·split at h
   ·simp at h;omega
   ·simp at h
theorem Ziw {d:Bool} {l:List L.Place} {fr:Int}:∀ (n:Nat),(V8 d l fr n).length≤n
 | 0=>by simp[V8]
 | n+1=>by
  have:=Ziw (d:=d) (l:=l) (fr:=fr) n;unfold V8;split<;>simp<;>omega
theorem ZjV {d:Bool} {l:List L.Place} {fr:Int}:∀ (n:Nat),(V8 d l fr n).find? (fun x=>!crs d l x)=Zeu d l fr n
 | 0=>rfl
 | n+1=>by
  unfold V8 Zeu;rw[List.find?_append,ZjV n];cases hc:Zeu d l fr n with
  | some x=>rfl
  | none=>
   by_cases ht:tch d l (fr+1+n)=true
   ·rw[Kj ht];by_cases hx:crs d l (fr+1+n)=false
    ·rw[Kj ⟨ht,hx⟩];simp[hx]
    ·rw[Ke (fun h=>hx h.2)];simp only[Bool.not_eq_false] at hx;simp[hx]
   ·rw[Ke ht,Ke (fun h=>ht h.1)];rfl
theorem Zev {d:Bool} {l:List L.Place} {fr:Int}:∀ {n:Nat} {x:Int},Zeu d l fr n=some x→fr<x∧x<fr+1+n∧crs d l x=false∧tch d l x=true
 | 0,x,h=>by simp[Zeu] at h
 | n+1,x,h=>by
  unfold Zeu at h;split at h
  ·rename_i y hy;cases h;have:=Zev hy;exact⟨this.1,o_,this.2.2⟩
  ·split at h
   ·rename_i hc;cases h;exact⟨o_,o_,hc.2,hc.1⟩
   ·cases h
theorem ZiZ:∀ (l:List Int) (k:Nat) (n:Int),n∉l→Xt k l n=-1
 | [],_,_,_=>rfl
 | x :: l,k,n,h=>by
  simp only[Kd,not_or] at h;unfold Xt;rw[Ke (fun e=>h.1 e.symm),ZiZ l (k+1) n h.2]
theorem Zi0:∀ (l:List Int) (k:Nat) (n:Int),n∈l→0≤Xt k l n
 | [],_,_,h=>by simp at h
 | x :: l,k,n,h=>by
  unfold Xt;split
  ·omega
  ·rename_i aa;rcases Kd.1 h with rfl | h
   ·exact absurd rfl aa
   ·exact Zi0 l (k+1) n h
def ZaF (d:Bool) (b:Box) (a:Int):Box:=if d then ⟨b.X,b.Y,a,b.H⟩ else ⟨b.X,b.Y,b.W,a⟩
def WP (d:Bool) (b:Box) (a:Int):Box:=if d then ⟨b.X+a,b.Y,b.W-a,b.H⟩ else ⟨b.X,b.Y+a,b.W,b.H-a⟩
def Zf9 (d:Bool) (a:Int):Option BT→Option BT→Option BT
 | some p,some q=>some (.cut d a p q)
 | _,_=>none
def Zb1 (l:List L.Place) (b:Box):Option (Bool×Int):=match Zeu true l b.X (b.W-1).toNat with
 | some x=>some (true,x)
 | none=>match Zeu false l b.Y (b.H-1).toNat with
  | some y=>some (false,y)
  | none=>none
def YG:Nat→List L.Place→Box→Option BT
 | 0,_,_=>none
 | n+1,l,b=>match l with
  | []=>some .waste
  | c :: r=>if r=[]∧c.Box=b then some (.pane c.Pane c.Turned) else match Zb1 (c :: r) b with
   | some (d,x)=>Zf9 d (x-loP d b) (YG n (X1 d (c :: r) x true) (ZaF d b (x-loP d b))) (YG n (X1 d (c :: r) x false) (WP d b (x-loP d b)))
   | none=>none
def InL (l:List L.Place) (b:Box):Prop:=∀ c∈l,VB c.Box∧QE c.Box b
theorem Zfj {l:List L.Place} {b:Box} {d:Bool} {x:Int} (h:Zb1 l b=some (d,x)):loP d b<x∧x<hiP d b∧crs d l x=false:=by
 unfold Zb1 at h;split at h
 ·rename_i y hy;cases h;have:=Zev hy;exact⟨this.1,by simp only[hiP,Kl];omega,this.2.2.1⟩
 ·split at h
  ·rename_i y hy;cases h;have:=Zev hy;exact⟨this.1,by simp only[hiP,Ka,Km];omega,this.2.2.1⟩
  ·cases h
theorem Zy1 {d:Bool} {l:List L.Place} {x:Int} (h:crs d l x=false):∀ c∈l,hiP d c.Box≤x∨x≤loP d c.Box:=fun c hc=>by
 have:=List.any_eq_false.1 h c hc;simp only[Ko] at this;omega
theorem ZoZ {l:List L.Place} {b:Box} {d:Bool} {x:Int} (hb:VB b) (h:InL l b) (hx:loP d b<x∧x<hiP d b) (hc:crs d l x=false) :
  (VB (ZaF d b (x-loP d b))∧InL (X1 d l x true) (ZaF d b (x-loP d b)))∧VB (WP d b (x-loP d b))∧InL (X1 d l x false) (WP d b (x-loP d b)):=by
 have hn:=Zy1 hc;cases d
 ·simp only[loP,hiP,ZaF,WP,Ka,Km] at hx hn ⊢;simp only[VB] at hb;refine⟨⟨by simp only[VB];omega,fun c hm=>?_⟩,by simp only[VB];omega,fun c hm=>?_⟩
  ·obtain⟨h1,h2⟩:=LS.1 hm;have h3:=h c h1;simp only[hiP,Ka,Km,beq_iff_eq] at h2;have h4:=of_decide_eq_true h2.symm;simp only[QE] at h3 ⊢;exact⟨h3.1,o_⟩
  ·obtain⟨h1,h2⟩:=LS.1 hm;have h3:=h c h1;have h5:=hn c h1;simp only[hiP,Ka,Km,beq_iff_eq] at h2;have h4:=of_decide_eq_false h2.symm;simp only[QE] at h3 ⊢;exact⟨h3.1,o_⟩
 ·simp only[loP,hiP,ZaF,WP,Kl] at hx hn ⊢;simp only[VB] at hb;refine⟨⟨by simp only[VB];omega,fun c hm=>?_⟩,by simp only[VB];omega,fun c hm=>?_⟩
  ·obtain⟨h1,h2⟩:=LS.1 hm;have h3:=h c h1;simp only[hiP,Kl,beq_iff_eq] at h2;have h4:=of_decide_eq_true h2.symm;simp only[QE] at h3 ⊢;exact⟨h3.1,o_⟩
  ·obtain⟨h1,h2⟩:=LS.1 hm;have h3:=h c h1;have h5:=hn c h1;simp only[hiP,Kl,beq_iff_eq] at h2;have h4:=of_decide_eq_false h2.symm;simp only[QE] at h3 ⊢;exact⟨h3.1,o_⟩
def plV:Option BT→AV×List Zk
 | some b=>match b.plan with
  | .mk o a q t ks=>(.tup [.agg [(.d (J o)),(.d (J a)),(.d (J q)),(.d (.bool t)),.own 0],(.d (.bool true))],[.row 5 (ks.map Zf.enc) true false])
 | none=>(.tup [.agg [(.d (J 0)),(.d (J 0)),(.d (J 0)),(.d (.bool false)),.own 0],(.d (.bool false))],[.row 5 [] true false])
theorem ZnQ (l:List L.Place) (d:Bool) (fr to:Int) (hl:l.length≤1000) (hc:∀ c∈l,VB c.Box) (h0:0≤fr) (h1:fr<to) (h2:to≤1000):v_ 138 [(.d (.sl (l.map Place.enc))),(.d (J (Z8 d))),(.d (J fr)),(.d (J to))] []=some (.own 0,[.row 1 ((V8 d l fr (to-fr-1).toNat).map Yi) true false]):=by
 have w0:=wi (fr+1) o_ o_;refine cE ?_;simp (maxSteps:=10^7) +contextual -implicitDefEqProofs only[go_sem,seval,Znc,w0];refine Yh Xs Ms (st0:=?st0) (α:=Nat) (fun n=>[(10,.d (J (fr+1+(n:Int))))]) (fun n=>[(0,.row 1 ((V8 d l fr n).map Yi) true false)]) (fun n=>(n:Int)≤to-fr-1) (fun n=>(to-fr-1).toNat-n) 0 ?hc o_ ?h0 ?step
 case hc=>simp (maxSteps:=10^7) +contextual -implicitDefEqProofs only[go_sem,seval]<;>exact rfl
 case h0=>simp only[V8,Kt,Int.natCast_zero,Int.add_zero];rfl
 case step=>
  intro n hn ih;by_cases ah:fr+1+(n:Int)<to
  ·have wt:=wi (fr+1+(n:Int)+1) o_ o_;have al:=Ziw (d:=d) (l:=l) (fr:=fr) n;have ai:fr+1+(n:Int)∉V8 d l fr n:=fun h=>by have:=Zk8 h;omega
   have aj:fr+1+((n+1:Nat):Int)=fr+1+(n:Int)+1:=o_
   have af:V8 d l fr (n+1)=V8 d l fr n++(if tch d l (fr+1+n)=true then [fr+1+(n:Int)] else []):=rfl;generalize ht:fr+1+(n:Int)=t at *;simp (maxSteps:=10^7) +contextual -implicitDefEqProofs only[go_sem,seval,ah];refine Yh Xs Ms (st0:=?st1) (α:=Nat) (fun i=>[(11,.d (J (i:Int)))]) (fun i=>[(0,.row 1 ((V8 d l fr n++(if tch d (l.take i) t=true then [t] else [])).map Yi) true false)]) (fun i=>i≤l.length) (fun i=>l.length-i) 0 ?hc2 o_ ?h02 ?step2
   case hc2=>simp (maxSteps:=10^7) +contextual -implicitDefEqProofs only[go_sem,seval]<;>exact rfl
   case h02=>
    have e:tch d (l.take 0) t=false:=by simp[tch]
    simp only[e,Ka,Km,KD];rfl
   case step2=>
    intro i hi ad;by_cases ab:i<l.length
    ·obtain⟨c,hx⟩:=Zp ab;have hw:=Zh (k:=i) o_;have aa:=Zwb (d:=d) (t:=t) hx;have ak:=hc c (Kb hx);obtain⟨P,T,⟨X,Y,W,H⟩⟩:=c;simp only[VB] at ak;simp only[loP,hiP] at aa;have wx:=wi (X+W) o_ o_;have wy:=wi (Y+H) o_ o_;have ae:=Zk7 (V8 d l fr n++(if tch d (l.take i) t=true then [t] else [])) t (by split<;>simp<;>omega);by_cases hb:tch d (l.take i) t=true
     ·rw[Kj hb] at ae ⊢;have ag:=Zi0 (V8 d l fr n++[t]) 0 t (by simp);generalize Xt 0 (V8 d l fr n++[t]) t=z at ae ag;have hz:¬z<0:=o_
      rw[hb,Bool.true_or] at aa;cases d with
      | true=>
       by_cases hm:t=X∨t=X+W
       ·simp (maxSteps:=10^7) +contextual -implicitDefEqProofs only[go_sem,seval,hx,ab,hw,wx,wy,Z8,hm,ae,hz,← La];refine ad (i+1) _ o_ o_ ?_;rw[aa];simp (maxSteps:=10^7) +contextual -implicitDefEqProofs only[go_sem,seval,Z8]
       ·simp (maxSteps:=10^7) +contextual -implicitDefEqProofs only[go_sem,seval,hx,ab,hw,wx,wy,Z8,hm,← La];refine ad (i+1) _ o_ o_ ?_;rw[aa];simp (maxSteps:=10^7) +contextual -implicitDefEqProofs only[go_sem,seval,Z8]
      | false=>
       by_cases hm:t=Y∨t=Y+H
       ·simp (maxSteps:=10^7) +contextual -implicitDefEqProofs only[go_sem,seval,hx,ab,hw,wx,wy,Z8,hm,ae,hz,← La];refine ad (i+1) _ o_ o_ ?_;rw[aa];simp (maxSteps:=10^7) +contextual -implicitDefEqProofs only[go_sem,seval,Z8]
       ·simp (maxSteps:=10^7) +contextual -implicitDefEqProofs only[go_sem,seval,hx,ab,hw,wx,wy,Z8,hm,← La];refine ad (i+1) _ o_ o_ ?_;rw[aa];simp (maxSteps:=10^7) +contextual -implicitDefEqProofs only[go_sem,seval,Z8]
     ·rw[Ke hb,KD] at ae ⊢;rw[ZiZ _ _ _ ai] at ae;simp only[Lz] at hb;rw[hb,LN] at aa;have hr:((V8 d l fr n).length+1)*8≤140737488355328∧(V8 d l fr n).length≤140737488355327:=o_
      cases d with
      | true=>
       simp only[Kl] at aa;by_cases hm:t=X∨t=X+W
       ·rw[Kg hm] at aa;simp (maxSteps:=10^7) +contextual -implicitDefEqProofs only[go_sem,seval,hx,ab,hw,wx,wy,Z8,hm,ae,hr,← La];refine ad (i+1) _ o_ o_ ?_;rw[aa];simp (maxSteps:=10^7) +contextual -implicitDefEqProofs only[go_sem,seval,Z8,KJ]
       ·rw[Ki hm] at aa;simp (maxSteps:=10^7) +contextual -implicitDefEqProofs only[go_sem,seval,hx,ab,hw,wx,wy,Z8,hm,← La];refine ad (i+1) _ o_ o_ ?_;rw[aa];simp (maxSteps:=10^7) +contextual -implicitDefEqProofs only[go_sem,seval,Z8,KD]
      | false=>
       simp only[Ka,Km] at aa;by_cases hm:t=Y∨t=Y+H
       ·rw[Kg hm] at aa;simp (maxSteps:=10^7) +contextual -implicitDefEqProofs only[go_sem,seval,hx,ab,hw,wx,wy,Z8,hm,ae,hr,← La];refine ad (i+1) _ o_ o_ ?_;rw[aa];simp (maxSteps:=10^7) +contextual -implicitDefEqProofs only[go_sem,seval,Z8,KJ]
       ·rw[Ki hm] at aa;simp (maxSteps:=10^7) +contextual -implicitDefEqProofs only[go_sem,seval,hx,ab,hw,wx,wy,Z8,hm,← La];refine ad (i+1) _ o_ o_ ?_;rw[aa];simp (maxSteps:=10^7) +contextual -implicitDefEqProofs only[go_sem,seval,Z8,KD]
    ·have:i=l.length:=o_
     subst this;rw[Kw (Kp _)];rw[← af];simp (maxSteps:=10^7) +contextual -implicitDefEqProofs only[go_sem,seval,wt];refine ih (n+1) _ o_ o_ ?_;simp (maxSteps:=10^7) +contextual -implicitDefEqProofs only[go_sem,seval,aj]
  ·have:(to-fr-1).toNat=n:=o_
   rw[this];simp (maxSteps:=10^7) +contextual -implicitDefEqProofs only[go_sem,seval,ah]
theorem ZC0 {d:Bool} {l:List L.Place} {t:Int} {c:L.Place} (hc:c∈l) (h:loP d c.Box<t∧t<hiP d c.Box):crs d l t=true:=LM.2 ⟨c,hc,Kg h⟩
def Ztm (d:Bool) (l:List L.Place) (t:Int) (f:Bool):AV×List Zk:=if crs d l t=true then (.tup [.own 0,(.d (.bool false))],[.row 6 [] true false]) else (.tup [.own 0,(.d (.bool true))],[.row 6 ((X1 d l t f).map Place.enc) true false])
theorem ZqH (l:List L.Place) (d:Bool) (t:Int) (f:Bool) (hl:l.length≤1000) (hc:∀ c∈l,VB c.Box):v_ 139 [(.d (.sl (l.map Place.enc))),(.d (J (Z8 d))),(.d (J t)),(.d (.bool f))] []=some (Ztm d l t f):=by
 have bb:∀ a b:Bool,ZgQ .eql true (.d (.bool a)) (.d (.bool b))=Qp (.d (.bool (a==b))):=fun _ _=>rfl;refine cE ?_;simp (maxSteps:=10^7) +contextual -implicitDefEqProofs only[go_sem,seval,ZlK];refine LO (α:=Nat) (fun i=>[(11,.d (J (i:Int)))]) (fun i=>[(0,.row 6 ((X1 d (l.take i) t f).map Place.enc) true false)]) (fun i=>i≤l.length∧crs d (l.take i) t=false) (fun i=>l.length-i) 0 ⟨o_,by simp[crs]⟩ ?_;intro i ⟨hi,hp⟩ ih;by_cases ad:i<l.length
 ·obtain⟨c,hx⟩:=Zp ad;have hw:=Zh (k:=i) o_;have ab:=Zwc (d:=d) (t:=t) hx;have aa:=ZjU (d:=d) (t:=t) (f:=f) hx;have ae:=@ZC0 d l t c (Kb hx);have ag:=hc c (Kb hx);have ah:(X1 d (l.take i) t f).length≤i:=Ku (Kah _ _) (by simp;omega);have hr:((X1 d (l.take i) t f).length+1)*48≤140737488355328∧(X1 d (l.take i) t f).length≤140737488355327:=o_
  obtain⟨P,T,⟨X,Y,W,H⟩⟩:=c;simp only[VB] at ag;simp only[loP,hiP] at ab aa ae;have wx:=wi (X+W) o_ o_;have wy:=wi (Y+H) o_ o_;rw[hp,LN] at ab;cases d with
  | true=>
   simp only[Kl] at ab aa ae;by_cases hm:X<t∧t<X+W
   ·have af:=ae hm;unfold Ztm;rw[Kj af];simp (maxSteps:=10^7) +contextual -implicitDefEqProofs only[go_sem,seval,hx,ad,hw,wx,wy,Z8,hm,← K6]
   ·rw[Ki hm] at ab;by_cases hf:f=decide (X+W≤t)
    ·have hg:(f==decide (X+W≤t))=true:=by rw[hf];simp
     rw[Kj hf] at aa;simp (maxSteps:=10^7) +contextual -implicitDefEqProofs only[go_sem,seval,hx,ad,hw,wx,wy,Z8,hm,bb,hg,hr,← K6];refine ih (i+1) _ ⟨o_,ab⟩ o_ ?_;rw[aa];simp (maxSteps:=10^7) +contextual -implicitDefEqProofs only[go_sem,seval,Z8,KJ]
    ·have hg:(f==decide (X+W≤t))=false:=by simpa using hf
     rw[Ke hf] at aa;simp (maxSteps:=10^7) +contextual -implicitDefEqProofs only[go_sem,seval,hx,ad,hw,wx,wy,Z8,hm,bb,hg,← K6];refine ih (i+1) _ ⟨o_,ab⟩ o_ ?_;rw[aa];simp (maxSteps:=10^7) +contextual -implicitDefEqProofs only[go_sem,seval,Z8,KD]
  | false=>
   simp only[Ka,Km] at ab aa ae;by_cases hm:Y<t∧t<Y+H
   ·have af:=ae hm;unfold Ztm;rw[Kj af];simp (maxSteps:=10^7) +contextual -implicitDefEqProofs only[go_sem,seval,hx,ad,hw,wx,wy,Z8,hm,← K6]
   ·rw[Ki hm] at ab;by_cases hf:f=decide (Y+H≤t)
    ·have hg:(f==decide (Y+H≤t))=true:=by rw[hf];simp
     rw[Kj hf] at aa;simp (maxSteps:=10^7) +contextual -implicitDefEqProofs only[go_sem,seval,hx,ad,hw,wx,wy,Z8,hm,bb,hg,hr,← K6];refine ih (i+1) _ ⟨o_,ab⟩ o_ ?_;rw[aa];simp (maxSteps:=10^7) +contextual -implicitDefEqProofs only[go_sem,seval,Z8,KJ]
    ·have hg:(f==decide (Y+H≤t))=false:=by simpa using hf
     rw[Ke hf] at aa;simp (maxSteps:=10^7) +contextual -implicitDefEqProofs only[go_sem,seval,hx,ad,hw,wx,wy,Z8,hm,bb,hg,← K6];refine ih (i+1) _ ⟨o_,ab⟩ o_ ?_;rw[aa];simp (maxSteps:=10^7) +contextual -implicitDefEqProofs only[go_sem,seval,Z8,KD]
 ·have:i=l.length:=o_
  subst this;rw[Kw (Kp _)] at hp;unfold Ztm;rw[Ke (by rw[hp];simp)];simp (maxSteps:=10^7) +contextual -implicitDefEqProofs only[go_sem,seval,Ln]
theorem ZxU (A B:List L.Place) (bX bY bW bH:Int) (d:Bool) (a:Int) (l r:Option BT) (hb:VB (Box.mk bX bY bW bH)) (ha:0≤a∧a≤400)
  (hl:v_ 99 [(.d (.sl (A.map Place.enc))),.d (ZaF d (Box.mk bX bY bW bH) a).enc] []=some (plV l))
  (hr:v_ 99 [(.d (.sl (B.map Place.enc))),.d (WP d (Box.mk bX bY bW bH) a).enc] []=some (plV r)) :
  v_ 140 [(.d (.sl (A.map Place.enc))),(.d (.sl (B.map Place.enc))),(.d (.agg [J bX,J bY,J bW,J bH])),(.d (J (Z8 d))),(.d (J a))] []=some (plV (Zf9 d a l r)):=by
 simp only[VB] at hb;have w1:=wi (bX+a) o_ o_;have w2:=wi (bY+a) o_ o_;have w3:=wi (bW-a) o_ o_;have w4:=wi (bH-a) o_ o_;have aa:∀ b:BT,∃ o a q t ks,b.plan=.mk o a q t ks:=fun b=>by cases b.plan;exact⟨_,_,_,_,_,rfl⟩
 cases l with
 | none=>
  cases r with
  | none=>
   simp only[Zf9,plV] at hl hr ⊢;cases d<;>simp only[ZaF,WP,Box.enc,Z8,Kl,Ka,Km] at hl hr ⊢
   ·refine cE ?_;simp (maxSteps:=10^7) +contextual -implicitDefEqProofs only[go_sem,seval,QR,w1,w2,w3,w4,hl,hr]
   ·refine cE ?_;simp (maxSteps:=10^7) +contextual -implicitDefEqProofs only[go_sem,seval,QR,w1,w2,w3,w4,hl,hr]
  | some q=>
   obtain⟨ro,ra,rq,rt,rk,er⟩:=aa q;simp only[Zf9,plV,er] at hl hr ⊢;cases d<;>simp only[ZaF,WP,Box.enc,Z8,Kl,Ka,Km] at hl hr ⊢
   ·refine cE ?_;simp (maxSteps:=10^7) +contextual -implicitDefEqProofs only[go_sem,seval,QR,w1,w2,w3,w4,hl,hr]
   ·refine cE ?_;simp (maxSteps:=10^7) +contextual -implicitDefEqProofs only[go_sem,seval,QR,w1,w2,w3,w4,hl,hr]
 | some p=>
  obtain⟨lo,la,lq,lt,lk,el⟩:=aa p;cases r with
  | none=>
   simp only[Zf9,plV,el] at hl hr ⊢;cases d<;>simp only[ZaF,WP,Box.enc,Z8,Kl,Ka,Km] at hl hr ⊢
   ·refine cE ?_;simp (maxSteps:=10^7) +contextual -implicitDefEqProofs only[go_sem,seval,QR,w1,w2,w3,w4,hl,hr]
   ·refine cE ?_;simp (maxSteps:=10^7) +contextual -implicitDefEqProofs only[go_sem,seval,QR,w1,w2,w3,w4,hl,hr]
  | some q=>
   obtain⟨ro,ra,rq,rt,rk,er⟩:=aa q;simp only[Zf9,plV,BT.plan,el,er] at hl hr ⊢;cases d<;>simp only[ZaF,WP,Box.enc,Z8,Kl,Ka,Km] at hl hr ⊢
   ·refine cE ?_;simp (maxSteps:=10^7) +contextual -implicitDefEqProofs only[go_sem,seval,QR,w1,w2,w3,w4,hl,hr]
   ·refine cE ?_;simp (maxSteps:=10^7) +contextual -implicitDefEqProofs only[go_sem,seval,QR,w1,w2,w3,w4,hl,hr]
theorem Ztn {l:List Int} {p:Int→Bool} {k:Nat} {x:Int} (hx:l[k]?=some x):(l.drop k).find? p=if p x=true then some x else (l.drop (k+1)).find? p:=by
 obtain⟨h1,h2⟩:=Kc.1 hx;rw[Kx h1,h2,List.find?_cons];cases p x<;>rfl
theorem ZAi {n:Nat} {c:L.Place} {r:List L.Place} {b:Box} {d:Bool} {x:Int} (hn:¬(r=[]∧c.Box=b)) (h:Zb1 (c :: r) b=some (d,x)) :
  YG (n+1) (c :: r) b=Zf9 d (x-loP d b) (YG n (X1 d (c :: r) x true) (ZaF d b (x-loP d b))) (YG n (X1 d (c :: r) x false) (WP d b (x-loP d b))):=by
 rw[YG,Ke hn,h]
theorem ZBC {n:Nat} {c:L.Place} {r:List L.Place} {b:Box} (hn:¬(r=[]∧c.Box=b)) (h:Zb1 (c :: r) b=none):YG (n+1) (c :: r) b=none:=by
 rw[YG,Ke hn,h]
theorem Zb2 (b:BT):∃ o a q t ks,b.plan=.mk o a q t ks:=by cases b.plan;exact⟨_,_,_,_,_,rfl⟩
theorem ZqI {b:Box} {d:Bool} {x:Int} (hb:VB b) (hx:loP d b<x∧x<hiP d b) :
  ((ZaF d b (x-loP d b)).W+(ZaF d b (x-loP d b)).H).toNat<(b.W+b.H).toNat∧((WP d b (x-loP d b)).W+(WP d b (x-loP d b)).H).toNat<(b.W+b.H).toNat:=by
 simp only[VB] at hb;cases d<;>simp only[loP,hiP,ZaF,WP,Kl,Ka,Km] at hx ⊢ <;> omega
theorem Zix (d:Bool) (l:List L.Place) (t:Int) (f:Bool):(X1 d l t f).length≤l.length:=Kah _ _
theorem ZrW:∀ (n:Nat) (l:List L.Place) (bX bY bW bH:Int),VB (Box.mk bX bY bW bH)→InL l (Box.mk bX bY bW bH)→(bW+bH).toNat≤n→l.length≤1000→v_ 99 [(.d (.sl (l.map Place.enc))),(.d (.agg [J bX,J bY,J bW,J bH]))] []=some (plV (YG n l (Box.mk bX bY bW bH))):=by
 intro n
 induction n with
 | zero=>
  intro l bX bY bW bH hb _ hn _;simp only[VB] at hb;omega
 | succ n IH=>
  intro l bX bY bW bH hb hl hn aa;cases l with
  | nil=>
   simp only[YG,plV,BT.plan,Kt];refine cE ?_;simp (maxSteps:=10^7) +contextual -implicitDefEqProofs only[go_sem,seval,Y1]
  | cons c r=>
   have ah:∀ y∈c :: r,VB y.Box:=fun y hy=>(hl y hy).1;by_cases hp:r=[]∧c.Box=(Box.mk bX bY bW bH)
   ·obtain⟨rfl,ai⟩:=hp;obtain⟨P,T,⟨X,Y,W,H⟩⟩:=c;simp only at ai;have ar:YG (n+1) [⟨P,T,⟨X,Y,W,H⟩⟩] (Box.mk bX bY bW bH)=some (.pane P T):=by rw[YG,Kj ⟨rfl,ai⟩]
    rw[ar];simp only[Box.mk.injEq] at ai;obtain⟨rfl,rfl,rfl,rfl⟩:=ai;simp only[plV,BT.plan];refine cE ?_;simp (maxSteps:=10^7) +contextual -implicitDefEqProofs only[go_sem,seval,Y1]
   ·have aj:=hb;simp only[VB] at hb;have an:(r=[]→¬(c.Box.X=bX∧c.Box.Y=bY∧c.Box.W=bW∧c.Box.H=bH)):=fun e h=>hp ⟨e,by cases hcB:c.Box;rw[hcB] at h;obtain⟨h1,h2,h3,h4⟩:=h;simp only at h1 h2 h3 h4;rw[h1,h2,h3,h4]⟩;have e1:=ZnQ (c :: r) true bX (bX+bW);have e2:=ZnQ (c :: r) false bY (bY+bH);have ak:∀ d x,Zb1 (c :: r) (Box.mk bX bY bW bH)=some (d,x)→v_ 140 [.d (.sl ((X1 d (c :: r) x true).map Place.enc)),.d (.sl ((X1 d (c :: r) x false).map Place.enc)),(.d (.agg [J bX,J bY,J bW,J bH])),(.d (J (Z8 d))),(.d (J (x-loP d (Box.mk bX bY bW bH))))] []=some (plV (YG (n+1) (c :: r) (Box.mk bX bY bW bH))):=fun d x h=>by
     obtain⟨h1,h2,h3⟩:=Zfj h;obtain⟨⟨g1,g2⟩,g3,g4⟩:=ZoZ aj hl ⟨h1,h2⟩ h3;obtain⟨s1,s2⟩:=ZqI aj ⟨h1,h2⟩;rw[ZAi hp h];simp only at s1 s2;refine ZxU _ _ bX bY bW bH d _ _ _ aj (by cases d<;>simp only[loP,hiP,Kl,Ka,Km] at h1 h2 ⊢ <;> omega) ?_ ?_
     ·exact IH _ _ _ _ _ g1 g2 o_ (Ku (Zix _ _ _ _) aa)
     ·exact IH _ _ _ _ _ g3 g4 o_ (Ku (Zix _ _ _ _) aa)
    have pT:=fun d t=>ZqH (c :: r) d t true aa ah;have pF:=fun d t=>ZqH (c :: r) d t false aa ah;have w1:=wi (bX+bW) o_ o_;have w2:=wi (bY+bH) o_ o_;have au:(bX+bW-bX-1).toNat=(bW-1).toNat:=o_
    have av:(bY+bH-bY-1).toNat=(bH-1).toNat:=o_
    have E1:=e1 aa ah o_ o_ o_;have E2:=e2 aa ah o_ o_ o_;rw[au] at E1;rw[av] at E2;have F1:=ZjV (d:=true) (l:=c :: r) (fr:=bX) (bW-1).toNat;have F2:=ZjV (d:=false) (l:=c :: r) (fr:=bY) (bH-1).toNat;have L1:=Ziw (d:=true) (l:=c :: r) (fr:=bX) (bW-1).toNat;have L2:=Ziw (d:=false) (l:=c :: r) (fr:=bY) (bH-1).toNat;have B1:=fun x=>@Zk8 true (c :: r) bX (bW-1).toNat x;have B2:=fun x=>@Zk8 false (c :: r) bY (bH-1).toNat x;generalize az:V8 true (c :: r) bX (bW-1).toNat=G1 at E1 F1 L1 B1;generalize a0:V8 false (c :: r) bY (bH-1).toNat=G2 at E2 F2 L2 B2;have ae:Zb1 (c :: r) (Box.mk bX bY bW bH)=match G1.find? (fun x=>!crs true (c :: r) x) with
     | some x=>some (true,x)
     | none=>match G2.find? (fun x=>!crs false (c :: r) x) with
      | some y=>some (false,y)
      | none=>none:=by unfold Zb1;rw[F1,F2]<;>rfl
    have ao:=@ZBC n c r (Box.mk bX bY bW bH) hp;generalize hX:YG (n+1) (c :: r) (Box.mk bX bY bW bH)=X at ak ao ⊢;clear hX F1 F2 e1 e2 IH hl;generalize hl:c :: r=l at *;have ap:1≤l.length:=by rw[← hl];simp
    have aw:¬(l.length:Int)=0:=o_
    have al:l[0]?=some c:=by rw[← hl];rfl
    have af:(l.length:Int)=1→¬(c.Box.X=bX∧c.Box.Y=bY∧c.Box.W=bW∧c.Box.H=bH):=fun h=>an (by
     rw[← hl] at h;cases r with
     | nil=>rfl
     | cons y r=>simp only[Kn] at h;omega)
    clear hl an hp;obtain⟨P,T,⟨cX,cY,cW,cH⟩⟩:=c;simp only at af;have am : 0<l.length:=o_
    have ag:¬((l.length:Int)=1∧cX=bX∧cY=bY∧cW=bW∧cH=bH):=fun h=>af h.1 h.2;simp only[Z8,Kl,Ka,Km] at E1 E2;refine cE ?_;simp (maxSteps:=10^7) +contextual -implicitDefEqProofs only[go_sem,seval,Y1,aw,al,am,ag,← K6];refine ZB Xs Ms ?_;simp (maxSteps:=10^7) +contextual -implicitDefEqProofs only[go_sem,seval,w1,E1];refine Yh Xs Ms (st0:=?sa) (α:=Nat) (fun i=>[(10,.d (J (i:Int)))]) (fun _=>[]) (fun i=>i≤G1.length∧(G1.drop i).find? (fun x=>!crs true l x)=G1.find? (fun x=>!crs true l x)) (fun i=>G1.length-i) 0 ?ha1 ⟨o_,by simp⟩ ?ha2 ?ha3
    case ha1=>simp (maxSteps:=10^7) +contextual -implicitDefEqProofs only[go_sem,seval]<;>exact rfl
    case ha2=>rfl
    case ha3=>
     intro i ⟨hi,hq⟩ ih;by_cases ab:i<G1.length
     ·obtain⟨x,hx⟩:=Zp ab;have hw:=Zh (k:=i) o_;rw[Ztn hx] at hq;have ax:=B1 x (Kb hx);have w3:=wi (x-bX) o_ o_;have p1:=pT true x;have p2:=pF true x;unfold Ztm at p1 p2;by_cases ad:crs true l x=true
      ·rw[Kj ad] at p1;rw[Ke (by simp[ad])] at hq;simp only[Z8,Kl,Ka,Km] at p1;simp (maxSteps:=10^7) +contextual -implicitDefEqProofs only[go_sem,seval,ab,hx,hw,p1];refine ih (i+1) _ ⟨o_,hq⟩ o_ ?_;simp (maxSteps:=10^7) +contextual -implicitDefEqProofs only[go_sem,seval]
      ·rw[Ke ad] at p1 p2;rw[Kj (by simpa using ad)] at hq;have hb1:=ak true x (by rw[ae,← hq]);simp only[Z8,loP,Kl,Ka,Km] at p1 p2 hb1;cases X with
       | none=>
        unfold plV at hb1 ⊢;simp (maxSteps:=10^7) +contextual -implicitDefEqProofs only[go_sem,seval,ab,hx,hw,p1,p2,w3,hb1]
       | some q=>
        obtain⟨qo,qa,qq,qt,qk,eq⟩:=Zb2 q;simp only[plV,eq] at hb1 ⊢;simp (maxSteps:=10^7) +contextual -implicitDefEqProofs only[go_sem,seval,ab,hx,hw,p1,p2,w3,hb1]
     ·have:i=G1.length:=o_
      subst this;have aq:G1.find? (fun x=>!crs true l x)=none:=by rw[← hq];simp
      simp (maxSteps:=10^7) +contextual -implicitDefEqProofs only[go_sem,seval];refine ZB Xs Ms ?_;simp (maxSteps:=10^7) +contextual -implicitDefEqProofs only[go_sem,seval,w1,w2,E2];refine Yh Xs Ms (st0:=?sb) (α:=Nat) (fun i=>[(10,.d (J (i:Int)))]) (fun _=>[]) (fun i=>i≤G2.length∧(G2.drop i).find? (fun x=>!crs false l x)=G2.find? (fun x=>!crs false l x)) (fun i=>G2.length-i) 0 ?hb1 ⟨o_,by simp⟩ ?hb2 ?hb3
      case hb1=>simp (maxSteps:=10^7) +contextual -implicitDefEqProofs only[go_sem,seval]<;>exact rfl
      case hb2=>rfl
      case hb3=>
       intro i ⟨hi,hq⟩ ih;by_cases ab:i<G2.length
       ·obtain⟨x,hx⟩:=Zp ab;have hw:=Zh (k:=i) o_;rw[Ztn hx] at hq;have ax:=B2 x (Kb hx);have w3:=wi (x-bY) o_ o_;have p1:=pT false x;have p2:=pF false x;unfold Ztm at p1 p2;by_cases ad:crs false l x=true
        ·rw[Kj ad] at p1;rw[Ke (by simp[ad])] at hq;simp only[Z8,Kl,Ka,Km] at p1;simp (maxSteps:=10^7) +contextual -implicitDefEqProofs only[go_sem,seval,ab,hx,hw,p1];refine ih (i+1) _ ⟨o_,hq⟩ o_ ?_;simp (maxSteps:=10^7) +contextual -implicitDefEqProofs only[go_sem,seval]
        ·rw[Ke ad] at p1 p2;rw[Kj (by simpa using ad)] at hq;have hb1:=ak false x (by rw[ae,aq,← hq]);simp only[Z8,loP,Kl,Ka,Km] at p1 p2 hb1;cases X with
         | none=>
          unfold plV at hb1 ⊢;simp (maxSteps:=10^7) +contextual -implicitDefEqProofs only[go_sem,seval,ab,hx,hw,p1,p2,w3,hb1]
         | some q=>
          obtain⟨qo,qa,qq,qt,qk,eq⟩:=Zb2 q;simp only[plV,eq] at hb1 ⊢;simp (maxSteps:=10^7) +contextual -implicitDefEqProofs only[go_sem,seval,ab,hx,hw,p1,p2,w3,hb1]
       ·have:i=G2.length:=o_
        subst this;have ay:G2.find? (fun x=>!crs false l x)=none:=by rw[← hq];simp
        have hX:=ao (by rw[ae,aq,ay]);subst hX;unfold plV;have w4:=wi 4 o_ o_;simp (maxSteps:=10^7) +contextual -implicitDefEqProofs only[go_sem,seval,w4];refine ZB Xs Ms ?_;simp (maxSteps:=10^7) +contextual -implicitDefEqProofs only[go_sem,seval]
def JA (d:Bool) (c:L.Place):D:=.agg [J (loP d c.Box),J (hiP d c.Box)]
@[go_sem] theorem uni_span (d:Bool) (l:List L.Place):uni 2 (l.map (JA d))=True:=eq_true (J2 l fun _=>rfl)
@[go_sem] theorem flat_span (d:Bool) (l:List L.Place):Xb (l.map (JA d))=True:=eq_true (ZbD l fun _=>rfl)
theorem Zc7 (bX bY bW bH:Int) (d:Bool) (h1:R64 (bX+bW)) (h2:R64 (bY+bH)):v_ 242 [(.d (.agg [J bX,J bY,J bW,J bH])),(.d (.bool d))] []=some (.d (.agg [J (loP d (Box.mk bX bY bW bH)),J (hiP d (Box.mk bX bY bW bH))]),[]):=by
 have w1:=wi (bX+bW) h1.1 h1.2;have w2:=wi (bY+bH) h2.1 h2.2;cases d
 ·simp only[loP,hiP,Ka,Km];refine cE ?_;simp (maxSteps:=10^7) +contextual -implicitDefEqProofs only[go_sem,seval,Zkc,w1,w2]
 ·simp only[loP,hiP,Kl];refine cE ?_;simp (maxSteps:=10^7) +contextual -implicitDefEqProofs only[go_sem,seval,Zkc,w1,w2]
def ZqJ:Option Int→AV×List Zk
 | some x=>(.tup [(.d (J x)),(.d (.bool true))],[])
 | none=>(.tup [(.d (J 0)),(.d (.bool false))],[])
theorem Zi1 (l:List L.Place) (d:Bool) (fr to:Int) (hl:l.length≤1000) (h0:0≤fr) (h1:fr<to) (h2:to≤1000):v_ 243 [.d (.sl (l.map (JA d))),.d (.agg [J fr,J to])] []=some (ZqJ (Zeu d l fr (to-fr-1).toNat)):=by
 have w0:=wi (fr+1) o_ o_;refine cE ?_;simp (maxSteps:=10^7) +contextual -implicitDefEqProofs only[go_sem,seval,ZlR,w0];refine Yh Xs Ms (st0:=?st0) (α:=Nat) (fun n=>[(6,.d (J (fr+1+(n:Int))))]) (fun _=>[]) (fun n=>(n:Int)≤to-fr-1∧Zeu d l fr n=none) (fun n=>(to-fr-1).toNat-n) 0 ?hc ⟨o_,rfl⟩ ?h0 ?step
 case hc=>simp (maxSteps:=10^7) +contextual -implicitDefEqProofs only[go_sem,seval]<;>exact rfl
 case h0=>simp only[Int.natCast_zero,Int.add_zero];rfl
 case step=>
  intro n ⟨hn,hp⟩ ih;by_cases ak:fr+1+(n:Int)<to
  ·have wt:=wi (fr+1+(n:Int)+1) o_ o_;have al:fr+1+((n+1:Nat):Int)=fr+1+(n:Int)+1:=o_
   have aa:Zeu d l fr (n+1)=if tch d l (fr+1+n)=true∧crs d l (fr+1+n)=false then some (fr+1+(n:Int)) else none:=by rw[Zeu,hp]
   have ag:∀ k,Zeu d l fr (n+1)=some (fr+1+(n:Int))→Zeu d l fr (n+1+k)=some (fr+1+(n:Int)):=by
    intro k h
    induction k with
    | zero=>exact h
    | succ k ihk=>rw[show n+1+(k+1)=(n+1+k)+1 by omega,Zeu,ihk]
   have hk:(to-fr-1).toNat=n+1+((to-fr-1).toNat-(n+1)):=o_
   generalize ht:fr+1+(n:Int)=t at *;simp (maxSteps:=10^7) +contextual -implicitDefEqProofs only[go_sem,seval,ak];refine Yh Xs Ms (st0:=?st1) (α:=Nat) (fun i=>[(22,.d (J (i:Int))),(8,.d (.bool (crs d (l.take i) t))),(7,.d (.bool (tch d (l.take i) t)))]) (fun _=>[]) (fun i=>i≤l.length) (fun i=>l.length-i) 0 ?hc2 o_ ?h02 ?step2
   case hc2=>simp (maxSteps:=10^7) +contextual -implicitDefEqProofs only[go_sem,seval]<;>exact rfl
   case h02=>rfl
   case step2=>
    intro i hi aj;by_cases ah:i<l.length
    ·obtain⟨c,hx⟩:=Zp ah;have hw:=Zh (k:=i) o_;have ae:=Zwb (d:=d) (t:=t) hx;have ab:=Zwc (d:=d) (t:=t) hx;have af:(l.map (JA d))[i]?=some (.agg [J (loP d c.Box),J (hiP d c.Box)]):=by rw[Ld,hx];rfl
     generalize loP d c.Box=a at ae ab af;generalize hiP d c.Box=b at ae ab af;generalize tch d (l.take i) t=T at ae ⊢;generalize crs d (l.take i) t=C at ab ⊢;by_cases hm:a=t∨b=t
     ·rw[Kg (show t=a∨t=b by omega),Bool.or_true] at ae;by_cases hq:a<t∧t<b
      ·rw[Kg hq,Bool.or_true] at ab;simp (maxSteps:=10^7) +contextual -implicitDefEqProofs only[go_sem,seval,af,ah,hw,hm,hq,KB,← La,← K6];refine aj (i+1) _ o_ o_ ?_;rw[ae,ab];simp (maxSteps:=10^7) +contextual -implicitDefEqProofs only[go_sem,seval,KB]
      ·rw[Ki hq,Bool.or_false] at ab;simp (maxSteps:=10^7) +contextual -implicitDefEqProofs only[go_sem,seval,af,ah,hw,hm,hq,KB,← La,← K6];refine aj (i+1) _ o_ o_ ?_;rw[ae,ab];simp (maxSteps:=10^7) +contextual -implicitDefEqProofs only[go_sem,seval,KB]
     ·rw[Ki (show ¬(t=a∨t=b) by omega),Bool.or_false] at ae;by_cases hq:a<t∧t<b
      ·rw[Kg hq,Bool.or_true] at ab;simp (maxSteps:=10^7) +contextual -implicitDefEqProofs only[go_sem,seval,af,ah,hw,hm,hq,KB,← La,← K6];refine aj (i+1) _ o_ o_ ?_;rw[ae,ab];simp (maxSteps:=10^7) +contextual -implicitDefEqProofs only[go_sem,seval,KB]
      ·rw[Ki hq,Bool.or_false] at ab;simp (maxSteps:=10^7) +contextual -implicitDefEqProofs only[go_sem,seval,af,ah,hw,hm,hq,KB,← La,← K6];refine aj (i+1) _ o_ o_ ?_;rw[ae,ab];simp (maxSteps:=10^7) +contextual -implicitDefEqProofs only[go_sem,seval,KB]
    ·have:i=l.length:=o_
     subst this;rw[Kw (Kp _)];by_cases ad:tch d l t=true∧crs d l t=false
     ·rw[Kj ad] at aa;rw[hk,ag _ aa];rw[ad.1,ad.2];unfold ZqJ;simp (maxSteps:=10^7) +contextual -implicitDefEqProofs only[go_sem,seval]
     ·rw[Ke ad] at aa;have ai:(tch d l t=false)∨(tch d l t=true∧crs d l t=true):=by
       cases h1:tch d l t
       ·exact .inl rfl
       ·refine .inr ⟨rfl,?_⟩;cases h2:crs d l t
        ·exact absurd ⟨h1,h2⟩ ad
        ·rfl
      rcases ai with h1 | ⟨h1,h2⟩
      ·rw[h1];simp (maxSteps:=10^7) +contextual -implicitDefEqProofs only[go_sem,seval,wt];refine ih (n+1) _ ⟨o_,aa⟩ o_ ?_;simp (maxSteps:=10^7) +contextual -implicitDefEqProofs only[go_sem,seval,al]
      ·rw[h1,h2];simp (maxSteps:=10^7) +contextual -implicitDefEqProofs only[go_sem,seval,wt];refine ih (n+1) _ ⟨o_,aa⟩ o_ ?_;simp (maxSteps:=10^7) +contextual -implicitDefEqProofs only[go_sem,seval,al]
  ·have:(to-fr-1).toNat=n:=o_
   rw[this,hp];unfold ZqJ;simp (maxSteps:=10^7) +contextual -implicitDefEqProofs only[go_sem,seval,ak]
def Zto (b:Box):Option (Bool×Int)→AV×List Zk
 | some (d,x)=>(.tup [.agg [(.d (J (Z8 d))),(.d (J (x-loP d b))),(.d (J 0)),(.d (.bool false)),.own 0],(.d (.bool true))],[.row 5 [] true false])
 | none=>(.tup [.agg [(.d (J 0)),(.d (J 0)),(.d (J 0)),(.d (.bool false)),.own 0],(.d (.bool false))],[.row 5 [] true false])
theorem ZrX (l:List L.Place) (bX bY bW bH:Int) (hb:VB (Box.mk bX bY bW bH)) (hl:l.length≤1000) (hc:∀ c∈l,VB c.Box):v_ 221 [(.d (.sl (l.map Place.enc))),(.d (.agg [J bX,J bY,J bW,J bH]))] []=some (Zto (Box.mk bX bY bW bH) (Zb1 l (Box.mk bX bY bW bH))):=by
 have ai:=hb;simp only[VB] at hb;have s1:=Zc7 bX bY bW bH true (by unfold R64;omega) (by unfold R64;omega);have s2:=Zc7 bX bY bW bH false (by unfold R64;omega) (by unfold R64;omega);have e1:=Zi1 l true bX (bX+bW) hl o_ o_ o_;have e2:=Zi1 l false bY (bY+bH) hl o_ o_ o_;rw[show (bX+bW-bX-1).toNat=(bW-1).toNat by omega] at e1;rw[show (bY+bH-bY-1).toNat=(bH-1).toNat by omega] at e2;simp only[loP,hiP,Kl,Ka,Km] at s1 s2;have aa:Zb1 l (Box.mk bX bY bW bH)=match Zeu true l bX (bW-1).toNat with
  | some x=>some (true,x)
  | none=>match Zeu false l bY (bH-1).toNat with
   | some y=>some (false,y)
   | none=>none:=rfl
 have C1:=fun x=>@Zev true l bX (bW-1).toNat x;have C2:=fun x=>@Zev false l bY (bH-1).toNat x;generalize Zeu true l bX (bW-1).toNat=K1 at e1 aa C1;generalize Zeu false l bY (bH-1).toNat=K2 at e2 aa C2;rw[aa];have ae:∀ i c,l[i]?=some c→(v_ 242 [.d c.Box.enc,(.d (.bool true))] []=some (.d (JA true c),[]))∧(v_ 242 [.d c.Box.enc,(.d (.bool false))] []=some (.d (JA false c),[])):=fun i c hx=>by
  have h:=hc c (Kb hx);obtain⟨P,T,⟨X,Y,W,H⟩⟩:=c;simp only[VB] at h;exact⟨Zc7 X Y W H true (by unfold R64;omega) (by unfold R64;omega),Zc7 X Y W H false (by unfold R64;omega) (by unfold R64;omega)⟩
 refine cE ?_;simp (maxSteps:=10^7) +contextual -implicitDefEqProofs only[go_sem,seval,ZlQ];refine ZB Xs Ms ?_;simp (maxSteps:=10^7) +contextual -implicitDefEqProofs only[go_sem,seval];refine Yh Xs Ms (st0:=?sa) (α:=Nat) (fun i=>[(22,.d (J (i:Int)))]) (fun i=>[(1,.row 2 ((l.take i).map (JA true)) true false)]) (fun i=>i≤l.length) (fun i=>l.length-i) 0 ?ha1 o_ ?ha2 ?ha3
 case ha1=>simp (maxSteps:=10^7) +contextual -implicitDefEqProofs only[go_sem,seval]<;>exact rfl
 case ha2=>rfl
 case ha3=>
  intro i hi ih;by_cases ab:i<l.length
  ·obtain⟨c,hx⟩:=Zp ab;have hw:=Zh (k:=i) o_;have ad:=(ae i c hx).1;have hm:(l.take (i+1)).map (JA true)=(l.take i).map (JA true)++[JA true c]:=by rw[KH,hx];simp
   have af:(l.take i).length≤i:=by simp;omega
   have hr:((l.take i).length+1)*16≤140737488355328∧(l.take i).length≤140737488355327:=o_
   obtain⟨P,T,⟨X,Y,W,H⟩⟩:=c;simp only[Box.enc,JA] at ad;simp (maxSteps:=10^7) +contextual -implicitDefEqProofs only[go_sem,seval,hx,ab,hw,ad,hr];refine ih (i+1) _ o_ o_ ?_;rw[hm];simp (maxSteps:=10^7) +contextual -implicitDefEqProofs only[go_sem,seval,JA]
  ·have:i=l.length:=o_
   subst this;rw[Kw (Kp _)];cases K1 with
   | some x=>
    have:=C1 x rfl;have w:=wi (x-bX) o_ o_;unfold ZqJ at e1;unfold Zto;simp only[loP,Kl,Z8] at e1 ⊢;simp (maxSteps:=10^7) +contextual -implicitDefEqProofs only[go_sem,seval,s1,e1,w]
   | none=>
    unfold ZqJ at e1;simp (maxSteps:=10^7) +contextual -implicitDefEqProofs only[go_sem,seval,s1,e1];refine ZB Xs Ms ?_;have ag:(1:Int)<((2:Nat):Int):=o_
    simp (maxSteps:=10^7) +contextual -implicitDefEqProofs only[go_sem,seval,ag];refine Yh Xs Ms (st0:=?sb) (α:=Nat) (fun i=>[(22,.d (J (i:Int)))]) (fun i=>[(1,.row 2 ((l.take i).map (JA false)) true false)]) (fun i=>i≤l.length) (fun i=>l.length-i) 0 ?hb1 o_ ?hb2 ?hb3
    case hb1=>simp (maxSteps:=10^7) +contextual -implicitDefEqProofs only[go_sem,seval]<;>exact rfl
    case hb2=>rfl
    case hb3=>
     intro i hi ih;by_cases ab:i<l.length
     ·obtain⟨c,hx⟩:=Zp ab;have hw:=Zh (k:=i) o_;have ad:=(ae i c hx).2;have hm:(l.take (i+1)).map (JA false)=(l.take i).map (JA false)++[JA false c]:=by rw[KH,hx];simp
      have af:(l.take i).length≤i:=by simp;omega
      have hr:((l.take i).length+1)*16≤140737488355328∧(l.take i).length≤140737488355327:=o_
      obtain⟨P,T,⟨X,Y,W,H⟩⟩:=c;simp only[Box.enc,JA] at ad;simp (maxSteps:=10^7) +contextual -implicitDefEqProofs only[go_sem,seval,hx,ab,hw,ad,hr];refine ih (i+1) _ o_ o_ ?_;rw[hm];simp (maxSteps:=10^7) +contextual -implicitDefEqProofs only[go_sem,seval,JA]
     ·have:i=l.length:=o_
      subst this;rw[Kw (Kp _)];cases K2 with
      | some x=>
       have:=C2 x rfl;have w:=wi (x-bY) o_ o_;unfold ZqJ at e2;unfold Zto;simp only[loP,Ka,Km,Z8] at e2 ⊢;simp (maxSteps:=10^7) +contextual -implicitDefEqProofs only[go_sem,seval,s2,e2,w]
      | none=>
       unfold ZqJ at e2;unfold Zto;simp (maxSteps:=10^7) +contextual -implicitDefEqProofs only[go_sem,seval,s2,e2];refine ZB Xs Ms ?_;have ah:¬(2:Int)<((2:Nat):Int):=o_
       simp (maxSteps:=10^7) +contextual -implicitDefEqProofs only[go_sem,seval,ah]
end Go.Proofs.YtfnegoimdljanaaGreatDoor
namespace Go.Proofs.YtfnegoimdljanaaGreatDoor
open Go Go.Abs Go.Abs.E Go.Abs.L
set_option maxRecDepth 20000
set_option maxHeartbeats 4000000
def Apt (l:List L.Place):Prop:=l.Pairwise fun a c=>¬XZ a.Box c.Box
theorem Zwd {l:List L.Place} {d:Bool} {t:Int} {f:Bool} (h:Apt l):Apt (X1 d l t f):=List.Pairwise.filter _ h
theorem ZBD {c:L.Place} {r:List L.Place} {b:Box} (ha:Apt (c :: r)) (hl:InL (c :: r) b) (h:c.Box=b):r=[]:=by
 cases r with
 | nil=>rfl
 | cons y r=>
  have h1:=(LY.1 ha).1 y (by simp);have h2:=hl y (by simp);have h3:=hl c (by simp);rw[h] at h1 h3;simp only[VB,QE,XZ] at h1 h2 h3;omega
theorem ZxV {l:List L.Place} {b:Box} {d:Bool} {x:Int} (hb:VB b) (h:InL l b) (hx:loP d b<x∧x<hiP d b) (hc:crs d l x=false):∀ c∈l,(VB c.Box∧VB (ZaF d b (x-loP d b))∧QE c.Box (ZaF d b (x-loP d b)))↔hiP d c.Box≤x:=fun c hm=>by
 have h1:=h c hm;have h2:=Zy1 hc c hm;have h3:=(ZoZ hb h hx hc).1.1;cases d
 ·simp only[loP,hiP,ZaF,Ka,Km] at hx h2 h3 ⊢;simp only[VB,QE] at h1 h3 ⊢;omega
 ·simp only[loP,hiP,ZaF,Kl] at hx h2 h3 ⊢;simp only[VB,QE] at h1 h3 ⊢;omega
theorem Zwe (bX bY bW bH:Int) (d:Bool) (a:Int) (hb:VB (Box.mk bX bY bW bH)) (ha:0≤a∧a≤400):v_ 222 [.d (.agg [J (Z8 d),J a,J 0,.bool false,.sl []]),(.d (.agg [J bX,J bY,J bW,J bH]))] []=some (.tup [.d (ZaF d (Box.mk bX bY bW bH) a).enc,.d (WP d (Box.mk bX bY bW bH) a).enc],[]):=by
 simp only[VB] at hb;have w1:=wi (bX+a) o_ o_;have w2:=wi (bY+a) o_ o_;have w3:=wi (bW-a) o_ o_;have w4:=wi (bH-a) o_ o_;cases d
 ·simp only[ZaF,WP,Box.enc,Z8,Ka,Km];refine cE ?_;simp (maxSteps:=10^7) +contextual -implicitDefEqProofs only[go_sem,seval,Jo,w1,w2,w3,w4]
 ·simp only[ZaF,WP,Box.enc,Z8,Kl];refine cE ?_;simp (maxSteps:=10^7) +contextual -implicitDefEqProofs only[go_sem,seval,Jo,w1,w2,w3,w4]
def plT:Option BT→AV×List Zk
 | some b=>match b.plan with
  | .mk o a q t ks=>(.tup [.agg [(.d (J o)),(.d (J a)),(.d (J q)),(.d (.bool t)),.own 0],(.d (.bool true))],[plO ks])
 | none=>(.tup [.agg [(.d (J 0)),(.d (J 0)),(.d (J 0)),(.d (.bool false)),.own 0],(.d (.bool false))],[.row 5 [] true false])
theorem ZqK (l:List L.Place) (bX bY bW bH:Int) (p q:Bool→Int→Option BT) (hb:VB (Box.mk bX bY bW bH)) (hl:InL l (Box.mk bX bY bW bH)) (aa:l.length≤1000)
  (h1:∀ d x,Zb1 l (Box.mk bX bY bW bH)=some (d,x)→v_ 126 [.d (.sl ((X1 d l x true).map Place.enc)),.d (ZaF d (Box.mk bX bY bW bH) (x-loP d (Box.mk bX bY bW bH))).enc] []=some (plT (p d x)))
  (h2:∀ d x,Zb1 l (Box.mk bX bY bW bH)=some (d,x)→v_ 126 [.d (.sl ((X1 d l x false).map Place.enc)),.d (WP d (Box.mk bX bY bW bH) (x-loP d (Box.mk bX bY bW bH))).enc] []=some (plT (q d x))) :
  v_ 184 [(.d (.sl (l.map Place.enc))),(.d (.agg [J bX,J bY,J bW,J bH]))] []=some (plT (match Zb1 l (Box.mk bX bY bW bH) with
   | some (d,x)=>Zf9 d (x-loP d (Box.mk bX bY bW bH)) (p d x) (q d x)
   | none=>none)):=by
 have ef:=ZrX l bX bY bW bH hb aa (fun c hc=>(hl c hc).1);cases hc:Zb1 l (Box.mk bX bY bW bH) with
 | none=>
  rw[hc] at ef;unfold Zto at ef;unfold plT;refine cE ?_;simp (maxSteps:=10^7) +contextual -implicitDefEqProofs only[go_sem,seval,Zd6,ef]
 | some dx=>
  obtain⟨d,x⟩:=dx;obtain⟨g1,g2,g3⟩:=Zfj hc;have af:=ZxV hb hl ⟨g1,g2⟩ g3;have k1:=h1 d x hc;have k2:=h2 d x hc;simp only[hc,Zto] at ef;simp only;have ae:0≤x-loP d (Box.mk bX bY bW bH)∧x-loP d (Box.mk bX bY bW bH)≤400:=by
   simp only[VB] at hb;cases d<;>simp only[loP,hiP,Kl,Ka,Km] at g1 g2 ⊢ <;> omega
  have es:=Zwe bX bY bW bH d (x-loP d (Box.mk bX bY bW bH)) hb ae;generalize x-loP d (Box.mk bX bY bW bH)=a at *;generalize p d x=p0 at k1 ⊢;generalize q d x=q0 at k2 ⊢;generalize ZaF d (Box.mk bX bY bW bH) a=lb at *;generalize WP d (Box.mk bX bY bW bH) a=hb' at *;clear h1 h2 ae g1 g2 g3 hc;obtain⟨lX,lY,lW,lH⟩:=lb;obtain⟨hX,hY,hW,hH⟩:=hb';simp only[Box.enc] at es k1 k2;refine cE ?_;simp (maxSteps:=10^7) +contextual -implicitDefEqProofs only[go_sem,seval,Zd6,ef,es];refine LO (α:=Nat) (fun i=>[(33,.d (J (i:Int)))]) (fun i=>[(0,.row 6 ((X1 d (l.take i) x false).map Place.enc) true false),(1,.row 6 ((X1 d (l.take i) x true).map Place.enc) true false)]) (fun i=>i≤l.length) (fun i=>l.length-i) 0 o_ ?_
  intro i hi ih;by_cases ab:i<l.length
  ·obtain⟨c,hx⟩:=Zp ab;have hw:=Zh (k:=i) o_;have pt:=ZjU (d:=d) (t:=x) (f:=true) hx;have pf:=ZjU (d:=d) (t:=x) (f:=false) hx;have ad:=af c (Kb hx);have ag:(X1 d (l.take i) x true).length≤i:=Ku (Kah _ _) (by simp;omega);have ah:(X1 d (l.take i) x false).length≤i:=Ku (Kah _ _) (by simp;omega);have rt:((X1 d (l.take i) x true).length+1)*48≤140737488355328∧(X1 d (l.take i) x true).length≤140737488355327:=o_
   have rf:((X1 d (l.take i) x false).length+1)*48≤140737488355328∧(X1 d (l.take i) x false).length≤140737488355327:=o_
   obtain⟨P,T,⟨X,Y,W,H⟩⟩:=c;have ei:=J6 X Y W H lX lY lW lH;simp only at pt pf ad;by_cases hh:hiP d ⟨X,Y,W,H⟩≤x
   ·rw[Kg (ad.2 hh)] at ei;rw[Kg hh] at pt pf;rw[Kj rfl] at pt;rw[Ke (by simp)] at pf;simp (maxSteps:=10^7) +contextual -implicitDefEqProofs only[go_sem,seval,hx,ab,hw,ei,rt];refine ih (i+1) _ o_ o_ ?_;rw[pt,pf];simp (maxSteps:=10^7) +contextual -implicitDefEqProofs only[go_sem,seval,KJ,KD]
   ·rw[Ki (fun h=>hh (ad.1 h))] at ei;rw[Ki hh] at pt pf;rw[Ke (by simp)] at pt;rw[Kj rfl] at pf;simp (maxSteps:=10^7) +contextual -implicitDefEqProofs only[go_sem,seval,hx,ab,hw,ei,rf];refine ih (i+1) _ o_ o_ ?_;rw[pt,pf];simp (maxSteps:=10^7) +contextual -implicitDefEqProofs only[go_sem,seval,KJ,KD]
  ·have:i=l.length:=o_
   subst this;rw[Kw (Kp _)];cases p0 with
   | none=>
    unfold plT at k1;simp only[Zf9];unfold plT;simp (maxSteps:=10^7) +contextual -implicitDefEqProofs only[go_sem,seval,k1]
   | some bp=>
    obtain⟨po,pa,pq,pt,pk,ep⟩:=Zb2 bp;simp only[plT,ep] at k1;cases q0 with
    | none=>
     unfold plT at k2;simp only[Zf9];unfold plT;cases pk with
     | nil=>
      simp only[plO] at k1;simp (maxSteps:=10^7) +contextual -implicitDefEqProofs only[go_sem,seval,k1,k2]
     | cons p1 pr=>
      simp only[plO] at k1;simp (maxSteps:=10^7) +contextual -implicitDefEqProofs only[go_sem,seval,k1,k2]
    | some bq=>
     obtain⟨qo,qa,qq,qt,qk,eq⟩:=Zb2 bq;simp only[plT,eq] at k2;simp only[Zf9,plT,BT.plan,ep,eq,plO];cases pk with
     | nil=>
      simp only[plO] at k1;cases qk with
      | nil=>
       simp only[plO] at k2;simp (maxSteps:=10^7) +contextual -implicitDefEqProofs only[go_sem,seval,k1,k2]
      | cons q1 qr=>
       simp only[plO] at k2;simp (maxSteps:=10^7) +contextual -implicitDefEqProofs only[go_sem,seval,k1,k2]
     | cons p1 pr=>
      simp only[plO] at k1;cases qk with
      | nil=>
       simp only[plO] at k2;simp (maxSteps:=10^7) +contextual -implicitDefEqProofs only[go_sem,seval,k1,k2]
      | cons q1 qr=>
       simp only[plO] at k2;simp (maxSteps:=10^7) +contextual -implicitDefEqProofs only[go_sem,seval,k1,k2]
theorem Zoi:∀ (n:Nat) (l:List L.Place) (bX bY bW bH:Int),VB (Box.mk bX bY bW bH)→InL l (Box.mk bX bY bW bH)→Apt l→(bW+bH).toNat≤n→l.length≤1000→v_ 126 [(.d (.sl (l.map Place.enc))),(.d (.agg [J bX,J bY,J bW,J bH]))] []=some (plT (YG n l (Box.mk bX bY bW bH))):=by
 intro n
 induction n with
 | zero=>
  intro l bX bY bW bH hb _ _ hn _;simp only[VB] at hb;omega
 | succ n IH=>
  intro l bX bY bW bH hb hl ha hn ab;cases l with
  | nil=>
   simp only[YG,plT,plO,BT.plan];refine cE ?_;simp (maxSteps:=10^7) +contextual -implicitDefEqProofs only[go_sem,seval,YV]
  | cons c r=>
   by_cases hp:c.Box=(Box.mk bX bY bW bH)
   ·have hr:=ZBD ha hl hp;subst hr;obtain⟨P,T,⟨X,Y,W,H⟩⟩:=c;simp only at hp;have ag:YG (n+1) [⟨P,T,⟨X,Y,W,H⟩⟩] (Box.mk bX bY bW bH)=some (.pane P T):=by rw[YG,Kj ⟨rfl,hp⟩]
    rw[ag];simp only[Box.mk.injEq] at hp;obtain⟨rfl,rfl,rfl,rfl⟩:=hp;simp only[plT,plO,BT.plan];refine cE ?_;simp (maxSteps:=10^7) +contextual -implicitDefEqProofs only[go_sem,seval,YV]
   ·have aa:=ZqK (c :: r) bX bY bW bH (fun d x=>YG n (X1 d (c :: r) x true) (ZaF d (Box.mk bX bY bW bH) (x-loP d (Box.mk bX bY bW bH)))) (fun d x=>YG n (X1 d (c :: r) x false) (WP d (Box.mk bX bY bW bH) (x-loP d (Box.mk bX bY bW bH)))) hb hl ab
     (fun d x h=>by
      obtain⟨h1,h2,h3⟩:=Zfj h;obtain⟨⟨g1,g2⟩,g3,g4⟩:=ZoZ hb hl ⟨h1,h2⟩ h3;obtain⟨s1,s2⟩:=ZqI hb ⟨h1,h2⟩;simp only at s1 s2;exact IH _ _ _ _ _ g1 g2 (Zwd ha) o_ (Ku (Zix _ _ _ _) ab))
     (fun d x h=>by
      obtain⟨h1,h2,h3⟩:=Zfj h;obtain⟨⟨g1,g2⟩,g3,g4⟩:=ZoZ hb hl ⟨h1,h2⟩ h3;obtain⟨s1,s2⟩:=ZqI hb ⟨h1,h2⟩;simp only at s1 s2;exact IH _ _ _ _ _ g3 g4 (Zwd ha) o_ (Ku (Zix _ _ _ _) ab))
    have hX:YG (n+1) (c :: r) (Box.mk bX bY bW bH)=match Zb1 (c :: r) (Box.mk bX bY bW bH) with
     | some (d,x)=>Zf9 d (x-loP d (Box.mk bX bY bW bH)) (YG n (X1 d (c :: r) x true) (ZaF d (Box.mk bX bY bW bH) (x-loP d (Box.mk bX bY bW bH)))) (YG n (X1 d (c :: r) x false) (WP d (Box.mk bX bY bW bH) (x-loP d (Box.mk bX bY bW bH))))
     | none=>none:=by rw[YG,Ke (fun h=>hp h.2)];try rfl
    rw[← hX] at aa;clear hX IH hl ha;generalize YG (n+1) (c :: r) (Box.mk bX bY bW bH)=X at aa ⊢;have ad:(c :: r)[0]?=some c:=rfl;have ae:¬(((c :: r).length:Nat):Int)=0:=by simp only[Kn];omega
    have af:0<(c :: r).length:=by simp
    generalize c :: r=l at *;obtain⟨P,T,⟨cX,cY,cW,cH⟩⟩:=c;simp only[Box.mk.injEq] at hp;cases X with
    | none=>
     unfold plT at aa ⊢;refine cE ?_;simp (maxSteps:=10^7) +contextual -implicitDefEqProofs only[go_sem,seval,YV,ae,af,ad,hp,aa]
    | some bq=>
     obtain⟨qo,qa,qq,qt,qk,eq⟩:=Zb2 bq;simp only[plT,eq] at aa ⊢;cases qk with
     | nil=>
      simp only[plO] at aa ⊢;refine cE ?_;simp (maxSteps:=10^7) +contextual -implicitDefEqProofs only[go_sem,seval,YV,ae,af,ad,hp,aa]
     | cons q1 qr=>
      simp only[plO] at aa ⊢;refine cE ?_;simp (maxSteps:=10^7) +contextual -implicitDefEqProofs only[go_sem,seval,YV,ae,af,ad,hp,aa]
def Zga (l:List Box):Prop:=l.Pairwise fun a c=>¬XZ a c
instance (l:List Box):Decidable (Zga l):=by unfold Zga;infer_instance
def Zb3 (k:Zt) (c:L.Place):Prop:=(VB c.Box∧QE c.Box ⟨0,0,k.W,k.H⟩)∧XD k.Panes c.Pane c.Turned c.Box.W c.Box.H=true
instance (k:Zt) (c:L.Place):Decidable (Zb3 k c):=by unfold Zb3;infer_instance
def VPl (k:Zt) (l:List L.Place):Prop:=(VW k∧l.length≤12)∧(∀ c∈l,Zb3 k c)∧Zga (l.map L.Place.Box)
instance (k:Zt) (l:List L.Place):Decidable (VPl k l):=by unfold VPl;infer_instance
theorem ZqL {a b:Box}:XZ a b↔XZ b a:=by unfold XZ;omega
theorem ZxW {l:List Box} {i:Nat} {x:Box} (hx:l[i]?=some x) (h:Zga (l.take i)) (hn:∀ y∈l.take i,¬XZ x y):Zga (l.take (i+1)):=by
 unfold Zga at h ⊢;rw[KH,hx,LP];exact⟨h,by simp,fun a ha b hb=>by simp at hb;subst hb;exact fun hm=>hn a ha (ZqL.1 hm)⟩
theorem ZAj {l:List Box} {i j:Nat} {x y:Box} (aa:j<i) (hx:l[i]?=some x) (hy:l[j]?=some y) (hm:XZ x y):¬Zga l:=fun h=>by
 obtain⟨h1,rfl⟩:=Kc.1 hx;obtain⟨h2,rfl⟩:=Kc.1 hy;exact(List.pairwise_iff_getElem.1 h) j i h2 h1 aa (ZqL.1 hm)
theorem Zoj (l:List Box) (hv:∀ b∈l,VB b) (hl:l.length≤24):v_ 220 [(.d (.sl (l.map Box.enc)))] []=some ((.d (.bool true)),[]):=by
 have ab:¬(24:Int)<(l.length:Int):=o_
 refine cE ?_;simp (maxSteps:=10^7) +contextual -implicitDefEqProofs only[go_sem,seval,ZhP,ab];refine LO (α:=Nat) (fun i=>[(10,.d (J (i:Int)))]) (fun _=>[]) (fun i=>i≤l.length) (fun i=>l.length-i) 0 o_ ?_;intro i hi ih;by_cases aa:i<l.length
 ·obtain⟨x,hx⟩:=Zp aa;have hw:=Zh (k:=i) o_;have hb:=hv x (Kb hx);obtain⟨X,Y,W,H⟩:=x;have e:=X0 X Y W H;rw[Kg hb] at e;simp (maxSteps:=10^7) +contextual -implicitDefEqProofs only[go_sem,seval,hx,aa,hw,e];refine ih (i+1) _ o_ o_ ?_;simp (maxSteps:=10^7) +contextual -implicitDefEqProofs only[go_sem,seval]
 ·simp (maxSteps:=10^7) +contextual -implicitDefEqProofs only[go_sem,seval,aa]
theorem Zok (l:List Box) (hv:∀ b∈l,VB b) (hl:l.length≤24):v_ 183 [(.d (.sl (l.map Box.enc)))] []=some ((.d (.bool (decide (Zga l)))),[]):=by
 have e1:=Zoj l hv hl;refine cE ?_;simp (maxSteps:=10^7) +contextual -implicitDefEqProofs only[go_sem,seval,ZhU,e1];refine LO (α:=Nat) (fun i=>[(14,.d (J (i:Int)))]) (fun _=>[]) (fun i=>i≤l.length∧Zga (l.take i)) (fun i=>l.length-i) 0 ⟨o_,by simp[Zga]⟩ ?_;intro i ⟨hi,hp⟩ ih;by_cases af:i<l.length
 ·obtain⟨x,hx⟩:=Zp af;have hw:=Zh (k:=i) o_;have hb:=hv x (Kb hx);have ai:i≤l.length:=hi;have ab:(l.take i).length=i:=by simp;omega
  have ad:=ZxW hx hp;obtain⟨X,Y,W,H⟩:=x;simp (maxSteps:=10^7) +contextual -implicitDefEqProofs only[go_sem,seval,hx,af,hw,ai];refine Yh Xs Ms (st0:=?st1) (α:=Nat) (fun j=>[(23,.d (J (j:Int)))]) (fun _=>[]) (fun j=>j≤i∧∀ y∈l.take j,¬XZ ⟨X,Y,W,H⟩ y) (fun j=>i-j) 0 ?hc2 ⟨o_,by simp⟩ ?h02 ?step2
  case hc2=>simp (maxSteps:=10^7) +contextual -implicitDefEqProofs only[go_sem,seval]<;>exact rfl
  case h02=>rfl
  case step2=>
   intro j ⟨hj,hq⟩ aj;by_cases aa:j<i
   ·obtain⟨y,hy⟩:=Zp (l:=l) (k:=j) o_;have ag:=Zh (k:=j) o_;have ak:=hv y (Kb hy);have ah:(l.take i)[j]?=some y:=by rw[List.getElem?_take_of_lt aa];exact hy
    have ae:=ZAj aa hx hy;have al:l.take (j+1)=l.take j++[y]:=by rw[KH,hy];simp
    obtain⟨X',Y',W',H'⟩:=y;by_cases hm:XZ ⟨X,Y,W,H⟩ ⟨X',Y',W',H'⟩
    ·have e:=Za9 X Y W H X' Y' W' H' hb ak hm;have hn:=ae hm;rw[Ki hn];simp (maxSteps:=10^7) +contextual -implicitDefEqProofs only[go_sem,seval,ah,aa,ab,ag,e,KB,Zf8]
    ·have e:=Zc6 X Y W H X' Y' W' H' (fun h=>hm h.2.2);simp (maxSteps:=10^7) +contextual -implicitDefEqProofs only[go_sem,seval,ah,aa,ab,ag,e,KB];refine aj (j+1) _ ⟨o_,?_⟩ o_ ?_
     ·rw[al];intro z hz;rcases Kh.1 hz with hz | hz
      ·exact hq z hz
      ·simp at hz;subst hz;exact hm
     ·simp (maxSteps:=10^7) +contextual -implicitDefEqProofs only[go_sem,seval,ab]
   ·have:j=i:=o_
    subst this;simp (maxSteps:=10^7) +contextual -implicitDefEqProofs only[go_sem,seval,aa,ab,hw,KB];refine ih (j+1) _ ⟨o_,ad hq⟩ o_ ?_;simp (maxSteps:=10^7) +contextual -implicitDefEqProofs only[go_sem,seval]
 ·have:i=l.length:=o_
  subst this;rw[Kw (Kp _)] at hp;rw[Kg hp];simp (maxSteps:=10^7) +contextual -implicitDefEqProofs only[go_sem,seval]
theorem ZmF (kW kH:Int) (kP:List Pane) (l:List L.Place):v_ 125 [(.d (.agg [J kW,J kH,.sl (kP.map Pane.enc)])),(.d (.sl (l.map Place.enc)))] []=some ((.d (.bool (decide (VPl (Zt.mk kW kH kP) l)))),[]):=by
 have ew:=V7 kW kH kP;by_cases hw:VW (Zt.mk kW kH kP)
 ·rw[Kg hw] at ew;by_cases af:(12:Int)<(l.length:Int)
  ·have hn:¬VPl (Zt.mk kW kH kP) l:=fun h=>by have:=h.1.2;omega
   refine cE ?_;simp (maxSteps:=10^7) +contextual -implicitDefEqProofs only[go_sem,seval,Ud,ew,af,hn]
  ·have es:=Zba kW kH kP;have ah:l.length≤12:=o_
   have ai:=hw;simp only[VW] at hw;have aj:VB ⟨0,0,kW,kH⟩:=by simp only[VB];omega
   refine cE ?_;simp (maxSteps:=10^7) +contextual -implicitDefEqProofs only[go_sem,seval,Ud,ew,af];refine LO (α:=Nat) (fun i=>[(19,.d (J (i:Int)))]) (fun i=>[(0,.row 4 (((l.take i).map L.Place.Box).map Box.enc) true false)]) (fun i=>i≤l.length∧∀ c∈l.take i,Zb3 (Zt.mk kW kH kP) c) (fun i=>l.length-i) 0 ⟨o_,by simp⟩ ?_;intro i ⟨hi,hp⟩ ih;by_cases aa:i<l.length
   ·obtain⟨c,hx⟩:=Zp aa;have ab:=Zh (k:=i) o_;have ag:l.take (i+1)=l.take i++[c]:=by rw[KH,hx];simp
    have ad:=Kb hx;have am:(l.take i).length≤i:=by simp;omega
    have hr:((l.take i).length+1)*32≤140737488355328∧(l.take i).length≤140737488355327:=o_
    have ae:¬Zb3 (Zt.mk kW kH kP) c→¬VPl (Zt.mk kW kH kP) l:=fun h h'=>h (h'.2.1 c ad);have ak:Zb3 (Zt.mk kW kH kP) c→∀ z∈l.take (i+1),Zb3 (Zt.mk kW kH kP) z:=fun h z hz=>by
     rw[ag] at hz;rcases Kh.1 hz with hz | hz
     ·exact hp z hz
     ·simp at hz;subst hz;exact h
    obtain⟨P,T,⟨X,Y,W,H⟩⟩:=c;have e1:=X0 X Y W H;have e2:=J6 X Y W H 0 0 kW kH;have e3:=Zg9 kW kH kP P T W H;by_cases v1:VB ⟨X,Y,W,H⟩
    ·rw[Kg v1] at e1;by_cases v2:VB ⟨X,Y,W,H⟩∧VB ⟨0,0,kW,kH⟩∧QE ⟨X,Y,W,H⟩ ⟨0,0,kW,kH⟩
     ·rw[Kg v2] at e2;cases v3:XD kP P T W H with
      | true=>
       rw[v3] at e3;have al:Zb3 (Zt.mk kW kH kP) ⟨P,T,⟨X,Y,W,H⟩⟩:=⟨⟨v1,v2.2.2⟩,v3⟩
       simp (maxSteps:=10^7) +contextual -implicitDefEqProofs only[go_sem,seval,hx,aa,ab,e1,e2,e3,es,hr];refine ih (i+1) _ ⟨o_,ak al⟩ o_ ?_;rw[ag,KJ];simp (maxSteps:=10^7) +contextual -implicitDefEqProofs only[go_sem,seval,KJ]
      | false=>
       rw[v3] at e3;have hn:=ae (fun h=>by have:=h.2;simp only at this;rw[v3] at this;cases this);rw[Ki hn];simp (maxSteps:=10^7) +contextual -implicitDefEqProofs only[go_sem,seval,hx,aa,ab,e1,e2,e3,es]
     ·rw[Ki v2] at e2;have hn:=ae (fun h=>v2 ⟨v1,aj,h.1.2⟩);rw[Ki hn];simp (maxSteps:=10^7) +contextual -implicitDefEqProofs only[go_sem,seval,hx,aa,ab,e1,e2,es]
    ·rw[Ki v1] at e1;have hn:=ae (fun h=>v1 h.1.1);rw[Ki hn];simp (maxSteps:=10^7) +contextual -implicitDefEqProofs only[go_sem,seval,hx,aa,ab,e1]
   ·have:i=l.length:=o_
    subst this;rw[Kw (Kp _)] at hp ⊢;have ea:=Zok (l.map L.Place.Box) (fun b hb=>by
     obtain⟨c,hc,rfl⟩:=Lk.1 hb;exact(hp c hc).1.1) (by simp;omega)
    simp (maxSteps:=10^7) +contextual -implicitDefEqProofs only[go_sem,seval,ea];exact ZaU ⟨fun h=>⟨⟨ai,ah⟩,hp,h⟩,fun h=>h.2.2⟩
 ·rw[Ki hw] at ew;have hn:¬VPl (Zt.mk kW kH kP) l:=fun h=>hw h.1.1;refine cE ?_;simp (maxSteps:=10^7) +contextual -implicitDefEqProofs only[go_sem,seval,Ud,ew,hn]
def popL (k:Zt) (l:List L.Place):Option BT:=if VPl k l then YG (k.W+k.H).toNat l ⟨0,0,k.W,k.H⟩ else none
theorem Ztp {k:Zt} {l:List L.Place} (h:VPl k l):VB ⟨0,0,k.W,k.H⟩∧InL l ⟨0,0,k.W,k.H⟩∧Apt l∧(∀ c∈l,XD k.Panes c.Pane c.Turned c.Box.W c.Box.H=true):=by
 obtain⟨⟨h1,h2⟩,h3,h4⟩:=h;refine⟨by simp only[VW] at h1;simp only[VB];omega,fun c hc=>(h3 c hc).1,?_,fun c hc=>(h3 c hc).2⟩;unfold Zga at h4;rw[List.pairwise_map] at h4;exact h4
theorem Zk9 (kW kH:Int) (kP:List Pane) (l:List L.Place):v_ 85 [(.d (.agg [J kW,J kH,.sl (kP.map Pane.enc)])),(.d (.sl (l.map Place.enc)))] []=some (plT (popL (Zt.mk kW kH kP) l)):=by
 have e1:=ZmF kW kH kP l;unfold popL;by_cases hv:VPl (Zt.mk kW kH kP) l
 ·obtain⟨h1,h2,h3,_⟩:=Ztp hv;rw[Kg hv] at e1;rw[Kj hv];have es:=Zba kW kH kP;have ep:=Zoi (kW+kH).toNat l 0 0 kW kH h1 h2 h3 (Kp _) (by have:=hv.1.2;omega);generalize YG (kW+kH).toNat l ⟨0,0,kW,kH⟩=X at ep ⊢;cases X with
  | none=>
   unfold plT at ep ⊢;refine cE ?_;simp (maxSteps:=10^7) +contextual -implicitDefEqProofs only[go_sem,seval,YW,e1,es,ep]
  | some b=>
   obtain⟨o,a,q,t,ks,eb⟩:=Zb2 b;simp only[plT,eb] at ep ⊢;cases ks with
   | nil=>
    simp only[plO] at ep ⊢;refine cE ?_;simp (maxSteps:=10^7) +contextual -implicitDefEqProofs only[go_sem,seval,YW,e1,es,ep]
   | cons k1 kr=>
    simp only[plO] at ep ⊢;refine cE ?_;simp (maxSteps:=10^7) +contextual -implicitDefEqProofs only[go_sem,seval,YW,e1,es,ep]
 ·rw[Ki hv] at e1;rw[Ke hv];unfold plT;refine cE ?_;simp (maxSteps:=10^7) +contextual -implicitDefEqProofs only[go_sem,seval,YW,e1]
theorem JR:∀ (b:BT),v_ 104 [.d b.plan.enc,.d b.plan.enc] []=some ((.d (.bool true)),[])
 | .waste=>by
  have nb:∀ a b:Bool,ZgQ .neq true (.d (.bool a)) (.d (.bool b))=Qp (.d (.bool (!(a==b)))):=fun _ _=>rfl;simp only[BT.plan,Zf.enc_mk];refine cE ?_;simp (maxSteps:=10^7) +contextual -implicitDefEqProofs only[go_sem,seval,Zah,nb,beq_self_eq_true];refine ZB Xs Ms ?_;simp (maxSteps:=10^7) +contextual -implicitDefEqProofs only[go_sem,seval]
 | .pane i t=>by
  have nb:∀ a b:Bool,ZgQ .neq true (.d (.bool a)) (.d (.bool b))=Qp (.d (.bool (!(a==b)))):=fun _ _=>rfl;simp only[BT.plan,Zf.enc_mk];refine cE ?_;simp (maxSteps:=10^7) +contextual -implicitDefEqProofs only[go_sem,seval,Zah,nb,beq_self_eq_true];refine ZB Xs Ms ?_;simp (maxSteps:=10^7) +contextual -implicitDefEqProofs only[go_sem,seval]
 | .cut d a l r=>by
  have nb:∀ a b:Bool,ZgQ .neq true (.d (.bool a)) (.d (.bool b))=Qp (.d (.bool (!(a==b)))):=fun _ _=>rfl;have e1:=JR l;have e2:=JR r;have c2:(1:Int)<((2:Nat):Int):=o_
  have c3:(0:Int)<((2:Nat):Int):=o_
  have c4:¬(2:Int)<((2:Nat):Int):=o_
  simp only[BT.plan,Zf.enc_mk];refine cE ?_;simp (maxSteps:=10^7) +contextual -implicitDefEqProofs only[go_sem,seval,Zah,nb,beq_self_eq_true];refine ZB Xs Ms ?_;simp (maxSteps:=10^7) +contextual -implicitDefEqProofs only[go_sem,seval,e1,c3];refine ZB Xs Ms ?_;simp (maxSteps:=10^7) +contextual -implicitDefEqProofs only[go_sem,seval,e2,c2];refine ZB Xs Ms ?_;simp (maxSteps:=10^7) +contextual -implicitDefEqProofs only[go_sem,seval,c4]
end Go.Proofs.YtfnegoimdljanaaGreatDoor
