/- Own text. -/
import Derived.Test.YtbpekaejmjlmfaaGreatACode
import Derived.Test.YtbpekaejmjlmfaaGreatAbsParts
import Derived.Test.YtbpekaejmjlmfaaGreatAC1
namespace Go.Proofs.YtbpekaejmjlmfaaGreat
open Go Go.Abs Go.Abs.E Go.Abs.L
open Nat (reduceMul reduceSub reduceLeDiff reduceEqDiff)
open Int (reduceLE reduceEq reduceToNat reduceNeg)
set_option linter.unusedSimpArgs false
set_option linter.unusedVariables false
set_option maxRecDepth 20000
set_option maxHeartbeats 4000000
def loP (d:Bool) (b:Box):Int:=if d then b.X else b.Y
def hiP (d:Bool) (b:Box):Int:=if d then b.X+b.W else b.Y+b.H
def tch (d:Bool) (l:List L.Place) (t:Int):Bool:=l.any fun c=>decide (t=loP d c.Box∨t=hiP d c.Box)
def crs (d:Bool) (l:List L.Place) (t:Int):Bool:=l.any fun c=>decide (loP d c.Box<t∧t<hiP d c.Box)
def WU (d:Bool) (l:List L.Place) (fr:Int):Nat→List Int
 | 0=>[]
 | n+1=>WU d l fr n++(if tch d l (fr+1+n)=true then [fr+1+(n:Int)] else [])
def Zff (d:Bool) (l:List L.Place) (fr:Int):Nat→Option Int
 | 0=>none
 | n+1=>match Zff d l fr n with
  | some x=>some x
  | none=>if tch d l (fr+1+n)=true∧crs d l (fr+1+n)=false then some (fr+1+(n:Int)) else none
def Ym (d:Bool) (l:List L.Place) (t:Int) (f:Bool):List L.Place:=l.filter fun c=>f==decide (hiP d c.Box≤t)
theorem ZvY {d:Bool} {l:List L.Place} {t:Int} {k:Nat} {c:L.Place} (hx:l[k]?=some c):tch d (l.take (k+1)) t=(tch d (l.take k) t || decide (t=loP d c.Box∨t=hiP d c.Box)):=by
 unfold tch;rw[Kw,hx,List.any_append];simp
theorem ZvZ {d:Bool} {l:List L.Place} {t:Int} {k:Nat} {c:L.Place} (hx:l[k]?=some c):crs d (l.take (k+1)) t=(crs d (l.take k) t || decide (loP d c.Box<t∧t<hiP d c.Box)):=by
 unfold crs;rw[Kw,hx,List.any_append];simp
theorem Zjx {d:Bool} {l:List L.Place} {t:Int} {f:Bool} {k:Nat} {c:L.Place} (hx:l[k]?=some c):Ym d (l.take (k+1)) t f=Ym d (l.take k) t f++(if f=decide (hiP d c.Box≤t) then [c] else []):=by
 unfold Ym;rw[Kw,hx,List.filter_append];by_cases h:f=decide (hiP d c.Box≤t)
 ·simp[h]
 ·rw[Ki h];have:(f==decide (hiP d c.Box≤t))=false:=by simpa using h
  simp[this]
theorem Zkv {d:Bool} {l:List L.Place} {fr:Int}:∀ {n:Nat} {x:Int},x∈WU d l fr n→fr<x∧x<fr+1+n
 | 0,x,h=>by simp[WU] at h
 | n+1,x,h=>by
  unfold WU at h;rcases Kf.1 h with h | h
  ·have:=Zkv h;omega
  ·split at h
   ·simp at h;omega
   ·simp at h
theorem Zim {d:Bool} {l:List L.Place} {fr:Int}:∀ (n:Nat),(WU d l fr n).length≤n
 | 0=>by simp[WU]
 | n+1=>by
  have:=Zim (d:=d) (l:=l) (fr:=fr) n;unfold WU;split<;>simp<;>omega
theorem Zjy {d:Bool} {l:List L.Place} {fr:Int}:∀ (n:Nat),(WU d l fr n).find? (fun x=>!crs d l x)=Zff d l fr n
 | 0=>rfl
 | n+1=>by
  unfold WU Zff;rw[List.find?_append,Zjy n];cases hc:Zff d l fr n with
  | some x=>rfl
  | none=>
   by_cases ht:tch d l (fr+1+n)=true
   ·rw[Kl ht];by_cases hx:crs d l (fr+1+n)=false
    ·rw[Kl ⟨ht,hx⟩];simp[hx]
    ·rw[Ki (fun h=>hx h.2)];simp only[Bool.not_eq_false] at hx;simp[hx]
   ·rw[Ki ht,Ki (fun h=>ht h.1)];rfl
theorem Zfg {d:Bool} {l:List L.Place} {fr:Int}:∀ {n:Nat} {x:Int},Zff d l fr n=some x→fr<x∧x<fr+1+n∧crs d l x=false∧tch d l x=true
 | 0,x,h=>by simp[Zff] at h
 | n+1,x,h=>by
  unfold Zff at h;split at h
  ·rename_i y hy;cases h;have:=Zfg hy;exact⟨this.1,by omega,this.2.2⟩
  ·split at h
   ·rename_i hc;cases h;exact⟨by omega,by omega,hc.2,hc.1⟩
   ·cases h
theorem Zi6:∀ (l:List Int) (k:Nat) (n:Int),n∉l→ZO k l n=-1
 | [],_,_,_=>rfl
 | x :: l,k,n,h=>by
  simp only[Kg,not_or] at h;unfold ZO;rw[Ki (fun e=>h.1 e.symm),Zi6 l (k+1) n h.2]
theorem Zi7:∀ (l:List Int) (k:Nat) (n:Int),n∈l→0≤ZO k l n
 | [],_,_,h=>by simp at h
 | x :: l,k,n,h=>by
  unfold ZO;split
  ·omega
  ·rename_i aa;rcases Kg.1 h with rfl | h
   ·exact absurd rfl aa
   ·exact Zi7 l (k+1) n h
def Zb9 (d:Bool) (b:Box) (a:Int):Box:=if d then ⟨b.X,b.Y,a,b.H⟩ else ⟨b.X,b.Y,b.W,a⟩
def U8 (d:Bool) (b:Box) (a:Int):Box:=if d then ⟨b.X+a,b.Y,b.W-a,b.H⟩ else ⟨b.X,b.Y+a,b.W,b.H-a⟩
def ZgV (d:Bool) (a:Int):Option BT→Option BT→Option BT
 | some p,some q=>some (.cut d a p q)
 | _,_=>none
def Zc6 (l:List L.Place) (b:Box):Option (Bool×Int):=match Zff true l b.X (b.W-1).toNat with
 | some x=>some (true,x)
 | none=>match Zff false l b.Y (b.H-1).toNat with
  | some y=>some (false,y)
  | none=>none
def Vh:Nat→List L.Place→Box→Option BT
 | 0,_,_=>none
 | n+1,l,b=>match l with
  | []=>some .waste
  | c :: r=>if r=[]∧c.Box=b then some (.pane c.Pane c.Turned) else match Zc6 (c :: r) b with
   | some (d,x)=>ZgV d (x-loP d b) (Vh n (Ym d (c :: r) x true) (Zb9 d b (x-loP d b))) (Vh n (Ym d (c :: r) x false) (U8 d b (x-loP d b)))
   | none=>none
def InL (l:List L.Place) (b:Box):Prop:=∀ c∈l,VB c.Box∧ZT c.Box b
theorem ZfJ {l:List L.Place} {b:Box} {d:Bool} {x:Int} (h:Zc6 l b=some (d,x)):loP d b<x∧x<hiP d b∧crs d l x=false:=by
 unfold Zc6 at h;split at h
 ·rename_i y hy;cases h;have:=Zfg hy;exact⟨this.1,by simp only[hiP,Kk];omega,this.2.2.1⟩
 ·split at h
  ·rename_i y hy;cases h;have:=Zfg hy;exact⟨this.1,by simp only[hiP,Ka,Kj];omega,this.2.2.1⟩
  ·cases h
theorem Zy2 {d:Bool} {l:List L.Place} {x:Int} (h:crs d l x=false):∀ c∈l,hiP d c.Box≤x∨x≤loP d c.Box:=fun c hc=>by
 have:=List.any_eq_false.1 h c hc;simp only[Kr] at this;omega
theorem Zop {l:List L.Place} {b:Box} {d:Bool} {x:Int} (hb:VB b) (h:InL l b) (hx:loP d b<x∧x<hiP d b) (hc:crs d l x=false) :
  (VB (Zb9 d b (x-loP d b))∧InL (Ym d l x true) (Zb9 d b (x-loP d b)))∧VB (U8 d b (x-loP d b))∧InL (Ym d l x false) (U8 d b (x-loP d b)):=by
 have hn:=Zy2 hc;cases d
 ·simp only[loP,hiP,Zb9,U8,Ka,Kj] at hx hn ⊢;simp only[VB] at hb;refine⟨⟨by simp only[VB];omega,fun c hm=>?_⟩,by simp only[VB];omega,fun c hm=>?_⟩
  ·obtain⟨h1,h2⟩:=LN.1 hm;have h3:=h c h1;simp only[hiP,Ka,Kj,beq_iff_eq] at h2;have h4:=of_decide_eq_true h2.symm;simp only[ZT] at h3 ⊢;exact⟨h3.1,by omega⟩
  ·obtain⟨h1,h2⟩:=LN.1 hm;have h3:=h c h1;have h5:=hn c h1;simp only[hiP,Ka,Kj,beq_iff_eq] at h2;have h4:=of_decide_eq_false h2.symm;simp only[ZT] at h3 ⊢;exact⟨h3.1,by omega⟩
 ·simp only[loP,hiP,Zb9,U8,Kk] at hx hn ⊢;simp only[VB] at hb;refine⟨⟨by simp only[VB];omega,fun c hm=>?_⟩,by simp only[VB];omega,fun c hm=>?_⟩
  ·obtain⟨h1,h2⟩:=LN.1 hm;have h3:=h c h1;simp only[hiP,Kk,beq_iff_eq] at h2;have h4:=of_decide_eq_true h2.symm;simp only[ZT] at h3 ⊢;exact⟨h3.1,by omega⟩
  ·obtain⟨h1,h2⟩:=LN.1 hm;have h3:=h c h1;have h5:=hn c h1;simp only[hiP,Kk,beq_iff_eq] at h2;have h4:=of_decide_eq_false h2.symm;simp only[ZT] at h3 ⊢;exact⟨h3.1,by omega⟩
def plV:Option BT→AV×List Zn
 | some b=>match b.plan with
  | .mk o a q t ks=>(.tup [.agg [(.d (J o)),(.d (J a)),(.d (J q)),(.d (.bool t)),.own 0],(.d (.bool true))],[.row 5 (ks.map Ze.enc) true false])
 | none=>(.tup [.agg [(.d (J 0)),(.d (J 0)),(.d (J 0)),(.d (.bool false)),.own 0],(.d (.bool false))],[.row 5 [] true false])
theorem ZmI (l:List L.Place) (d:Bool) (fr to:Int) (hl:l.length≤1000) (hc:∀ c∈l,VB c.Box) (h0:0≤fr) (h1:fr<to) (h2:to≤1000):Zd Xs Ms ZcK [(.d (.sl (l.map Place.enc))),(.d (J (Z9 d))),(.d (J fr)),(.d (J to))] []=some (.own 0,[.row 1 ((WU d l fr (to-fr-1).toNat).map Qg) true false]):=by
 have w0:=wi (fr+1) (by omega) (by omega);refine cE ?_;simp +contextual -implicitDefEqProofs (maxSteps:=10^7) only[go_sem,seval,↓gZ,Zio,w0];refine XP Xs Ms (st0:=?st0) (α:=Nat) (fun n=>[(10,.d (J (fr+1+(n:Int))))]) (fun n=>[(0,.row 1 ((WU d l fr n).map Qg) true false)]) (fun n=>(n:Int)≤to-fr-1) (fun n=>(to-fr-1).toNat-n) 0 ?hc (by omega) ?h0 ?step
 case hc=>simp +contextual -implicitDefEqProofs (maxSteps:=10^7) only[go_sem,seval,↓gZ]<;>exact rfl
 case h0=>simp only[WU,Kz,Int.natCast_zero,Int.add_zero];rfl
 case step=>
  intro n hn ih;by_cases ah:fr+1+(n:Int)<to
  ·have wt:=wi (fr+1+(n:Int)+1) (by omega) (by omega);have al:=Zim (d:=d) (l:=l) (fr:=fr) n;have ai:fr+1+(n:Int)∉WU d l fr n:=fun h=>by have:=Zkv h;omega
   have aj:fr+1+((n+1:Nat):Int)=fr+1+(n:Int)+1:=by omega
   have af:WU d l fr (n+1)=WU d l fr n++(if tch d l (fr+1+n)=true then [fr+1+(n:Int)] else []):=rfl;generalize ht:fr+1+(n:Int)=t at *;simp +contextual -implicitDefEqProofs (maxSteps:=10^7) only[go_sem,seval,↓gZ,ah];refine XP Xs Ms (st0:=?st1) (α:=Nat) (fun i=>[(11,.d (J (i:Int)))]) (fun i=>[(0,.row 1 ((WU d l fr n++(if tch d (l.take i) t=true then [t] else [])).map Qg) true false)]) (fun i=>i≤l.length) (fun i=>l.length-i) 0 ?hc2 (by omega) ?h02 ?step2
   case hc2=>simp +contextual -implicitDefEqProofs (maxSteps:=10^7) only[go_sem,seval,↓gZ]<;>exact rfl
   case h02=>
    have e:tch d (l.take 0) t=false:=by simp[tch]
    simp only[e,Ka,Kj,KJ];rfl
   case step2=>
    intro i hi ad;by_cases ab:i<l.length
    ·obtain⟨c,hx⟩:=Zl ab;have hw:=Zh (k:=i) (by omega);have aa:=ZvY (d:=d) (t:=t) hx;have ak:=hc c (Kb hx);obtain⟨P,T,⟨X,Y,W,H⟩⟩:=c;simp only[VB] at ak;simp only[loP,hiP] at aa;have wx:=wi (X+W) (by omega) (by omega);have wy:=wi (Y+H) (by omega) (by omega);have ae:=Zj7 (WU d l fr n++(if tch d (l.take i) t=true then [t] else [])) t (by split<;>simp<;>omega);by_cases hb:tch d (l.take i) t=true
     ·rw[Kl hb] at ae ⊢;have ag:=Zi7 (WU d l fr n++[t]) 0 t (by simp);generalize ZO 0 (WU d l fr n++[t]) t=z at ae ag;have hz:¬z<0:=by omega
      rw[hb,Kau] at aa;cases d with
      | true=>
       by_cases hm:t=X∨t=X+W
       ·simp +contextual -implicitDefEqProofs (maxSteps:=10^7) only[go_sem,seval,↓gZ,hx,ab,hw,wx,wy,Z9,hm,ae,hz,← K5];refine ad (i+1) _ (by omega) (by omega) ?_;rw[aa];simp +contextual -implicitDefEqProofs (maxSteps:=10^7) only[go_sem,seval,↓gZ,Z9]
       ·simp +contextual -implicitDefEqProofs (maxSteps:=10^7) only[go_sem,seval,↓gZ,hx,ab,hw,wx,wy,Z9,hm,← K5];refine ad (i+1) _ (by omega) (by omega) ?_;rw[aa];simp +contextual -implicitDefEqProofs (maxSteps:=10^7) only[go_sem,seval,↓gZ,Z9]
      | false=>
       by_cases hm:t=Y∨t=Y+H
       ·simp +contextual -implicitDefEqProofs (maxSteps:=10^7) only[go_sem,seval,↓gZ,hx,ab,hw,wx,wy,Z9,hm,ae,hz,← K5];refine ad (i+1) _ (by omega) (by omega) ?_;rw[aa];simp +contextual -implicitDefEqProofs (maxSteps:=10^7) only[go_sem,seval,↓gZ,Z9]
       ·simp +contextual -implicitDefEqProofs (maxSteps:=10^7) only[go_sem,seval,↓gZ,hx,ab,hw,wx,wy,Z9,hm,← K5];refine ad (i+1) _ (by omega) (by omega) ?_;rw[aa];simp +contextual -implicitDefEqProofs (maxSteps:=10^7) only[go_sem,seval,↓gZ,Z9]
     ·rw[Ki hb,KJ] at ae ⊢;rw[Zi6 _ _ _ ai] at ae;simp only[LB] at hb;rw[hb,Lv] at aa;have hr:((WU d l fr n).length+1)*8≤140737488355328∧(WU d l fr n).length≤140737488355327:=by omega
      cases d with
      | true=>
       simp only[Kk] at aa;by_cases hm:t=X∨t=X+W
       ·rw[Ke hm] at aa;simp +contextual -implicitDefEqProofs (maxSteps:=10^7) only[go_sem,seval,↓gZ,hx,ab,hw,wx,wy,Z9,hm,ae,hr,← K5];refine ad (i+1) _ (by omega) (by omega) ?_;rw[aa];simp +contextual -implicitDefEqProofs (maxSteps:=10^7) only[go_sem,seval,↓gZ,Z9,KG]
       ·rw[Kh hm] at aa;simp +contextual -implicitDefEqProofs (maxSteps:=10^7) only[go_sem,seval,↓gZ,hx,ab,hw,wx,wy,Z9,hm,← K5];refine ad (i+1) _ (by omega) (by omega) ?_;rw[aa];simp +contextual -implicitDefEqProofs (maxSteps:=10^7) only[go_sem,seval,↓gZ,Z9,KJ]
      | false=>
       simp only[Ka,Kj] at aa;by_cases hm:t=Y∨t=Y+H
       ·rw[Ke hm] at aa;simp +contextual -implicitDefEqProofs (maxSteps:=10^7) only[go_sem,seval,↓gZ,hx,ab,hw,wx,wy,Z9,hm,ae,hr,← K5];refine ad (i+1) _ (by omega) (by omega) ?_;rw[aa];simp +contextual -implicitDefEqProofs (maxSteps:=10^7) only[go_sem,seval,↓gZ,Z9,KG]
       ·rw[Kh hm] at aa;simp +contextual -implicitDefEqProofs (maxSteps:=10^7) only[go_sem,seval,↓gZ,hx,ab,hw,wx,wy,Z9,hm,← K5];refine ad (i+1) _ (by omega) (by omega) ?_;rw[aa];simp +contextual -implicitDefEqProofs (maxSteps:=10^7) only[go_sem,seval,↓gZ,Z9,KJ]
    ·have:i=l.length:=by omega
     subst this;rw[KB (Kq _)];rw[← af];simp +contextual -implicitDefEqProofs (maxSteps:=10^7) only[go_sem,seval,↓gZ,wt];refine ih (n+1) _ (by omega) (by omega) ?_;simp +contextual -implicitDefEqProofs (maxSteps:=10^7) only[go_sem,seval,↓gZ,aj]
  ·have:(to-fr-1).toNat=n:=by omega
   rw[this];simp +contextual -implicitDefEqProofs (maxSteps:=10^7) only[go_sem,seval,↓gZ,ah]
theorem ZCD {d:Bool} {l:List L.Place} {t:Int} {c:L.Place} (hc:c∈l) (h:loP d c.Box<t∧t<hiP d c.Box):crs d l t=true:=LQ.2 ⟨c,hc,Ke h⟩
def Zs3 (d:Bool) (l:List L.Place) (t:Int) (f:Bool):AV×List Zn:=if crs d l t=true then (.tup [.own 0,(.d (.bool false))],[.row 6 [] true false]) else (.tup [.own 0,(.d (.bool true))],[.row 6 ((Ym d l t f).map Place.enc) true false])
theorem Zpp (l:List L.Place) (d:Bool) (t:Int) (f:Bool) (hl:l.length≤1000) (hc:∀ c∈l,VB c.Box):Zd Xs Ms Zc9 [(.d (.sl (l.map Place.enc))),(.d (J (Z9 d))),(.d (J t)),(.d (.bool f))] []=some (Zs3 d l t f):=by
 have bb:∀ a b:Bool,ZjT .eql true (.d (.bool a)) (.d (.bool b))=QD (.d (.bool (a==b))):=fun _ _=>rfl;refine cE ?_;simp +contextual -implicitDefEqProofs (maxSteps:=10^7) only[go_sem,seval,↓gZ,Zhu];refine LO (α:=Nat) (fun i=>[(11,.d (J (i:Int)))]) (fun i=>[(0,.row 6 ((Ym d (l.take i) t f).map Place.enc) true false)]) (fun i=>i≤l.length∧crs d (l.take i) t=false) (fun i=>l.length-i) 0 ⟨by omega,by simp[crs]⟩ ?_;intro i ⟨hi,hp⟩ ih;by_cases ad:i<l.length
 ·obtain⟨c,hx⟩:=Zl ad;have hw:=Zh (k:=i) (by omega);have ab:=ZvZ (d:=d) (t:=t) hx;have aa:=Zjx (d:=d) (t:=t) (f:=f) hx;have ae:=@ZCD d l t c (Kb hx);have ag:=hc c (Kb hx);have ah:(Ym d (l.take i) t f).length≤i:=Kt (LL _ _) (by simp;omega);have hr:((Ym d (l.take i) t f).length+1)*48≤140737488355328∧(Ym d (l.take i) t f).length≤140737488355327:=by omega
  obtain⟨P,T,⟨X,Y,W,H⟩⟩:=c;simp only[VB] at ag;simp only[loP,hiP] at ab aa ae;have wx:=wi (X+W) (by omega) (by omega);have wy:=wi (Y+H) (by omega) (by omega);rw[hp,Lv] at ab;cases d with
  | true=>
   simp only[Kk] at ab aa ae;by_cases hm:X<t∧t<X+W
   ·have af:=ae hm;unfold Zs3;rw[Kl af];simp +contextual -implicitDefEqProofs (maxSteps:=10^7) only[go_sem,seval,↓gZ,hx,ad,hw,wx,wy,Z9,hm,← KV]
   ·rw[Kh hm] at ab;by_cases hf:f=decide (X+W≤t)
    ·have hg:(f==decide (X+W≤t))=true:=by rw[hf];simp
     rw[Kl hf] at aa;simp +contextual -implicitDefEqProofs (maxSteps:=10^7) only[go_sem,seval,↓gZ,hx,ad,hw,wx,wy,Z9,hm,bb,hg,hr,← KV];refine ih (i+1) _ ⟨by omega,ab⟩ (by omega) ?_;rw[aa];simp +contextual -implicitDefEqProofs (maxSteps:=10^7) only[go_sem,seval,↓gZ,Z9,KG]
    ·have hg:(f==decide (X+W≤t))=false:=by simpa using hf
     rw[Ki hf] at aa;simp +contextual -implicitDefEqProofs (maxSteps:=10^7) only[go_sem,seval,↓gZ,hx,ad,hw,wx,wy,Z9,hm,bb,hg,← KV];refine ih (i+1) _ ⟨by omega,ab⟩ (by omega) ?_;rw[aa];simp +contextual -implicitDefEqProofs (maxSteps:=10^7) only[go_sem,seval,↓gZ,Z9,KJ]
  | false=>
   simp only[Ka,Kj] at ab aa ae;by_cases hm:Y<t∧t<Y+H
   ·have af:=ae hm;unfold Zs3;rw[Kl af];simp +contextual -implicitDefEqProofs (maxSteps:=10^7) only[go_sem,seval,↓gZ,hx,ad,hw,wx,wy,Z9,hm,← KV]
   ·rw[Kh hm] at ab;by_cases hf:f=decide (Y+H≤t)
    ·have hg:(f==decide (Y+H≤t))=true:=by rw[hf];simp
     rw[Kl hf] at aa;simp +contextual -implicitDefEqProofs (maxSteps:=10^7) only[go_sem,seval,↓gZ,hx,ad,hw,wx,wy,Z9,hm,bb,hg,hr,← KV];refine ih (i+1) _ ⟨by omega,ab⟩ (by omega) ?_;rw[aa];simp +contextual -implicitDefEqProofs (maxSteps:=10^7) only[go_sem,seval,↓gZ,Z9,KG]
    ·have hg:(f==decide (Y+H≤t))=false:=by simpa using hf
     rw[Ki hf] at aa;simp +contextual -implicitDefEqProofs (maxSteps:=10^7) only[go_sem,seval,↓gZ,hx,ad,hw,wx,wy,Z9,hm,bb,hg,← KV];refine ih (i+1) _ ⟨by omega,ab⟩ (by omega) ?_;rw[aa];simp +contextual -implicitDefEqProofs (maxSteps:=10^7) only[go_sem,seval,↓gZ,Z9,KJ]
 ·have:i=l.length:=by omega
  subst this;rw[KB (Kq _)] at hp;unfold Zs3;rw[Ki (by rw[hp];simp)];simp +contextual -implicitDefEqProofs (maxSteps:=10^7) only[go_sem,seval,↓gZ,Lo]
theorem ZxD (A B:List L.Place) (bX bY bW bH:Int) (d:Bool) (a:Int) (l r:Option BT) (hb:VB (Box.mk bX bY bW bH)) (ha:0≤a∧a≤400)
  (hl:Zd Xs Ms Qb [(.d (.sl (A.map Place.enc))),.d (Zb9 d (Box.mk bX bY bW bH) a).enc] []=some (plV l))
  (hr:Zd Xs Ms Qb [(.d (.sl (B.map Place.enc))),.d (U8 d (Box.mk bX bY bW bH) a).enc] []=some (plV r)) :
  Zd Xs Ms Yp [(.d (.sl (A.map Place.enc))),(.d (.sl (B.map Place.enc))),(.d (.agg [J bX,J bY,J bW,J bH])),(.d (J (Z9 d))),(.d (J a))] []=some (plV (ZgV d a l r)):=by
 simp only[VB] at hb;have w1:=wi (bX+a) (by omega) (by omega);have w2:=wi (bY+a) (by omega) (by omega);have w3:=wi (bW-a) (by omega) (by omega);have w4:=wi (bH-a) (by omega) (by omega);have aa:∀ b:BT,∃ o a q t ks,b.plan=.mk o a q t ks:=fun b=>by cases b.plan;exact⟨_,_,_,_,_,rfl⟩
 cases l with
 | none=>
  cases r with
  | none=>
   simp only[ZgV,plV] at hl hr ⊢;cases d<;>simp only[Zb9,U8,Box.enc,Z9,Kk,Ka,Kj] at hl hr ⊢
   ·refine cE ?_;simp +contextual -implicitDefEqProofs (maxSteps:=10^7) only[go_sem,seval,↓gZ,QK,w1,w2,w3,w4,hl,hr]
   ·refine cE ?_;simp +contextual -implicitDefEqProofs (maxSteps:=10^7) only[go_sem,seval,↓gZ,QK,w1,w2,w3,w4,hl,hr]
  | some q=>
   obtain⟨ro,ra,rq,rt,rk,er⟩:=aa q;simp only[ZgV,plV,er] at hl hr ⊢;cases d<;>simp only[Zb9,U8,Box.enc,Z9,Kk,Ka,Kj] at hl hr ⊢
   ·refine cE ?_;simp +contextual -implicitDefEqProofs (maxSteps:=10^7) only[go_sem,seval,↓gZ,QK,w1,w2,w3,w4,hl,hr]
   ·refine cE ?_;simp +contextual -implicitDefEqProofs (maxSteps:=10^7) only[go_sem,seval,↓gZ,QK,w1,w2,w3,w4,hl,hr]
 | some p=>
  obtain⟨lo,la,lq,lt,lk,el⟩:=aa p;cases r with
  | none=>
   simp only[ZgV,plV,el] at hl hr ⊢;cases d<;>simp only[Zb9,U8,Box.enc,Z9,Kk,Ka,Kj] at hl hr ⊢
   ·refine cE ?_;simp +contextual -implicitDefEqProofs (maxSteps:=10^7) only[go_sem,seval,↓gZ,QK,w1,w2,w3,w4,hl,hr]
   ·refine cE ?_;simp +contextual -implicitDefEqProofs (maxSteps:=10^7) only[go_sem,seval,↓gZ,QK,w1,w2,w3,w4,hl,hr]
  | some q=>
   obtain⟨ro,ra,rq,rt,rk,er⟩:=aa q;simp only[ZgV,plV,BT.plan,el,er] at hl hr ⊢;cases d<;>simp only[Zb9,U8,Box.enc,Z9,Kk,Ka,Kj] at hl hr ⊢
   ·refine cE ?_;simp +contextual -implicitDefEqProofs (maxSteps:=10^7) only[go_sem,seval,↓gZ,QK,w1,w2,w3,w4,hl,hr]
   ·refine cE ?_;simp +contextual -implicitDefEqProofs (maxSteps:=10^7) only[go_sem,seval,↓gZ,QK,w1,w2,w3,w4,hl,hr]
theorem Zs4 {l:List Int} {p:Int→Bool} {k:Nat} {x:Int} (hx:l[k]?=some x):(l.drop k).find? p=if p x=true then some x else (l.drop (k+1)).find? p:=by
 obtain⟨h1,h2⟩:=Kc.1 hx;rw[Ku h1,h2,List.find?_cons];cases p x<;>rfl
theorem ZzU {n:Nat} {c:L.Place} {r:List L.Place} {b:Box} {d:Bool} {x:Int} (hn:¬(r=[]∧c.Box=b)) (h:Zc6 (c :: r) b=some (d,x)) :
  Vh (n+1) (c :: r) b=ZgV d (x-loP d b) (Vh n (Ym d (c :: r) x true) (Zb9 d b (x-loP d b))) (Vh n (Ym d (c :: r) x false) (U8 d b (x-loP d b))):=by
 rw[Vh,Ki hn,h]
theorem ZBg {n:Nat} {c:L.Place} {r:List L.Place} {b:Box} (hn:¬(r=[]∧c.Box=b)) (h:Zc6 (c :: r) b=none):Vh (n+1) (c :: r) b=none:=by
 rw[Vh,Ki hn,h]
theorem Zc7 (b:BT):∃ o a q t ks,b.plan=.mk o a q t ks:=by cases b.plan;exact⟨_,_,_,_,_,rfl⟩
theorem Zpq {b:Box} {d:Bool} {x:Int} (hb:VB b) (hx:loP d b<x∧x<hiP d b) :
  ((Zb9 d b (x-loP d b)).W+(Zb9 d b (x-loP d b)).H).toNat<(b.W+b.H).toNat∧((U8 d b (x-loP d b)).W+(U8 d b (x-loP d b)).H).toNat<(b.W+b.H).toNat:=by
 simp only[VB] at hb;cases d<;>simp only[loP,hiP,Zb9,U8,Kk,Ka,Kj] at hx ⊢ <;> omega
theorem Zin (d:Bool) (l:List L.Place) (t:Int) (f:Bool):(Ym d l t f).length≤l.length:=LL _ _
theorem ZrN:∀ (n:Nat) (l:List L.Place) (bX bY bW bH:Int),VB (Box.mk bX bY bW bH)→InL l (Box.mk bX bY bW bH)→(bW+bH).toNat≤n→l.length≤1000→Zd Xs Ms Qb [(.d (.sl (l.map Place.enc))),(.d (.agg [J bX,J bY,J bW,J bH]))] []=some (plV (Vh n l (Box.mk bX bY bW bH))):=by
 intro n
 induction n with
 | zero=>
  intro l bX bY bW bH hb _ hn _;simp only[VB] at hb;omega
 | succ n IH=>
  intro l bX bY bW bH hb hl hn aa;cases l with
  | nil=>
   simp only[Vh,plV,BT.plan,Kz];refine cE ?_;simp +contextual -implicitDefEqProofs (maxSteps:=10^7) only[go_sem,seval,↓gZ,YU]
  | cons c r=>
   have ah:∀ y∈c :: r,VB y.Box:=fun y hy=>(hl y hy).1;by_cases hp:r=[]∧c.Box=(Box.mk bX bY bW bH)
   ·obtain⟨rfl,ai⟩:=hp;obtain⟨P,T,⟨X,Y,W,H⟩⟩:=c;simp only at ai;have ar:Vh (n+1) [⟨P,T,⟨X,Y,W,H⟩⟩] (Box.mk bX bY bW bH)=some (.pane P T):=by rw[Vh,Kl ⟨rfl,ai⟩]
    rw[ar];simp only[Box.mk.injEq] at ai;obtain⟨rfl,rfl,rfl,rfl⟩:=ai;simp only[plV,BT.plan];refine cE ?_;simp +contextual -implicitDefEqProofs (maxSteps:=10^7) only[go_sem,seval,↓gZ,YU]
   ·have aj:=hb;simp only[VB] at hb;have an:(r=[]→¬(c.Box.X=bX∧c.Box.Y=bY∧c.Box.W=bW∧c.Box.H=bH)):=fun e h=>hp ⟨e,by cases hcB:c.Box;rw[hcB] at h;obtain⟨h1,h2,h3,h4⟩:=h;simp only at h1 h2 h3 h4;rw[h1,h2,h3,h4]⟩;have e1:=ZmI (c :: r) true bX (bX+bW);have e2:=ZmI (c :: r) false bY (bY+bH);have ak:∀ d x,Zc6 (c :: r) (Box.mk bX bY bW bH)=some (d,x)→Zd Xs Ms Yp [.d (.sl ((Ym d (c :: r) x true).map Place.enc)),.d (.sl ((Ym d (c :: r) x false).map Place.enc)),(.d (.agg [J bX,J bY,J bW,J bH])),(.d (J (Z9 d))),(.d (J (x-loP d (Box.mk bX bY bW bH))))] []=some (plV (Vh (n+1) (c :: r) (Box.mk bX bY bW bH))):=fun d x h=>by
     obtain⟨h1,h2,h3⟩:=ZfJ h;obtain⟨⟨g1,g2⟩,g3,g4⟩:=Zop aj hl ⟨h1,h2⟩ h3;obtain⟨s1,s2⟩:=Zpq aj ⟨h1,h2⟩;rw[ZzU hp h];simp only at s1 s2;refine ZxD _ _ bX bY bW bH d _ _ _ aj (by cases d<;>simp only[loP,hiP,Kk,Ka,Kj] at h1 h2 ⊢ <;> omega) ?_ ?_
     ·exact IH _ _ _ _ _ g1 g2 (by omega) (Kt (Zin _ _ _ _) aa)
     ·exact IH _ _ _ _ _ g3 g4 (by omega) (Kt (Zin _ _ _ _) aa)
    have pT:=fun d t=>Zpp (c :: r) d t true aa ah;have pF:=fun d t=>Zpp (c :: r) d t false aa ah;have w1:=wi (bX+bW) (by omega) (by omega);have w2:=wi (bY+bH) (by omega) (by omega);have au:(bX+bW-bX-1).toNat=(bW-1).toNat:=by omega
    have av:(bY+bH-bY-1).toNat=(bH-1).toNat:=by omega
    have E1:=e1 aa ah (by omega) (by omega) (by omega);have E2:=e2 aa ah (by omega) (by omega) (by omega);rw[au] at E1;rw[av] at E2;have F1:=Zjy (d:=true) (l:=c :: r) (fr:=bX) (bW-1).toNat;have F2:=Zjy (d:=false) (l:=c :: r) (fr:=bY) (bH-1).toNat;have L1:=Zim (d:=true) (l:=c :: r) (fr:=bX) (bW-1).toNat;have L2:=Zim (d:=false) (l:=c :: r) (fr:=bY) (bH-1).toNat;have B1:=fun x=>@Zkv true (c :: r) bX (bW-1).toNat x;have B2:=fun x=>@Zkv false (c :: r) bY (bH-1).toNat x;generalize az:WU true (c :: r) bX (bW-1).toNat=G1 at E1 F1 L1 B1;generalize a0:WU false (c :: r) bY (bH-1).toNat=G2 at E2 F2 L2 B2;have ae:Zc6 (c :: r) (Box.mk bX bY bW bH)=match G1.find? (fun x=>!crs true (c :: r) x) with
     | some x=>some (true,x)
     | none=>match G2.find? (fun x=>!crs false (c :: r) x) with
      | some y=>some (false,y)
      | none=>none:=by unfold Zc6;rw[F1,F2]<;>rfl
    have ao:=@ZBg n c r (Box.mk bX bY bW bH) hp;generalize hX:Vh (n+1) (c :: r) (Box.mk bX bY bW bH)=X at ak ao ⊢;clear hX F1 F2 e1 e2 IH hl;generalize hl:c :: r=l at *;have ap:1≤l.length:=by rw[← hl];simp
    have aw:¬(l.length:Int)=0:=by omega
    have al:l[0]?=some c:=by rw[← hl];rfl
    have af:(l.length:Int)=1→¬(c.Box.X=bX∧c.Box.Y=bY∧c.Box.W=bW∧c.Box.H=bH):=fun h=>an (by
     rw[← hl] at h;cases r with
     | nil=>rfl
     | cons y r=>simp only[Km] at h;omega)
    clear hl an hp;obtain⟨P,T,⟨cX,cY,cW,cH⟩⟩:=c;simp only at af;have am : 0<l.length:=by omega
    have ag:¬((l.length:Int)=1∧cX=bX∧cY=bY∧cW=bW∧cH=bH):=fun h=>af h.1 h.2;simp only[Z9,Kk,Ka,Kj] at E1 E2;refine cE ?_;simp +contextual -implicitDefEqProofs (maxSteps:=10^7) only[go_sem,seval,↓gZ,YU,aw,al,am,ag,← KV];refine ZN Xs Ms ?_;simp +contextual -implicitDefEqProofs (maxSteps:=10^7) only[go_sem,seval,↓gZ,w1,E1];refine XP Xs Ms (st0:=?sa) (α:=Nat) (fun i=>[(10,.d (J (i:Int)))]) (fun _=>[]) (fun i=>i≤G1.length∧(G1.drop i).find? (fun x=>!crs true l x)=G1.find? (fun x=>!crs true l x)) (fun i=>G1.length-i) 0 ?ha1 ⟨by omega,by simp⟩ ?ha2 ?ha3
    case ha1=>simp +contextual -implicitDefEqProofs (maxSteps:=10^7) only[go_sem,seval,↓gZ]<;>exact rfl
    case ha2=>rfl
    case ha3=>
     intro i ⟨hi,hq⟩ ih;by_cases ab:i<G1.length
     ·obtain⟨x,hx⟩:=Zl ab;have hw:=Zh (k:=i) (by omega);rw[Zs4 hx] at hq;have ax:=B1 x (Kb hx);have w3:=wi (x-bX) (by omega) (by omega);have p1:=pT true x;have p2:=pF true x;unfold Zs3 at p1 p2;by_cases ad:crs true l x=true
      ·rw[Kl ad] at p1;rw[Ki (by simp[ad])] at hq;simp only[Z9,Kk,Ka,Kj] at p1;simp +contextual -implicitDefEqProofs (maxSteps:=10^7) only[go_sem,seval,↓gZ,ab,hx,hw,p1];refine ih (i+1) _ ⟨by omega,hq⟩ (by omega) ?_;simp +contextual -implicitDefEqProofs (maxSteps:=10^7) only[go_sem,seval,↓gZ]
      ·rw[Ki ad] at p1 p2;rw[Kl (by simpa using ad)] at hq;have hb1:=ak true x (by rw[ae,← hq]);simp only[Z9,loP,Kk,Ka,Kj] at p1 p2 hb1;cases X with
       | none=>
        unfold plV at hb1 ⊢;simp +contextual -implicitDefEqProofs (maxSteps:=10^7) only[go_sem,seval,↓gZ,ab,hx,hw,p1,p2,w3,hb1]
       | some q=>
        obtain⟨qo,qa,qq,qt,qk,eq⟩:=Zc7 q;simp only[plV,eq] at hb1 ⊢;simp +contextual -implicitDefEqProofs (maxSteps:=10^7) only[go_sem,seval,↓gZ,ab,hx,hw,p1,p2,w3,hb1]
     ·have:i=G1.length:=by omega
      subst this;have aq:G1.find? (fun x=>!crs true l x)=none:=by rw[← hq];simp
      simp +contextual -implicitDefEqProofs (maxSteps:=10^7) only[go_sem,seval,↓gZ];refine ZN Xs Ms ?_;simp +contextual -implicitDefEqProofs (maxSteps:=10^7) only[go_sem,seval,↓gZ,w1,w2,E2];refine XP Xs Ms (st0:=?sb) (α:=Nat) (fun i=>[(10,.d (J (i:Int)))]) (fun _=>[]) (fun i=>i≤G2.length∧(G2.drop i).find? (fun x=>!crs false l x)=G2.find? (fun x=>!crs false l x)) (fun i=>G2.length-i) 0 ?hb1 ⟨by omega,by simp⟩ ?hb2 ?hb3
      case hb1=>simp +contextual -implicitDefEqProofs (maxSteps:=10^7) only[go_sem,seval,↓gZ]<;>exact rfl
      case hb2=>rfl
      case hb3=>
       intro i ⟨hi,hq⟩ ih;by_cases ab:i<G2.length
       ·obtain⟨x,hx⟩:=Zl ab;have hw:=Zh (k:=i) (by omega);rw[Zs4 hx] at hq;have ax:=B2 x (Kb hx);have w3:=wi (x-bY) (by omega) (by omega);have p1:=pT false x;have p2:=pF false x;unfold Zs3 at p1 p2;by_cases ad:crs false l x=true
        ·rw[Kl ad] at p1;rw[Ki (by simp[ad])] at hq;simp only[Z9,Kk,Ka,Kj] at p1;simp +contextual -implicitDefEqProofs (maxSteps:=10^7) only[go_sem,seval,↓gZ,ab,hx,hw,p1];refine ih (i+1) _ ⟨by omega,hq⟩ (by omega) ?_;simp +contextual -implicitDefEqProofs (maxSteps:=10^7) only[go_sem,seval,↓gZ]
        ·rw[Ki ad] at p1 p2;rw[Kl (by simpa using ad)] at hq;have hb1:=ak false x (by rw[ae,aq,← hq]);simp only[Z9,loP,Kk,Ka,Kj] at p1 p2 hb1;cases X with
         | none=>
          unfold plV at hb1 ⊢;simp +contextual -implicitDefEqProofs (maxSteps:=10^7) only[go_sem,seval,↓gZ,ab,hx,hw,p1,p2,w3,hb1]
         | some q=>
          obtain⟨qo,qa,qq,qt,qk,eq⟩:=Zc7 q;simp only[plV,eq] at hb1 ⊢;simp +contextual -implicitDefEqProofs (maxSteps:=10^7) only[go_sem,seval,↓gZ,ab,hx,hw,p1,p2,w3,hb1]
       ·have:i=G2.length:=by omega
        subst this;have ay:G2.find? (fun x=>!crs false l x)=none:=by rw[← hq];simp
        have hX:=ao (by rw[ae,aq,ay]);subst hX;unfold plV;have w4:=wi 4 (by omega) (by omega);simp +contextual -implicitDefEqProofs (maxSteps:=10^7) only[go_sem,seval,↓gZ,w4];refine ZN Xs Ms ?_;simp +contextual -implicitDefEqProofs (maxSteps:=10^7) only[go_sem,seval,↓gZ]
def Zbb (d:Bool) (c:L.Place):D:=.agg [J (loP d c.Box),J (hiP d c.Box)]
@[go_sem] theorem uni_span (d:Bool) (l:List L.Place):uni 2 (l.map (Zbb d))=True:=eq_true (ZaT l fun _=>rfl)
@[go_sem] theorem flat_span (d:Bool) (l:List L.Place):Q7 (l.map (Zbb d))=True:=eq_true (Zb2 l fun _=>rfl)
theorem Zd5 (bX bY bW bH:Int) (d:Bool) (h1:R64 (bX+bW)) (h2:R64 (bY+bH)):Zd Xs Ms W7 [(.d (.agg [J bX,J bY,J bW,J bH])),(.d (.bool d))] []=some (.d (.agg [J (loP d (Box.mk bX bY bW bH)),J (hiP d (Box.mk bX bY bW bH))]),[]):=by
 have w1:=wi (bX+bW) h1.1 h1.2;have w2:=wi (bY+bH) h2.1 h2.2;cases d
 ·simp only[loP,hiP,Ka,Kj];refine cE ?_;simp +contextual -implicitDefEqProofs (maxSteps:=10^7) only[go_sem,seval,↓gZ,Zf7,w1,w2]
 ·simp only[loP,hiP,Kk];refine cE ?_;simp +contextual -implicitDefEqProofs (maxSteps:=10^7) only[go_sem,seval,↓gZ,Zf7,w1,w2]
def ZxE:Option Int→AV×List Zn
 | some x=>(.tup [(.d (J x)),(.d (.bool true))],[])
 | none=>(.tup [(.d (J 0)),(.d (.bool false))],[])
theorem Zi8 (l:List L.Place) (d:Bool) (fr to:Int) (hl:l.length≤1000) (h0:0≤fr) (h1:fr<to) (h2:to≤1000):Zd Xs Ms ZaA [.d (.sl (l.map (Zbb d))),.d (.agg [J fr,J to])] []=some (ZxE (Zff d l fr (to-fr-1).toNat)):=by
 have w0:=wi (fr+1) (by omega) (by omega);refine cE ?_;simp +contextual -implicitDefEqProofs (maxSteps:=10^7) only[go_sem,seval,↓gZ,Zf8,w0];refine XP Xs Ms (st0:=?st0) (α:=Nat) (fun n=>[(6,.d (J (fr+1+(n:Int))))]) (fun _=>[]) (fun n=>(n:Int)≤to-fr-1∧Zff d l fr n=none) (fun n=>(to-fr-1).toNat-n) 0 ?hc ⟨by omega,rfl⟩ ?h0 ?step
 case hc=>simp +contextual -implicitDefEqProofs (maxSteps:=10^7) only[go_sem,seval,↓gZ]<;>exact rfl
 case h0=>simp only[Int.natCast_zero,Int.add_zero];rfl
 case step=>
  intro n ⟨hn,hp⟩ ih;by_cases ak:fr+1+(n:Int)<to
  ·have wt:=wi (fr+1+(n:Int)+1) (by omega) (by omega);have al:fr+1+((n+1:Nat):Int)=fr+1+(n:Int)+1:=by omega
   have aa:Zff d l fr (n+1)=if tch d l (fr+1+n)=true∧crs d l (fr+1+n)=false then some (fr+1+(n:Int)) else none:=by rw[Zff,hp]
   have ag:∀ k,Zff d l fr (n+1)=some (fr+1+(n:Int))→Zff d l fr (n+1+k)=some (fr+1+(n:Int)):=by
    intro k h
    induction k with
    | zero=>exact h
    | succ k ihk=>rw[show n+1+(k+1)=(n+1+k)+1 by omega,Zff,ihk]
   have hk:(to-fr-1).toNat=n+1+((to-fr-1).toNat-(n+1)):=by omega
   generalize ht:fr+1+(n:Int)=t at *;simp +contextual -implicitDefEqProofs (maxSteps:=10^7) only[go_sem,seval,↓gZ,ak];refine XP Xs Ms (st0:=?st1) (α:=Nat) (fun i=>[(22,.d (J (i:Int))),(8,.d (.bool (crs d (l.take i) t))),(7,.d (.bool (tch d (l.take i) t)))]) (fun _=>[]) (fun i=>i≤l.length) (fun i=>l.length-i) 0 ?hc2 (by omega) ?h02 ?step2
   case hc2=>simp +contextual -implicitDefEqProofs (maxSteps:=10^7) only[go_sem,seval,↓gZ]<;>exact rfl
   case h02=>rfl
   case step2=>
    intro i hi aj;by_cases ah:i<l.length
    ·obtain⟨c,hx⟩:=Zl ah;have hw:=Zh (k:=i) (by omega);have ae:=ZvY (d:=d) (t:=t) hx;have ab:=ZvZ (d:=d) (t:=t) hx;have af:(l.map (Zbb d))[i]?=some (.agg [J (loP d c.Box),J (hiP d c.Box)]):=by rw[Lc,hx];rfl
     generalize loP d c.Box=a at ae ab af;generalize hiP d c.Box=b at ae ab af;generalize tch d (l.take i) t=T at ae ⊢;generalize crs d (l.take i) t=C at ab ⊢;by_cases hm:a=t∨b=t
     ·rw[Ke (show t=a∨t=b by omega),Bool.or_true] at ae;by_cases hq:a<t∧t<b
      ·rw[Ke hq,Bool.or_true] at ab;simp +contextual -implicitDefEqProofs (maxSteps:=10^7) only[go_sem,seval,↓gZ,af,ah,hw,hm,hq,Kv,← K5,← KV];refine aj (i+1) _ (by omega) (by omega) ?_;rw[ae,ab];simp +contextual -implicitDefEqProofs (maxSteps:=10^7) only[go_sem,seval,↓gZ,Kv]
      ·rw[Kh hq,Bool.or_false] at ab;simp +contextual -implicitDefEqProofs (maxSteps:=10^7) only[go_sem,seval,↓gZ,af,ah,hw,hm,hq,Kv,← K5,← KV];refine aj (i+1) _ (by omega) (by omega) ?_;rw[ae,ab];simp +contextual -implicitDefEqProofs (maxSteps:=10^7) only[go_sem,seval,↓gZ,Kv]
     ·rw[Kh (show ¬(t=a∨t=b) by omega),Bool.or_false] at ae;by_cases hq:a<t∧t<b
      ·rw[Ke hq,Bool.or_true] at ab;simp +contextual -implicitDefEqProofs (maxSteps:=10^7) only[go_sem,seval,↓gZ,af,ah,hw,hm,hq,Kv,← K5,← KV];refine aj (i+1) _ (by omega) (by omega) ?_;rw[ae,ab];simp +contextual -implicitDefEqProofs (maxSteps:=10^7) only[go_sem,seval,↓gZ,Kv]
      ·rw[Kh hq,Bool.or_false] at ab;simp +contextual -implicitDefEqProofs (maxSteps:=10^7) only[go_sem,seval,↓gZ,af,ah,hw,hm,hq,Kv,← K5,← KV];refine aj (i+1) _ (by omega) (by omega) ?_;rw[ae,ab];simp +contextual -implicitDefEqProofs (maxSteps:=10^7) only[go_sem,seval,↓gZ,Kv]
    ·have:i=l.length:=by omega
     subst this;rw[KB (Kq _)];by_cases ad:tch d l t=true∧crs d l t=false
     ·rw[Kl ad] at aa;rw[hk,ag _ aa];rw[ad.1,ad.2];unfold ZxE;simp +contextual -implicitDefEqProofs (maxSteps:=10^7) only[go_sem,seval,↓gZ]
     ·rw[Ki ad] at aa;have ai:(tch d l t=false)∨(tch d l t=true∧crs d l t=true):=by
       cases h1:tch d l t
       ·exact .inl rfl
       ·refine .inr ⟨rfl,?_⟩;cases h2:crs d l t
        ·exact absurd ⟨h1,h2⟩ ad
        ·rfl
      rcases ai with h1 | ⟨h1,h2⟩
      ·rw[h1];simp +contextual -implicitDefEqProofs (maxSteps:=10^7) only[go_sem,seval,↓gZ,wt];refine ih (n+1) _ ⟨by omega,aa⟩ (by omega) ?_;simp +contextual -implicitDefEqProofs (maxSteps:=10^7) only[go_sem,seval,↓gZ,al]
      ·rw[h1,h2];simp +contextual -implicitDefEqProofs (maxSteps:=10^7) only[go_sem,seval,↓gZ,wt];refine ih (n+1) _ ⟨by omega,aa⟩ (by omega) ?_;simp +contextual -implicitDefEqProofs (maxSteps:=10^7) only[go_sem,seval,↓gZ,al]
  ·have:(to-fr-1).toNat=n:=by omega
   rw[this,hp];unfold ZxE;simp +contextual -implicitDefEqProofs (maxSteps:=10^7) only[go_sem,seval,↓gZ,ak]
def Zs5 (b:Box):Option (Bool×Int)→AV×List Zn
 | some (d,x)=>(.tup [.agg [(.d (J (Z9 d))),(.d (J (x-loP d b))),(.d (J 0)),(.d (.bool false)),.own 0],(.d (.bool true))],[.row 5 [] true false])
 | none=>(.tup [.agg [(.d (J 0)),(.d (J 0)),(.d (J 0)),(.d (.bool false)),.own 0],(.d (.bool false))],[.row 5 [] true false])
theorem ZrO (l:List L.Place) (bX bY bW bH:Int) (hb:VB (Box.mk bX bY bW bH)) (hl:l.length≤1000) (hc:∀ c∈l,VB c.Box):Zd Xs Ms Zaz [(.d (.sl (l.map Place.enc))),(.d (.agg [J bX,J bY,J bW,J bH]))] []=some (Zs5 (Box.mk bX bY bW bH) (Zc6 l (Box.mk bX bY bW bH))):=by
 have ai:=hb;simp only[VB] at hb;have s1:=Zd5 bX bY bW bH true (by unfold R64;omega) (by unfold R64;omega);have s2:=Zd5 bX bY bW bH false (by unfold R64;omega) (by unfold R64;omega);have e1:=Zi8 l true bX (bX+bW) hl (by omega) (by omega) (by omega);have e2:=Zi8 l false bY (bY+bH) hl (by omega) (by omega) (by omega);rw[show (bX+bW-bX-1).toNat=(bW-1).toNat by omega] at e1;rw[show (bY+bH-bY-1).toNat=(bH-1).toNat by omega] at e2;simp only[loP,hiP,Kk,Ka,Kj] at s1 s2;have aa:Zc6 l (Box.mk bX bY bW bH)=match Zff true l bX (bW-1).toNat with
  | some x=>some (true,x)
  | none=>match Zff false l bY (bH-1).toNat with
   | some y=>some (false,y)
   | none=>none:=rfl
 have C1:=fun x=>@Zfg true l bX (bW-1).toNat x;have C2:=fun x=>@Zfg false l bY (bH-1).toNat x;generalize Zff true l bX (bW-1).toNat=K1 at e1 aa C1;generalize Zff false l bY (bH-1).toNat=K2 at e2 aa C2;rw[aa];have ae:∀ i c,l[i]?=some c→(Zd Xs Ms W7 [.d c.Box.enc,(.d (.bool true))] []=some (.d (Zbb true c),[]))∧(Zd Xs Ms W7 [.d c.Box.enc,(.d (.bool false))] []=some (.d (Zbb false c),[])):=fun i c hx=>by
  have h:=hc c (Kb hx);obtain⟨P,T,⟨X,Y,W,H⟩⟩:=c;simp only[VB] at h;exact⟨Zd5 X Y W H true (by unfold R64;omega) (by unfold R64;omega),Zd5 X Y W H false (by unfold R64;omega) (by unfold R64;omega)⟩
 refine cE ?_;simp +contextual -implicitDefEqProofs (maxSteps:=10^7) only[go_sem,seval,↓gZ,Zf6];refine ZN Xs Ms ?_;simp +contextual -implicitDefEqProofs (maxSteps:=10^7) only[go_sem,seval,↓gZ];refine XP Xs Ms (st0:=?sa) (α:=Nat) (fun i=>[(22,.d (J (i:Int)))]) (fun i=>[(1,.row 2 ((l.take i).map (Zbb true)) true false)]) (fun i=>i≤l.length) (fun i=>l.length-i) 0 ?ha1 (by omega) ?ha2 ?ha3
 case ha1=>simp +contextual -implicitDefEqProofs (maxSteps:=10^7) only[go_sem,seval,↓gZ]<;>exact rfl
 case ha2=>rfl
 case ha3=>
  intro i hi ih;by_cases ab:i<l.length
  ·obtain⟨c,hx⟩:=Zl ab;have hw:=Zh (k:=i) (by omega);have ad:=(ae i c hx).1;have hm:(l.take (i+1)).map (Zbb true)=(l.take i).map (Zbb true)++[Zbb true c]:=by rw[Kw,hx];simp
   have af:(l.take i).length≤i:=by simp;omega
   have hr:((l.take i).length+1)*16≤140737488355328∧(l.take i).length≤140737488355327:=by omega
   obtain⟨P,T,⟨X,Y,W,H⟩⟩:=c;simp only[Box.enc,Zbb] at ad;simp +contextual -implicitDefEqProofs (maxSteps:=10^7) only[go_sem,seval,↓gZ,hx,ab,hw,ad,hr];refine ih (i+1) _ (by omega) (by omega) ?_;rw[hm];simp +contextual -implicitDefEqProofs (maxSteps:=10^7) only[go_sem,seval,↓gZ,Zbb]
  ·have:i=l.length:=by omega
   subst this;rw[KB (Kq _)];cases K1 with
   | some x=>
    have:=C1 x rfl;have w:=wi (x-bX) (by omega) (by omega);unfold ZxE at e1;unfold Zs5;simp only[loP,Kk,Z9] at e1 ⊢;simp +contextual -implicitDefEqProofs (maxSteps:=10^7) only[go_sem,seval,↓gZ,s1,e1,w]
   | none=>
    unfold ZxE at e1;simp +contextual -implicitDefEqProofs (maxSteps:=10^7) only[go_sem,seval,↓gZ,s1,e1];refine ZN Xs Ms ?_;have ag:(1:Int)<((2:Nat):Int):=by omega
    simp +contextual -implicitDefEqProofs (maxSteps:=10^7) only[go_sem,seval,↓gZ,ag];refine XP Xs Ms (st0:=?sb) (α:=Nat) (fun i=>[(22,.d (J (i:Int)))]) (fun i=>[(1,.row 2 ((l.take i).map (Zbb false)) true false)]) (fun i=>i≤l.length) (fun i=>l.length-i) 0 ?hb1 (by omega) ?hb2 ?hb3
    case hb1=>simp +contextual -implicitDefEqProofs (maxSteps:=10^7) only[go_sem,seval,↓gZ]<;>exact rfl
    case hb2=>rfl
    case hb3=>
     intro i hi ih;by_cases ab:i<l.length
     ·obtain⟨c,hx⟩:=Zl ab;have hw:=Zh (k:=i) (by omega);have ad:=(ae i c hx).2;have hm:(l.take (i+1)).map (Zbb false)=(l.take i).map (Zbb false)++[Zbb false c]:=by rw[Kw,hx];simp
      have af:(l.take i).length≤i:=by simp;omega
      have hr:((l.take i).length+1)*16≤140737488355328∧(l.take i).length≤140737488355327:=by omega
      obtain⟨P,T,⟨X,Y,W,H⟩⟩:=c;simp only[Box.enc,Zbb] at ad;simp +contextual -implicitDefEqProofs (maxSteps:=10^7) only[go_sem,seval,↓gZ,hx,ab,hw,ad,hr];refine ih (i+1) _ (by omega) (by omega) ?_;rw[hm];simp +contextual -implicitDefEqProofs (maxSteps:=10^7) only[go_sem,seval,↓gZ,Zbb]
     ·have:i=l.length:=by omega
      subst this;rw[KB (Kq _)];cases K2 with
      | some x=>
       have:=C2 x rfl;have w:=wi (x-bY) (by omega) (by omega);unfold ZxE at e2;unfold Zs5;simp only[loP,Ka,Kj,Z9] at e2 ⊢;simp +contextual -implicitDefEqProofs (maxSteps:=10^7) only[go_sem,seval,↓gZ,s2,e2,w]
      | none=>
       unfold ZxE at e2;unfold Zs5;simp +contextual -implicitDefEqProofs (maxSteps:=10^7) only[go_sem,seval,↓gZ,s2,e2];refine ZN Xs Ms ?_;have ah:¬(2:Int)<((2:Nat):Int):=by omega
       simp +contextual -implicitDefEqProofs (maxSteps:=10^7) only[go_sem,seval,↓gZ,ah]
end Go.Proofs.YtbpekaejmjlmfaaGreat
