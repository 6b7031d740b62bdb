/- Own text. -/
import Derived.Test.YtefabmohhbhlfaaCCode
import Derived.Test.YtefabmohhbhlfaaAbsParts
import Derived.Test.YtefabmohhbhlfaaAbsOkD
namespace Go.Proofs.Ytefabmohhbhlfaa
open Go Go.Abs Go.Abs.E Go.Abs.L
open Nat (reduceMul reduceSub reduceLeDiff reduceEqDiff)
open Int (reduceLE reduceEq reduceToNat reduceNeg)
set_option linter.unusedSimpArgs false
set_option linter.unusedVariables false
set_option maxRecDepth 20000
set_option maxHeartbeats 4000000
def Zi0:BT→Bool
 | .waste=>false
 | .pane _ _=>true
 | .cut _ _ l r=>Zi0 l || Zi0 r
def loP (d:Bool) (b:Box):Int:=if d then b.X else b.Y
def hiP (d:Bool) (b:Box):Int:=if d then b.X+b.W else b.Y+b.H
def tch (d:Bool) (l:List L.Place) (t:Int):Bool:=l.any fun c=>decide (t=loP d c.Box∨t=hiP d c.Box)
def crs (d:Bool) (l:List L.Place) (t:Int):Bool:=l.any fun c=>decide (loP d c.Box<t∧t<hiP d c.Box)
def Jf (d:Bool) (l:List L.Place) (fr:Int):Nat→Option Int
 | 0=>none
 | n+1=>match Jf d l fr n with
  | some x=>some x
  | none=>if tch d l (fr+1+n)=true∧crs d l (fr+1+n)=false then some (fr+1+(n:Int)) else none
def ZG (d:Bool) (l:List L.Place) (t:Int) (f:Bool):List L.Place:=l.filter fun c=>f==decide (hiP d c.Box≤t)
theorem Zrl {d:Bool} {l:List L.Place} {t:Int} {k:Nat} {c:L.Place} (hx:l[k]?=some c):tch d (l.take (k+1)) t=(tch d (l.take k) t || decide (t=loP d c.Box∨t=hiP d c.Box)):=by
 unfold tch;rw[KE,hx,List.any_append];simp
theorem Zrm {d:Bool} {l:List L.Place} {t:Int} {k:Nat} {c:L.Place} (hx:l[k]?=some c):crs d (l.take (k+1)) t=(crs d (l.take k) t || decide (loP d c.Box<t∧t<hiP d c.Box)):=by
 unfold crs;rw[KE,hx,List.any_append];simp
theorem Zh9 {d:Bool} {l:List L.Place} {t:Int} {f:Bool} {k:Nat} {c:L.Place} (hx:l[k]?=some c):ZG d (l.take (k+1)) t f=ZG d (l.take k) t f++(if f=decide (hiP d c.Box≤t) then [c] else []):=by
 unfold ZG;rw[KE,hx,Kab];by_cases h:f=decide (hiP d c.Box≤t)
 ·simp[h]
 ·rw[Kn h];have:(f==decide (hiP d c.Box≤t))=false:=by simpa using h
  simp[this]
theorem WM {d:Bool} {l:List L.Place} {fr:Int}:∀ {n:Nat} {x:Int},Jf d l fr n=some x→fr<x∧x<fr+1+n∧crs d l x=false∧tch d l x=true
 | 0,x,h=>by simp[Jf] at h
 | n+1,x,h=>by
  unfold Jf at h;split at h
  ·rename_i y hy;cases h;have:=WM hy;exact⟨this.1,by omega,this.2.2⟩
  ·split at h
   ·rename_i hc;cases h;exact⟨by omega,by omega,hc.2,hc.1⟩
   ·cases h
def QJ (d:Bool) (b:Box) (a:Int):Box:=if d then ⟨b.X,b.Y,a,b.H⟩ else ⟨b.X,b.Y,b.W,a⟩
def ZZ (d:Bool) (b:Box) (a:Int):Box:=if d then ⟨b.X+a,b.Y,b.W-a,b.H⟩ else ⟨b.X,b.Y+a,b.W,b.H-a⟩
def Zcy (d:Bool) (a:Int):Option BT→Option BT→Option BT
 | some p,some q=>some (.cut d a p q)
 | _,_=>none
def W6 (l:List L.Place) (b:Box):Option (Bool×Int):=match Jf true l b.X (b.W-1).toNat with
 | some x=>some (true,x)
 | none=>match Jf false l b.Y (b.H-1).toNat with
  | some y=>some (false,y)
  | none=>none
def Xv:Nat→List L.Place→Box→Option BT
 | 0,_,_=>none
 | n+1,l,b=>match l with
  | []=>some .waste
  | c :: r=>if r=[]∧c.Box=b then some (.pane c.Pane c.Turned) else match W6 (c :: r) b with
   | some (d,x)=>Zcy d (x-loP d b) (Xv n (ZG d (c :: r) x true) (QJ d b (x-loP d b))) (Xv n (ZG d (c :: r) x false) (ZZ d b (x-loP d b)))
   | none=>none
def InL (l:List L.Place) (b:Box):Prop:=∀ c∈l,VB c.Box∧Qt c.Box b
theorem U4 {l:List L.Place} {b:Box} {d:Bool} {x:Int} (h:W6 l b=some (d,x)):loP d b<x∧x<hiP d b∧crs d l x=false:=by
 unfold W6 at h;split at h
 ·rename_i y hy;cases h;have:=WM hy;exact⟨this.1,by simp only[hiP,Kk];omega,this.2.2.1⟩
 ·split at h
  ·rename_i y hy;cases h;have:=WM hy;exact⟨this.1,by simp only[hiP,Ka,Ki];omega,this.2.2.1⟩
  ·cases h
theorem Zd2 {d:Bool} {l:List L.Place} {x:Int} (h:crs d l x=false):∀ c∈l,hiP d c.Box≤x∨x≤loP d c.Box:=fun c hc=>by
 have:=Lk.1 h c hc;simp only[Kl] at this;omega
theorem Zd3 {l:List L.Place} {b:Box} {d:Bool} {x:Int} (hb:VB b) (h:InL l b) (hx:loP d b<x∧x<hiP d b) (hc:crs d l x=false) :
  (VB (QJ d b (x-loP d b))∧InL (ZG d l x true) (QJ d b (x-loP d b)))∧VB (ZZ d b (x-loP d b))∧InL (ZG d l x false) (ZZ d b (x-loP d b)):=by
 have hn:=Zd2 hc;cases d
 ·simp only[loP,hiP,QJ,ZZ,Ka,Ki] at hx hn ⊢;simp only[VB] at hb;refine⟨⟨by simp only[VB];omega,fun c hm=>?_⟩,by simp only[VB];omega,fun c hm=>?_⟩
  ·obtain⟨h1,h2⟩:=Le.1 hm;have h3:=h c h1;simp only[hiP,Ka,Ki,beq_iff_eq] at h2;have h4:=of_decide_eq_true h2.symm;simp only[Qt] at h3 ⊢;exact⟨h3.1,by omega⟩
  ·obtain⟨h1,h2⟩:=Le.1 hm;have h3:=h c h1;have h5:=hn c h1;simp only[hiP,Ka,Ki,beq_iff_eq] at h2;have h4:=of_decide_eq_false h2.symm;simp only[Qt] at h3 ⊢;exact⟨h3.1,by omega⟩
 ·simp only[loP,hiP,QJ,ZZ,Kk] at hx hn ⊢;simp only[VB] at hb;refine⟨⟨by simp only[VB];omega,fun c hm=>?_⟩,by simp only[VB];omega,fun c hm=>?_⟩
  ·obtain⟨h1,h2⟩:=Le.1 hm;have h3:=h c h1;simp only[hiP,Kk,beq_iff_eq] at h2;have h4:=of_decide_eq_true h2.symm;simp only[Qt] at h3 ⊢;exact⟨h3.1,by omega⟩
  ·obtain⟨h1,h2⟩:=Le.1 hm;have h3:=h c h1;have h5:=hn c h1;simp only[hiP,Kk,beq_iff_eq] at h2;have h4:=of_decide_eq_false h2.symm;simp only[Qt] at h3 ⊢;exact⟨h3.1,by omega⟩
theorem Zke {n:Nat} {c:L.Place} {r:List L.Place} {b:Box} {d:Bool} {x:Int} (hn:¬(r=[]∧c.Box=b)) (h:W6 (c :: r) b=some (d,x)) :
  Xv (n+1) (c :: r) b=Zcy d (x-loP d b) (Xv n (ZG d (c :: r) x true) (QJ d b (x-loP d b))) (Xv n (ZG d (c :: r) x false) (ZZ d b (x-loP d b))):=by
 rw[Xv,Kn hn,h]
theorem Zrn {n:Nat} {c:L.Place} {r:List L.Place} {b:Box} (hn:¬(r=[]∧c.Box=b)) (h:W6 (c :: r) b=none):Xv (n+1) (c :: r) b=none:=by
 rw[Xv,Kn hn,h]
theorem U5 (b:BT):∃ o a q t ks,b.plan=.mk o a q t ks:=by cases b.plan;exact⟨_,_,_,_,_,rfl⟩
theorem Zia {b:Box} {d:Bool} {x:Int} (hb:VB b) (hx:loP d b<x∧x<hiP d b) :
  ((QJ d b (x-loP d b)).W+(QJ d b (x-loP d b)).H).toNat<(b.W+b.H).toNat∧((ZZ d b (x-loP d b)).W+(ZZ d b (x-loP d b)).H).toNat<(b.W+b.H).toNat:=by
 simp only[VB] at hb;cases d<;>simp only[loP,hiP,QJ,ZZ,Kk,Ka,Ki] at hx ⊢ <;> omega
theorem Zkf (d:Bool) (l:List L.Place) (t:Int) (f:Bool):(ZG d l t f).length≤l.length:=List.length_filter_le _ _
def Ww (d:Bool) (c:L.Place):D:=.agg [J (loP d c.Box),J (hiP d c.Box)]
@[go_sem] theorem uni_span (d:Bool) (l:List L.Place):uni 2 (l.map (Ww d))=True:=eq_true (V2 l fun _=>rfl)
@[go_sem] theorem flat_span (d:Bool) (l:List L.Place):Qw (l.map (Ww d))=True:=eq_true (UI l fun _=>rfl)
theorem Jx (bX bY bW bH:Int) (d:Bool) (h1:R64 (bX+bW)) (h2:R64 (bY+bH)):Zj Xs Ms YY [(.d (.agg [J bX,J bY,J bW,J bH])),(.d (.bool d))] []=some (.d (.agg [J (loP d (Box.mk bX bY bW bH)),J (hiP d (Box.mk bX bY bW bH))]),[]):=by
 have w1:=wi (bX+bW) h1.1 h1.2;have w2:=wi (bY+bH) h2.1 h2.2;cases d
 ·simp only[loP,hiP,Ka,Ki];refine cE ?_;simp +contextual -implicitDefEqProofs (maxSteps:=10^7) only[go_sem,seval,↓gZ,ZaX,w1,w2]
 ·simp only[loP,hiP,Kk];refine cE ?_;simp +contextual -implicitDefEqProofs (maxSteps:=10^7) only[go_sem,seval,↓gZ,ZaX,w1,w2]
def Zn1:Option Int→AV×List Zh
 | some x=>(.tup [(.d (J x)),(.d (.bool true))],[])
 | none=>(.tup [(.d (J 0)),(.d (.bool false))],[])
theorem Zcz (l:List L.Place) (d:Bool) (fr to:Int) (hl:l.length≤1000) (h0:0≤fr) (h1:fr<to) (h2:to≤1000):Zj Xs Ms Wo [.d (.sl (l.map (Ww d))),.d (.agg [J fr,J to])] []=some (Zn1 (Jf d l fr (to-fr-1).toNat)):=by
 have w0:=wi (fr+1) (by omega) (by omega);refine cE ?_;simp +contextual -implicitDefEqProofs (maxSteps:=10^7) only[go_sem,seval,↓gZ,ZaY,w0];refine WQ Xs Ms (st0:=?st0) (α:=Nat) (fun n=>[(6,.d (J (fr+1+(n:Int))))]) (fun _=>[]) (fun n=>(n:Int)≤to-fr-1∧Jf d l fr n=none) (fun n=>(to-fr-1).toNat-n) 0 ?hc ⟨by omega,rfl⟩ ?h0 ?step
 case hc=>simp +contextual -implicitDefEqProofs (maxSteps:=10^7) only[go_sem,seval,↓gZ]<;>exact rfl
 case h0=>simp only[Int.natCast_zero,Int.add_zero];rfl
 case step=>
  intro n ⟨hn,hp⟩ ih;by_cases ak:fr+1+(n:Int)<to
  ·have wt:=wi (fr+1+(n:Int)+1) (by omega) (by omega);have al:fr+1+((n+1:Nat):Int)=fr+1+(n:Int)+1:=by omega
   have aa:Jf d l fr (n+1)=if tch d l (fr+1+n)=true∧crs d l (fr+1+n)=false then some (fr+1+(n:Int)) else none:=by rw[Jf,hp]
   have ag:∀ k,Jf d l fr (n+1)=some (fr+1+(n:Int))→Jf d l fr (n+1+k)=some (fr+1+(n:Int)):=by
    intro k h
    induction k with
    | zero=>exact h
    | succ k ihk=>rw[show n+1+(k+1)=(n+1+k)+1 by omega,Jf,ihk]
   have hk:(to-fr-1).toNat=n+1+((to-fr-1).toNat-(n+1)):=by omega
   generalize ht:fr+1+(n:Int)=t at *;simp +contextual -implicitDefEqProofs (maxSteps:=10^7) only[go_sem,seval,↓gZ,ak];refine WQ Xs Ms (st0:=?st1) (α:=Nat) (fun i=>[(22,.d (J (i:Int))),(8,.d (.bool (crs d (l.take i) t))),(7,.d (.bool (tch d (l.take i) t)))]) (fun _=>[]) (fun i=>i≤l.length) (fun i=>l.length-i) 0 ?hc2 (by omega) ?h02 ?step2
   case hc2=>simp +contextual -implicitDefEqProofs (maxSteps:=10^7) only[go_sem,seval,↓gZ]<;>exact rfl
   case h02=>rfl
   case step2=>
    intro i hi aj;by_cases ah:i<l.length
    ·obtain⟨c,hx⟩:=ZE ah;have hw:=ZD (k:=i) (by omega);have ae:=Zrl (d:=d) (t:=t) hx;have ab:=Zrm (d:=d) (t:=t) hx;have af:(l.map (Ww d))[i]?=some (.agg [J (loP d c.Box),J (hiP d c.Box)]):=by rw[Kx,hx];rfl
     generalize loP d c.Box=a at ae ab af;generalize hiP d c.Box=b at ae ab af;generalize tch d (l.take i) t=T at ae ⊢;generalize crs d (l.take i) t=C at ab ⊢;by_cases hm:a=t∨b=t
     ·rw[KN (show t=a∨t=b by omega),Bool.or_true] at ae;by_cases hq:a<t∧t<b
      ·rw[KN hq,Bool.or_true] at ab;simp +contextual -implicitDefEqProofs (maxSteps:=10^7) only[go_sem,seval,↓gZ,af,ah,hw,hm,hq,Kw,← Bool.decide_or,← Bool.decide_and];refine aj (i+1) _ (by omega) (by omega) ?_;rw[ae,ab];simp +contextual -implicitDefEqProofs (maxSteps:=10^7) only[go_sem,seval,↓gZ,Kw]
      ·rw[Ky hq,Bool.or_false] at ab;simp +contextual -implicitDefEqProofs (maxSteps:=10^7) only[go_sem,seval,↓gZ,af,ah,hw,hm,hq,Kw,← Bool.decide_or,← Bool.decide_and];refine aj (i+1) _ (by omega) (by omega) ?_;rw[ae,ab];simp +contextual -implicitDefEqProofs (maxSteps:=10^7) only[go_sem,seval,↓gZ,Kw]
     ·rw[Ky (show ¬(t=a∨t=b) by omega),Bool.or_false] at ae;by_cases hq:a<t∧t<b
      ·rw[KN hq,Bool.or_true] at ab;simp +contextual -implicitDefEqProofs (maxSteps:=10^7) only[go_sem,seval,↓gZ,af,ah,hw,hm,hq,Kw,← Bool.decide_or,← Bool.decide_and];refine aj (i+1) _ (by omega) (by omega) ?_;rw[ae,ab];simp +contextual -implicitDefEqProofs (maxSteps:=10^7) only[go_sem,seval,↓gZ,Kw]
      ·rw[Ky hq,Bool.or_false] at ab;simp +contextual -implicitDefEqProofs (maxSteps:=10^7) only[go_sem,seval,↓gZ,af,ah,hw,hm,hq,Kw,← Bool.decide_or,← Bool.decide_and];refine aj (i+1) _ (by omega) (by omega) ?_;rw[ae,ab];simp +contextual -implicitDefEqProofs (maxSteps:=10^7) only[go_sem,seval,↓gZ,Kw]
    ·have:i=l.length:=by omega
     subst this;rw[KQ (Kh _)];by_cases ad:tch d l t=true∧crs d l t=false
     ·rw[Ko ad] at aa;rw[hk,ag _ aa];rw[ad.1,ad.2];unfold Zn1;simp +contextual -implicitDefEqProofs (maxSteps:=10^7) only[go_sem,seval,↓gZ]
     ·rw[Kn ad] at aa;have ai:(tch d l t=false)∨(tch d l t=true∧crs d l t=true):=by
       cases h1:tch d l t
       ·exact .inl rfl
       ·refine .inr ⟨rfl,?_⟩;cases h2:crs d l t
        ·exact absurd ⟨h1,h2⟩ ad
        ·rfl
      rcases ai with h1 | ⟨h1,h2⟩
      ·rw[h1];simp +contextual -implicitDefEqProofs (maxSteps:=10^7) only[go_sem,seval,↓gZ,wt];refine ih (n+1) _ ⟨by omega,aa⟩ (by omega) ?_;simp +contextual -implicitDefEqProofs (maxSteps:=10^7) only[go_sem,seval,↓gZ,al]
      ·rw[h1,h2];simp +contextual -implicitDefEqProofs (maxSteps:=10^7) only[go_sem,seval,↓gZ,wt];refine ih (n+1) _ ⟨by omega,aa⟩ (by omega) ?_;simp +contextual -implicitDefEqProofs (maxSteps:=10^7) only[go_sem,seval,↓gZ,al]
  ·have:(to-fr-1).toNat=n:=by omega
   rw[this,hp];unfold Zn1;simp +contextual -implicitDefEqProofs (maxSteps:=10^7) only[go_sem,seval,↓gZ,ak]
def Zkg (b:Box):Option (Bool×Int)→AV×List Zh
 | some (d,x)=>(.tup [.agg [(.d (J (UT d))),(.d (J (x-loP d b))),(.d (J 0)),(.d (.bool false)),.own 0],(.d (.bool true))],[.row 5 [] true false])
 | none=>(.tup [.agg [(.d (J 0)),(.d (J 0)),(.d (J 0)),(.d (.bool false)),.own 0],(.d (.bool false))],[.row 5 [] true false])
theorem Zi1 (l:List L.Place) (bX bY bW bH:Int) (hb:VB (Box.mk bX bY bW bH)) (hl:l.length≤1000) (hc:∀ c∈l,VB c.Box):Zj Xs Ms Wn [(.d (.sl (l.map Place.enc))),(.d (.agg [J bX,J bY,J bW,J bH]))] []=some (Zkg (Box.mk bX bY bW bH) (W6 l (Box.mk bX bY bW bH))):=by
 have ai:=hb;simp only[VB] at hb;have s1:=Jx bX bY bW bH true (by unfold R64;omega) (by unfold R64;omega);have s2:=Jx bX bY bW bH false (by unfold R64;omega) (by unfold R64;omega);have e1:=Zcz l true bX (bX+bW) hl (by omega) (by omega) (by omega);have e2:=Zcz l false bY (bY+bH) hl (by omega) (by omega) (by omega);rw[show (bX+bW-bX-1).toNat=(bW-1).toNat by omega] at e1;rw[show (bY+bH-bY-1).toNat=(bH-1).toNat by omega] at e2;simp only[loP,hiP,Kk,Ka,Ki] at s1 s2;have aa:W6 l (Box.mk bX bY bW bH)=match Jf true l bX (bW-1).toNat with
  | some x=>some (true,x)
  | none=>match Jf false l bY (bH-1).toNat with
   | some y=>some (false,y)
   | none=>none:=rfl
 have C1:=fun x=>@WM true l bX (bW-1).toNat x;have C2:=fun x=>@WM false l bY (bH-1).toNat x;generalize Jf true l bX (bW-1).toNat=K1 at e1 aa C1;generalize Jf false l bY (bH-1).toNat=K2 at e2 aa C2;rw[aa];have ae:∀ i c,l[i]?=some c→(Zj Xs Ms YY [.d c.Box.enc,(.d (.bool true))] []=some (.d (Ww true c),[]))∧(Zj Xs Ms YY [.d c.Box.enc,(.d (.bool false))] []=some (.d (Ww false c),[])):=fun i c hx=>by
  have h:=hc c (Ke hx);obtain⟨P,T,⟨X,Y,W,H⟩⟩:=c;simp only[VB] at h;exact⟨Jx X Y W H true (by unfold R64;omega) (by unfold R64;omega),Jx X Y W H false (by unfold R64;omega) (by unfold R64;omega)⟩
 refine cE ?_;simp +contextual -implicitDefEqProofs (maxSteps:=10^7) only[go_sem,seval,↓gZ,ZaW];refine XK Xs Ms ?_;simp +contextual -implicitDefEqProofs (maxSteps:=10^7) only[go_sem,seval,↓gZ];refine WQ Xs Ms (st0:=?sa) (α:=Nat) (fun i=>[(22,.d (J (i:Int)))]) (fun i=>[(1,.row 2 ((l.take i).map (Ww true)) true false)]) (fun i=>i≤l.length) (fun i=>l.length-i) 0 ?ha1 (by omega) ?ha2 ?ha3
 case ha1=>simp +contextual -implicitDefEqProofs (maxSteps:=10^7) only[go_sem,seval,↓gZ]<;>exact rfl
 case ha2=>rfl
 case ha3=>
  intro i hi ih;by_cases ab:i<l.length
  ·obtain⟨c,hx⟩:=ZE ab;have hw:=ZD (k:=i) (by omega);have ad:=(ae i c hx).1;have hm:(l.take (i+1)).map (Ww true)=(l.take i).map (Ww true)++[Ww true c]:=by rw[KE,hx];simp
   have af:(l.take i).length≤i:=by simp;omega
   have hr:((l.take i).length+1)*16≤140737488355328∧(l.take i).length≤140737488355327:=by omega
   obtain⟨P,T,⟨X,Y,W,H⟩⟩:=c;simp only[Box.enc,Ww] at ad;simp +contextual -implicitDefEqProofs (maxSteps:=10^7) only[go_sem,seval,↓gZ,hx,ab,hw,ad,hr];refine ih (i+1) _ (by omega) (by omega) ?_;rw[hm];simp +contextual -implicitDefEqProofs (maxSteps:=10^7) only[go_sem,seval,↓gZ,Ww]
  ·have:i=l.length:=by omega
   subst this;rw[KQ (Kh _)];cases K1 with
   | some x=>
    have:=C1 x rfl;have w:=wi (x-bX) (by omega) (by omega);unfold Zn1 at e1;unfold Zkg;simp only[loP,Kk,UT] at e1 ⊢;simp +contextual -implicitDefEqProofs (maxSteps:=10^7) only[go_sem,seval,↓gZ,s1,e1,w]
   | none=>
    unfold Zn1 at e1;simp +contextual -implicitDefEqProofs (maxSteps:=10^7) only[go_sem,seval,↓gZ,s1,e1];refine XK Xs Ms ?_;have ag:(1:Int)<((2:Nat):Int):=by omega
    simp +contextual -implicitDefEqProofs (maxSteps:=10^7) only[go_sem,seval,↓gZ,ag];refine WQ Xs Ms (st0:=?sb) (α:=Nat) (fun i=>[(22,.d (J (i:Int)))]) (fun i=>[(1,.row 2 ((l.take i).map (Ww false)) true false)]) (fun i=>i≤l.length) (fun i=>l.length-i) 0 ?hb1 (by omega) ?hb2 ?hb3
    case hb1=>simp +contextual -implicitDefEqProofs (maxSteps:=10^7) only[go_sem,seval,↓gZ]<;>exact rfl
    case hb2=>rfl
    case hb3=>
     intro i hi ih;by_cases ab:i<l.length
     ·obtain⟨c,hx⟩:=ZE ab;have hw:=ZD (k:=i) (by omega);have ad:=(ae i c hx).2;have hm:(l.take (i+1)).map (Ww false)=(l.take i).map (Ww false)++[Ww false c]:=by rw[KE,hx];simp
      have af:(l.take i).length≤i:=by simp;omega
      have hr:((l.take i).length+1)*16≤140737488355328∧(l.take i).length≤140737488355327:=by omega
      obtain⟨P,T,⟨X,Y,W,H⟩⟩:=c;simp only[Box.enc,Ww] at ad;simp +contextual -implicitDefEqProofs (maxSteps:=10^7) only[go_sem,seval,↓gZ,hx,ab,hw,ad,hr];refine ih (i+1) _ (by omega) (by omega) ?_;rw[hm];simp +contextual -implicitDefEqProofs (maxSteps:=10^7) only[go_sem,seval,↓gZ,Ww]
     ·have:i=l.length:=by omega
      subst this;rw[KQ (Kh _)];cases K2 with
      | some x=>
       have:=C2 x rfl;have w:=wi (x-bY) (by omega) (by omega);unfold Zn1 at e2;unfold Zkg;simp only[loP,Ka,Ki,UT] at e2 ⊢;simp +contextual -implicitDefEqProofs (maxSteps:=10^7) only[go_sem,seval,↓gZ,s2,e2,w]
      | none=>
       unfold Zn1 at e2;unfold Zkg;simp +contextual -implicitDefEqProofs (maxSteps:=10^7) only[go_sem,seval,↓gZ,s2,e2];refine XK Xs Ms ?_;have ah:¬(2:Int)<((2:Nat):Int):=by omega
       simp +contextual -implicitDefEqProofs (maxSteps:=10^7) only[go_sem,seval,↓gZ,ah]
end Go.Proofs.Ytefabmohhbhlfaa
