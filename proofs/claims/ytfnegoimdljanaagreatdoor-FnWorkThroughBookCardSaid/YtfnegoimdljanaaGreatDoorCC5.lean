import Derived.Test.YtfnegoimdljanaaGreatDoorCC2
set_option linter.unusedSimpArgs false
set_option linter.unusedVariables false
namespace Go.Proofs.YtfnegoimdljanaaGreatDoor
open Go Go.Abs Go.Abs.E Go.Abs.L
set_option maxRecDepth 20000
set_option maxHeartbeats 4000000
theorem ZoH (a b:List Box) (ha:a.length<4611686018427387904):v_ 149 [(.d (.sl (a.map Box.enc))),(.d (.sl (b.map Box.enc)))] []=some ((.d (.bool (decide (a=b)))),[]):=by
 refine cE ?_;by_cases hl:a.length=b.length
 ·simp (maxSteps:=10^7) +contextual -implicitDefEqProofs only[go_sem,seval,ZcC,hl];refine Yh Xs Ms (st0:=?st0) (α:=Nat) (fun k=>[(5,.d (J (k:Int)))]) (fun _=>[]) (fun k=>k≤b.length∧a.take k=b.take k) (fun k=>b.length-k) 0 ?hc ⟨o_,rfl⟩ ?h0 ?step
  case hc=>simp (maxSteps:=10^7) +contextual -implicitDefEqProofs only[go_sem,seval,hl];exact rfl
  case h0=>rfl
  case step=>
   intro k ⟨hk,hp⟩ ih;by_cases aa:k<b.length
   ·obtain⟨x,hx⟩:∃ x,a[k]?=some x:=Zp o_;obtain⟨y,hy⟩:∃ y,b[k]?=some y:=Zp aa;have hw:=Zh (k:=k) o_;have ht:=Zkv hx hy hp;by_cases he:x=y
    ·subst he;obtain⟨X,Y,W,H⟩:=x;simp (maxSteps:=10^7) +contextual -implicitDefEqProofs only[go_sem,seval,hx,hy,aa,hl,hw];refine ih (k+1) _ ⟨o_,ht.2 rfl⟩ o_ ?_;simp (maxSteps:=10^7) +contextual -implicitDefEqProofs only[go_sem,seval,hl]
    ·have ab:¬a=b:=fun e=>he (ht.1 (by rw[e]));obtain⟨X,Y,W,H⟩:=x;obtain⟨X',Y',W',H'⟩:=y;simp only[Box.mk.injEq] at he;simp (maxSteps:=10^7) +contextual -implicitDefEqProofs only[go_sem,seval,hx,hy,aa,hl,hw,he,ab]
   ·have:a=b:=by
     have h1:=hp;rw[Kw o_,Kw o_] at h1;exact h1
    simp (maxSteps:=10^7) +contextual -implicitDefEqProofs only[go_sem,seval,aa,hl,this]
 ·have ab:¬a=b:=fun e=>hl (by rw[e]);simp (maxSteps:=10^7) +contextual -implicitDefEqProofs only[go_sem,seval,ZcC,hl,ab]
theorem Zgg (aL aW aH:Int) (aF:List Box) (bL bW bH:Int) (bF:List Box) (hl:aF.length<4611686018427387904):v_ 103 [(.d (.agg [J aL,J aW,J aH,.sl (aF.map Box.enc)])),(.d (.agg [J bL,J bW,J bH,.sl (bF.map Box.enc)]))] []=some ((.d (.bool (decide ((Zb.mk aL aW aH aF)=(Zb.mk bL bW bH bF))))),[]):=by
 refine cE ?_;simp (maxSteps:=10^7) +contextual -implicitDefEqProofs only[go_sem,seval,ZhO,ZoH aF bF hl];exact ZaU (by simp only[Zb.mk.injEq,and_assoc])
theorem ZoI (a b:List Zb) (ha:a.length<4611686018427387904) (hb:∀ x∈a,x.Flaws.length<4611686018427387904):v_ 53 [(.d (.sl (a.map Zb.enc))),(.d (.sl (b.map Zb.enc)))] []=some ((.d (.bool (decide (a=b)))),[]):=by
 refine cE ?_;by_cases hl:a.length=b.length
 ·simp (maxSteps:=10^7) +contextual -implicitDefEqProofs only[go_sem,seval,ZcK,hl];refine Yh Xs Ms (st0:=?st0) (α:=Nat) (fun k=>[(5,.d (J (k:Int)))]) (fun _=>[]) (fun k=>k≤b.length∧a.take k=b.take k) (fun k=>b.length-k) 0 ?hc ⟨o_,rfl⟩ ?h0 ?step
  case hc=>simp (maxSteps:=10^7) +contextual -implicitDefEqProofs only[go_sem,seval,hl];exact rfl
  case h0=>rfl
  case step=>
   intro k ⟨hk,hp⟩ ih;by_cases aa:k<b.length
   ·obtain⟨x,hx⟩:∃ x,a[k]?=some x:=Zp o_;obtain⟨y,hy⟩:∃ y,b[k]?=some y:=Zp aa;have hw:=Zh (k:=k) o_;have ht:=Zkv hx hy hp;by_cases he:x=y
    ·subst he;have he:=Zgg x.Label x.W x.H x.Flaws x.Label x.W x.H x.Flaws (hb x (Kb hx));obtain⟨L,W,H,F⟩:=x;simp (maxSteps:=10^7) +contextual -implicitDefEqProofs only[go_sem,seval,hx,hy,aa,hl,hw,he];refine ih (k+1) _ ⟨o_,ht.2 rfl⟩ o_ ?_;simp (maxSteps:=10^7) +contextual -implicitDefEqProofs only[go_sem,seval,hl]
    ·have ab:¬a=b:=fun e=>he (ht.1 (by rw[e]));have hq:=Zgg x.Label x.W x.H x.Flaws y.Label y.W y.H y.Flaws (hb x (Kb hx));obtain⟨L,W,H,F⟩:=x;obtain⟨L',W',H',F'⟩:=y;simp (maxSteps:=10^7) +contextual -implicitDefEqProofs only[go_sem,seval,hx,hy,aa,hl,hw,hq,he,ab]
   ·have:a=b:=by
     have h1:=hp;rw[Kw o_,Kw o_] at h1;exact h1
    simp (maxSteps:=10^7) +contextual -implicitDefEqProofs only[go_sem,seval,aa,hl,this]
 ·have ab:¬a=b:=fun e=>hl (by rw[e]);simp (maxSteps:=10^7) +contextual -implicitDefEqProofs only[go_sem,seval,ZcK,hl,ab]
theorem Zlo (bs:List UInt8) (hb:bs.length≤2000) (p:Nat) (hp:p<900000000) (w h:Int):∃ X Y W H:Int,
  v_ 187 [.ptr 0 0,(.d (J w)),(.d (J h))] [.box [.d (.sl (bs.map UF)),(.d (J p))]]=some (.d (.agg [J X,J Y,J W,J H]),[.box [.d (.sl (bs.map UF)),(.d (J ((p+4:Nat))))]]):=by
 have p1:=Qn bs p w hb o_;generalize QY bs p w=a1 at p1;have p2:=Qn bs (p+1) h hb o_;generalize QY bs (p+1) h=a2 at p2;have p3:=Qn bs (p+2) (IntKind.i64.wrap (IntKind.i64.wrap (w-IntKind.i64.wrap (1+a1))+1)) hb o_;generalize QY bs (p+2) (IntKind.i64.wrap (IntKind.i64.wrap (w-IntKind.i64.wrap (1+a1))+1))=a3 at p3;have p4:=Qn bs (p+3) (IntKind.i64.wrap (IntKind.i64.wrap (h-IntKind.i64.wrap (1+a2))+1)) hb o_;generalize QY bs (p+3) (IntKind.i64.wrap (IntKind.i64.wrap (h-IntKind.i64.wrap (1+a2))+1))=a4 at p4;refine⟨a3,a4,IntKind.i64.wrap (1+a1),IntKind.i64.wrap (1+a2),?_⟩
 refine cE ?_;simp (maxSteps:=10^7) +contextual -implicitDefEqProofs only[go_sem,seval,Zn3,p1,p2,p3,p4]
def YH:List Zb→Int
 | []=>0
 | x :: l=>x.W*x.H+YH l
theorem ZuU (a b:List Zb):YH (a++b)=YH a+YH b:=by
 induction a with
 | nil=>simp[YH]
 | cons c l ih=>simp only[KA,YH,ih];omega
theorem Zrf {L:List Zb} {i:Nat} {x:Zb} (hx:L[i]?=some x):YH (L.take (i+1))=YH (L.take i)+x.W*x.H:=by
 rw[KH,hx,ZuU];simp[YH]
theorem ZwD (q:Zb):∀ (n:Int) (l:List Box) (i:Nat) (x:Zb),(Uj q n l)[i]?=some x→∃ b,l[i]?=some b∧x=ZmE q b (n+i)
 | n,[],i,x,h=>by simp[Uj] at h
 | n,b :: l,0,x,h=>by
  simp only[Uj,KT,Option.some.injEq] at h;exact⟨b,rfl,by rw[← h];simp⟩
 | n,b :: l,i+1,x,h=>by
  simp only[Uj,KU] at h;obtain⟨c,h1,h2⟩:=ZwD q (n+1) l i x h;refine⟨c,by simpa using h1,?_⟩;rw[h2];congr 1;omega
theorem Zbc:∀ {l:List Zb},(∀ x∈l,1≤x.W∧x.W≤200∧1≤x.H∧x.H≤200)→0≤YH l∧YH l≤40000*l.length
 | [],_=>by simp[YH]
 | x :: l,h=>by
  have h1:=h x (by simp);have h2:=Zbc (l:=l) fun y hy=>h y (by simp[hy]);have h3:0≤x.W*x.H:=Kan o_ o_;have h4:x.W*x.H≤200*200:=Kao o_ o_ o_ o_;simp only[YH,Kn];omega
end Go.Proofs.YtfnegoimdljanaaGreatDoor
namespace Go.Proofs.YtfnegoimdljanaaGreatDoor
open Go Go.Abs Go.Abs.E Go.Abs.L
set_option maxRecDepth 20000
set_option maxHeartbeats 4000000
def Xv:Int→List Zb→Prop
 | _,[]=>True
 | b,x :: l=>VPc x∧b<x.Label∧Xv x.Label l
instance sortFdec:∀ (b:Int) (l:List Zb),Decidable (Xv b l)
 | _,[]=>.isTrue trivial
 | b,x :: l=>by unfold Xv;exact @instDecidableAnd _ _ _ (@instDecidableAnd _ _ _ (sortFdec x.Label l))
def VSt (l:List Zb):Prop:=l.length≤20∧Xv 0 l
instance (l:List Zb):Decidable (VSt l):=by unfold VSt;infer_instance
theorem Zrg {l:List Zb} {k:Nat} {x:Zb} {b:Int} (hx:l[k]?=some x):Xv b (l.drop k)↔VPc x∧b<x.Label∧Xv x.Label (l.drop (k+1)):=by
 obtain⟨h1,h2⟩:=Kc.1 hx;rw[Kx h1,h2,Xv]
theorem ZtE {l:List Zb} {b:Int}:Xv b (l.drop l.length):=by simp[Xv]
theorem Ym (l:List Zb):v_ 75 [(.d (.sl (l.map Zb.enc)))] []=some ((.d (.bool (decide (VSt l)))),[]):=by
 by_cases ab:(20:Int)<(l.length:Int)
 ·have hn:¬VSt l:=fun h=>by have:=h.1;omega
  refine cE ?_;simp (maxSteps:=10^7) +contextual -implicitDefEqProofs only[go_sem,seval,ZcD,ab,hn]
 ·have ad:l.length≤20:=o_
  refine cE ?_;simp (maxSteps:=10^7) +contextual -implicitDefEqProofs only[go_sem,seval,ZcD,ab];refine LO (α:=Nat×Int) (fun s=>[(11,.d (J (s.1:Int))),(3,.d (J s.2))]) (fun _=>[]) (fun s=>s.1≤l.length∧(Xv 0 l↔Xv s.2 (l.drop s.1))) (fun s=>l.length-s.1) (0,0) ⟨by simp,by simp⟩ ?_;intro⟨i,b⟩ ⟨hi,hp⟩ ih;simp only at hi hp;by_cases aa:i<l.length
  ·obtain⟨x,hx⟩:=Zp aa;have hw:=Zh (k:=i) o_;rw[Zrg hx] at hp;have ev:=QT x.Label x.W x.H x.Flaws;obtain⟨L,W,H,F⟩:=x;simp only at hp ev;by_cases hv:VPc ⟨L,W,H,F⟩
   ·rw[Kg hv] at ev;by_cases hb:L≤b
    ·have hn:¬VSt l:=fun h=>by have:=(hp.1 h.2).2.1;omega
     simp (maxSteps:=10^7) +contextual -implicitDefEqProofs only[go_sem,seval,hx,aa,hw,ev,hb,hn]
    ·simp (maxSteps:=10^7) +contextual -implicitDefEqProofs only[go_sem,seval,hx,aa,hw,ev,hb];refine ih (i+1,L) _ ⟨p_,?_⟩ p_ ?_
     ·rw[hp];exact⟨fun h=>h.2.2,fun h=>⟨hv,o_,h⟩⟩
     ·simp (maxSteps:=10^7) +contextual -implicitDefEqProofs only[go_sem,seval]
   ·rw[Ki hv] at ev;have hn:¬VSt l:=fun h=>hv (hp.1 h.2).1;simp (maxSteps:=10^7) +contextual -implicitDefEqProofs only[go_sem,seval,hx,aa,hw,ev,hn]
  ·have:i=l.length:=o_
   subst this;have hy:VSt l:=⟨ad,hp.2 ZtE⟩
   simp (maxSteps:=10^7) +contextual -implicitDefEqProofs only[go_sem,seval,hy]
def Zlp (l:List Zb):Nat→Int
 | 0=>0
 | j+1=>match l[j]? with
  | some x=>x.Label
  | none=>0
theorem Yn (l:List Zb) (hl:l.length<4611686018427387904) (hS:∀ x∈l,x.Flaws.length<4611686018427387904∧R64 x.W∧R64 x.H):v_ 92 [(.d (.sl (l.map Zb.enc)))] []=some ((.d (.bool (decide (VSt l)))),[]):=by
 refine cE ?_;simp (maxSteps:=10^7) +contextual -implicitDefEqProofs only[go_sem,seval,ZhX];refine LO (α:=Nat) (fun i=>[(3,.d (J (i:Int)))]) (fun _=>[]) (fun i=>i≤l.length∧(Xv 0 l↔Xv (Zlp l i) (l.drop i))) (fun i=>l.length-i) 0 ⟨by simp,by simp[Zlp]⟩ ?_;intro i ⟨hi,hp⟩ ih;by_cases aa:i<l.length
 ·obtain⟨x,hx⟩:=Zp aa;have hw:=Zh (k:=i) o_;rw[Zrg hx] at hp;obtain⟨ag,ah,ai⟩:=hS x (Kb hx);have ev:=Zgd x.Label x.W x.H x.Flaws ag ah ai;have ad:Zlp l (i+1)=x.Label:=by simp only[Zlp,hx]
  obtain⟨L,W,H,F⟩:=x;simp only at hp ev ad;by_cases hv:VPc ⟨L,W,H,F⟩
  ·rw[Kg hv] at ev;have hL:1≤L:=hv.1.1;cases i with
   | zero=>
    have ae : (0:Int)<(l.length:Int):=o_
    simp (maxSteps:=10^7) +contextual -implicitDefEqProofs only[go_sem,seval,hx,aa,ae,hw,ev];refine ih 1 _ ⟨o_,?_⟩ o_ ?_
    ·rw[hp,ad];exact⟨fun h=>h.2.2,fun h=>⟨hv,by simp only[Zlp];omega,h⟩⟩
    ·simp (maxSteps:=10^7) +contextual -implicitDefEqProofs only[go_sem,seval]
   | succ j=>
    obtain⟨y,hy⟩:=Zp (l:=l) (k:=j) o_;have aj:Zlp l (j+1)=y.Label:=by simp only[Zlp,hy]
    rw[aj] at hp;have hj:IntKind.i64.wrap (((j+1:Nat):Int)-1)=(j:Int):=by rw[WB o_ o_];omega
    have ab:(0:Int)<((j+1:Nat):Int):=o_
    have af:j<l.length:=o_
    obtain⟨L',W',H',F'⟩:=y;simp only at hp;by_cases hb:L≤L'
    ·have hn:¬VSt l:=fun h=>by have:=(hp.1 h.2).2.1;omega
     simp (maxSteps:=10^7) +contextual -implicitDefEqProofs only[go_sem,seval,hx,aa,hw,ev,ab,hj,af,hy,hb,hn]
    ·simp (maxSteps:=10^7) +contextual -implicitDefEqProofs only[go_sem,seval,hx,aa,hw,ev,ab,hj,af,hy,hb];refine ih (j+1+1) _ ⟨o_,?_⟩ o_ ?_
     ·rw[hp,ad];exact⟨fun h=>h.2.2,fun h=>⟨hv,o_,h⟩⟩
     ·simp (maxSteps:=10^7) +contextual -implicitDefEqProofs only[go_sem,seval]
  ·rw[Ki hv] at ev;have hn:¬VSt l:=fun h=>hv (hp.1 h.2).1;simp (maxSteps:=10^7) +contextual -implicitDefEqProofs only[go_sem,seval,hx,aa,hw,ev,hn]
 ·have:i=l.length:=o_
  subst this;have hs:=hp.2 ZtE;simp (maxSteps:=10^7) +contextual -implicitDefEqProofs only[go_sem,seval];exact ZaU (by simp only[VSt];constructor<;>(intro h;first | exact⟨o_,hs⟩ | (have:=h.1;omega)))
def Qz:Nat→List Zb→Int→Int
 | _,[],_=>-1
 | k,x :: l,n=>if x.Label=n then (k:Int) else Qz (k+1) l n
theorem ZtF {l:List Zb} {k:Nat} {x:Zb} {n:Int} (hx:l[k]?=some x):Qz k (l.drop k) n=if x.Label=n then (k:Int) else Qz (k+1) (l.drop (k+1)) n:=by
 obtain⟨h1,h2⟩:=Kc.1 hx;rw[Kx h1,h2,Qz]
theorem Zm1 (qL qW qH:Int) (qF:List Box) (n:Int):v_ 82 [(.d (.agg [J qL,J qW,J qH,.sl (qF.map Box.enc)])),.ptr 0 0] [.box [(.d (J n))]]=some ((.d (.bool (decide (qL=n)))),[.box [(.d (J n))]]):=by
 refine cE ?_;simp (maxSteps:=10^7) +contextual -implicitDefEqProofs only[go_sem,seval,Zgo]
theorem ZuV (l:List Zb) (n:Int) (hl:l.length<4611686018427387904):v_ 81 [(.d (.sl (l.map Zb.enc))),.clo 82 [.ptr 0 0]] [.box [(.d (J n))]]=some ((.d (J (Qz 0 l n))),[.box [(.d (J n))]]):=by
 refine cE ?_;simp (maxSteps:=10^7) +contextual -implicitDefEqProofs only[go_sem,seval,Zax];refine LO (α:=Nat) (fun k=>[(8,.d (J (k:Int)))]) (fun _=>[]) (fun k=>k≤l.length∧Qz k (l.drop k) n=Qz 0 l n) (fun k=>l.length-k) 0 ⟨o_,rfl⟩ ?_;intro k ⟨hk,hp⟩ ih;by_cases aa:k<l.length
 ·obtain⟨x,hx⟩:=Zp aa;rw[ZtF hx] at hp;have hw:=Zh (k:=k) o_;have e1:=Zm1 x.Label x.W x.H x.Flaws n;obtain⟨L,W,H,F⟩:=x;simp only at hp e1;by_cases h:L=n
  ·rw[Kj h] at hp;rw[Kg h] at e1;simp (maxSteps:=10^7) +contextual -implicitDefEqProofs only[go_sem,seval,hx,aa,hw,e1];rw[← hp]
  ·rw[Ke h] at hp;rw[Ki h] at e1;simp (maxSteps:=10^7) +contextual -implicitDefEqProofs only[go_sem,seval,hx,aa,hw,e1];refine ih (k+1) _ ⟨o_,hp⟩ o_ ?_;simp (maxSteps:=10^7) +contextual -implicitDefEqProofs only[go_sem,seval]
 ·have:k=l.length:=o_
  subst this;simp (maxSteps:=10^7) +contextual -implicitDefEqProofs only[go_sem,seval];rw[← hp];simp[Qz]
theorem Ya (l:List Zb) (n:Int) (hl:l.length<4611686018427387904):v_ 40 [(.d (.sl (l.map Zb.enc))),(.d (J n))] []=some ((.d (J (Qz 0 l n))),[]):=by
 refine cE ?_;simp (maxSteps:=10^7) +contextual -implicitDefEqProofs only[go_sem,seval,Zjm,ZuV l n hl]
theorem Yb (l:List Zb) (n:Int) (hl:l.length<4611686018427387904):v_ 97 [(.d (.sl (l.map Zb.enc))),(.d (J n))] []=some ((.d (J (Qz 0 l n))),[]):=by
 refine cE ?_;simp (maxSteps:=10^7) +contextual -implicitDefEqProofs only[go_sem,seval,Zjr];refine LO (α:=Nat) (fun k=>[(5,.d (J (k:Int)))]) (fun _=>[]) (fun k=>k≤l.length∧Qz k (l.drop k) n=Qz 0 l n) (fun k=>l.length-k) 0 ⟨o_,rfl⟩ ?_;intro k ⟨hk,hp⟩ ih;by_cases aa:k<l.length
 ·obtain⟨x,hx⟩:=Zp aa;rw[ZtF hx] at hp;have hw:=Zh (k:=k) o_;obtain⟨L,W,H,F⟩:=x;simp only at hp;by_cases h:L=n
  ·rw[Kj h] at hp;simp (maxSteps:=10^7) +contextual -implicitDefEqProofs only[go_sem,seval,hx,aa,hw,h];rw[← hp]
  ·rw[Ke h] at hp;simp (maxSteps:=10^7) +contextual -implicitDefEqProofs only[go_sem,seval,hx,aa,hw,h];refine ih (k+1) _ ⟨o_,hp⟩ o_ ?_;simp (maxSteps:=10^7) +contextual -implicitDefEqProofs only[go_sem,seval]
 ·have:k=l.length:=o_
  subst this;simp (maxSteps:=10^7) +contextual -implicitDefEqProofs only[go_sem,seval];rw[← hp];simp[Qz]
theorem U6 (qL qW qH:Int) (qF:List Box) (hF:qF.length≤1048576):v_ 131 [(.d (.agg [J qL,J qW,J qH,.sl (qF.map Box.enc)]))] []=some (.agg [(.d (J qL)),(.d (J qW)),(.d (J qH)),.own 0],[.row 4 (qF.map Box.enc) true false]):=by
 have hr:qF.length*32≤140737488355328∧qF.length≤140737488355328:=o_
 refine cE ?_;simp (maxSteps:=10^7) +contextual -implicitDefEqProofs only[go_sem,seval,Zjk,hr]
theorem YQ (qL qW qH:Int) (qF:List Box) (hF:qF.length≤1048576):v_ 136 [(.d (.agg [J qL,J qW,J qH,.sl (qF.map Box.enc)]))] []=some (.agg [(.d (J qL)),(.d (J qW)),(.d (J qH)),.own 0],[.row 4 (qF.map Box.enc) true false]):=by
 have hr:qF.length*32≤140737488355328∧qF.length≤140737488355328:=o_
 refine cE ?_;simp (maxSteps:=10^7) +contextual -implicitDefEqProofs only[go_sem,seval,Zjp,hr]
theorem Zcb:∀ (F:List Box),Ju D.flat (F.map Box.enc)=true
 | []=>rfl
 | x :: F=>by simp only[Kk,Ju,Zcb F,L6];rfl
theorem Zcc (l:List Zb) (hl:l.length≤1048576) (hF:∀ x∈l,x.Flaws.length≤1048576):v_ 91 [(.d (.sl (l.map Zb.enc)))] []=some (.own 0,[.tree 4 4 (l.map Zb.enc) none]):=by
 refine cE ?_;simp (maxSteps:=10^7) +contextual -implicitDefEqProofs only[go_sem,seval,Zjb];refine LO (α:=Nat) (fun i=>[(8,.d (J (i:Int)))]) (fun i=>[(0,.tree 4 4 ((l.take i).map Zb.enc) none)]) (fun i=>i≤l.length) (fun i=>l.length-i) 0 o_ ?_;intro i hi ih;by_cases aa:i<l.length
 ·obtain⟨x,hx⟩:=Zp aa;have hw:=Zh (k:=i) o_;have hm:l.take (i+1)=l.take i++[x]:=by rw[KH,hx];simp
  have ad:(l.take i).length≤i:=by simp;omega
  have hr:((l.take i).length+1)*48≤140737488355328∧(l.take i).length≤140737488355327:=o_
  have e:=U6 x.Label x.W x.H x.Flaws (hF x (Kb hx));obtain⟨L,W,H,F⟩:=x;simp only at e;have ab:=Zcb F;simp (maxSteps:=10^7) +contextual -implicitDefEqProofs only[go_sem,seval,hx,aa,hw,e,hr,ab];refine ih (i+1) _ o_ o_ ?_;simp (maxSteps:=10^7) +contextual -implicitDefEqProofs only[go_sem,seval,hm]
  first | rfl | (simp;done) | (simp;rfl)
 ·have:i=l.length:=o_
  subst this;simp (maxSteps:=10^7) +contextual -implicitDefEqProofs only[go_sem,seval];simp
theorem Zx8 {α:Type} {l:List α} {i a:Nat} {x:α} (hx:l[i]?=some x) (h:i≠a):(l.take (i+1)).eraseIdx a=(l.take i).eraseIdx a++[x]:=by
 have h1:=(Kc.1 hx).1;have e:l.take (i+1)=l.take i++[x]:=by rw[KH,hx];simp
 rw[e];have hl:(l.take i).length=i:=by simp;omega
 rcases K7 a i with h2 | h2
 ·rw[List.eraseIdx_append_of_lt_length o_]
 ·rw[Kap (by simp;omega),Kap o_]
theorem Zx9 {α:Type} {l:List α} {i:Nat} {x:α} (hx:l[i]?=some x):(l.take (i+1)).eraseIdx i=(l.take i).eraseIdx i:=by
 have h1:=(Kc.1 hx).1;have e:l.take (i+1)=l.take i++[x]:=by rw[KH,hx];simp
 have hl:(l.take i).length=i:=by simp;omega
 rw[e,List.eraseIdx_append_of_length_le o_,hl];simp;rw[Kap o_]
theorem Zm2 {α:Type} (l:List α) (a:Nat):(l.eraseIdx a).length≤l.length:=by
 have:=List.length_eraseIdx_le l a;omega
theorem Zft (l:List Zb) (a:Nat) (hl:l.length≤1048576) (hF:∀ x∈l,x.Flaws.length≤1048576):v_ 95 [(.d (.sl (l.map Zb.enc))),(.d (J a))] []=some (.own 0,[.row 4 ((l.eraseIdx a).map Zb.enc) true false]):=by
 refine cE ?_;simp (maxSteps:=10^7) +contextual -implicitDefEqProofs only[go_sem,seval,ZhS];refine LO (α:=Nat) (fun i=>[(6,.d (J (i:Int)))]) (fun i=>[(0,.row 4 (((l.take i).eraseIdx a).map Zb.enc) true false)]) (fun i=>i≤l.length) (fun i=>l.length-i) 0 o_ ?_;intro i hi ih;by_cases aa:i<l.length
 ·obtain⟨x,hx⟩:=Zp aa;have hw:=Zh (k:=i) o_;by_cases ab:i=a
  ·subst ab;have hm:=Zx9 hx;simp (maxSteps:=10^7) +contextual -implicitDefEqProofs only[go_sem,seval,hx,aa,hw];refine ih (i+1) _ o_ o_ ?_;simp (maxSteps:=10^7) +contextual -implicitDefEqProofs only[go_sem,seval,hm]
  ·have hm:=Zx8 hx ab;have ad:((l.take i).eraseIdx a).length≤i:=Ku (Zm2 _ _) (by simp;omega);have hr:(((l.take i).eraseIdx a).length+1)*48≤140737488355328∧((l.take i).eraseIdx a).length≤140737488355327:=o_
   have e:=YQ x.Label x.W x.H x.Flaws (hF x (Kb hx));obtain⟨L,W,H,F⟩:=x;simp only at e;simp (maxSteps:=10^7) +contextual -implicitDefEqProofs only[go_sem,seval,hx,aa,hw,ab,e,hr];refine ih (i+1) _ o_ o_ ?_;simp (maxSteps:=10^7) +contextual -implicitDefEqProofs only[go_sem,seval,hm]
   first | rfl | (simp;done) | (simp;rfl)
 ·have:i=l.length:=o_
  subst this;simp (maxSteps:=10^7) +contextual -implicitDefEqProofs only[go_sem,seval];simp
def Vm (l:List Zb):Int:=Zlp l l.length
theorem Zm3 {l:List Zb} {x:Zb} (hx:l[l.length-1]?=some x):Vm l=x.Label:=by
 have h:=(Kc.1 hx).1;unfold Vm;obtain⟨n,hn⟩:∃ n,l.length=n+1:=⟨l.length-1,o_⟩
 rw[hn] at hx ⊢;simp only[Zlp];simp only[Nat.add_sub_cancel] at hx;rw[hx]
theorem Zhm (l:List Zb) (hl:l.length<4611686018427387904):v_ 186 [(.d (.sl (l.map Zb.enc)))] []=some ((.d (J (Vm l))),[]):=by
 by_cases h0:l.length=0
 ·have e:Vm l=0:=by unfold Vm;rw[h0];rfl
  have aa : (l.length:Int)=0:=o_
  rw[e];refine cE ?_;simp (maxSteps:=10^7) +contextual -implicitDefEqProofs only[go_sem,seval,Zeb,aa]
 ·obtain⟨x,hx⟩:=Zp (l:=l) (k:=l.length-1) o_;have e:=Zm3 hx;have hn:¬(l.length:Int)=0:=o_
  have hw:IntKind.i64.wrap ((l.length:Int)-1)=((l.length-1:Nat):Int):=by rw[WB o_ o_];omega
  have ab:l.length-1<l.length:=o_
  obtain⟨L,W,H,F⟩:=x;simp only at e;refine cE ?_;simp (maxSteps:=10^7) +contextual -implicitDefEqProofs only[go_sem,seval,Zeb,hn,hw,hx,ab,e]
theorem Zrh:∀ (l:List Zb) (k:Nat) (n:Int),Qz k l n=-1∨∃ i:Nat,Qz k l n=((k+i:Nat):Int)∧i<l.length
 | [],k,n=>.inl rfl
 | x :: l,k,n=>by
  unfold Qz;split
  ·exact .inr ⟨0,by simp,by simp⟩
  ·rcases Zrh l (k+1) n with h | ⟨i,h1,h2⟩
   ·exact .inl h
   ·exact .inr ⟨i+1,by rw[h1];congr 1;omega,by simp;omega⟩
theorem ZU:∀ {l:List Zb} {b:Int},Xv b l→∀ x∈l,VPc x
 | [],_,_,x,hx=>by simp at hx
 | y :: l,b,h,x,hx=>by
  rcases Kd.1 hx with rfl | hx
  ·exact h.1
  ·exact ZU h.2.2 x hx
theorem Zbw {l:List Zb} (h:VSt l):l.length≤1048576∧∀ x∈l,x.Flaws.length≤1048576:=by
 refine⟨by have:=h.1;omega,fun x hx=>?_⟩;have:=(ZU h.2 x hx).1.2.2.2.2.2.2;omega
theorem Zhn (l:List Zb) (n:Int) (h:¬(VSt l∧0≤Qz 0 l n)):v_ 159 [(.d (.sl (l.map Zb.enc))),(.d (J n))] [] =
  some (.tup [.agg [(.d (J 0)),(.d (J 0)),(.d (J 0)),.own 0],.own 1,(.d (.bool false))],[.row 4 [] true false,.row 4 [] true false]):=by
 have ev:=Ym l;by_cases hv:VSt l
 ·rw[Kg hv] at ev;have hf:=Ya l n (by have:=hv.1;omega);have hn:Qz 0 l n<0:=by
   rcases Int.lt_or_le (Qz 0 l n) 0 with h1 | h1
   ·exact h1
   ·exact absurd ⟨hv,h1⟩ h
  refine cE ?_;simp (maxSteps:=10^7) +contextual -implicitDefEqProofs only[go_sem,seval,Zai,ev,hf,hn]
 ·rw[Ki hv] at ev;refine cE ?_;simp (maxSteps:=10^7) +contextual -implicitDefEqProofs only[go_sem,seval,Zai,ev]
theorem Zgh (l:List Zb) (n:Int) (hv:VSt l) (i:Nat) (hi:Qz 0 l n=(i:Int)) (qL qW qH:Int) (qF:List Box) (hx:l[i]?=some (Zb.mk qL qW qH qF)):v_ 159 [(.d (.sl (l.map Zb.enc))),(.d (J n))] [] =
  some (.tup [.agg [(.d (J qL)),(.d (J qW)),(.d (J qH)),.own 0],.own 1,(.d (.bool true))],[.row 4 (qF.map Box.enc) true false,.tree 4 4 ((l.eraseIdx i).map Zb.enc) none]):=by
 have ev:=Ym l;rw[Kg hv] at ev;have ab:i<l.length:=(Kc.1 hx).1;have ad:=hv.1;obtain⟨h1,h2⟩:=Zbw hv;have hf:=Ya l n o_;rw[hi] at hf;have hw:=Zh (k:=i) o_;have c1:=Zcc (l.take i) (by simp;omega) (fun x hx=>h2 x (KY hx));have c2:=Zcc (l.drop (i+1)) (by simp;omega) (fun x hx=>h2 x (L3 hx));have e:=U6 qL qW qH qF (h2 (Zb.mk qL qW qH qF) (Kb hx));have hr:((l.take i).length+(l.drop (i+1)).length)*48≤140737488355328∧(l.take i).length+(l.drop (i+1)).length≤140737488355328:=by simp;omega
 have ae:i≤l.length:=o_
 have aa:i+1≤l.length:=o_
 have af:¬(i:Int)<0:=o_
 rw[List.eraseIdx_eq_take_drop_succ];refine cE ?_;simp (maxSteps:=10^7) +contextual -implicitDefEqProofs only[go_sem,seval,Zai,Zod,ev,hf,af,hw,hx,ab,ae,aa,c1,c2,e,hr,Ln]
theorem Zya {b c:Int} (h:b≤c):∀ {l:List Zb},Xv c l→Xv b l
 | [],_=>trivial
 | x :: l,hs=>⟨hs.1,by have:=hs.2.1;omega,hs.2.2⟩
theorem Zho:∀ {l:List Zb} {b:Int} (i:Nat),Xv b l→Xv b (l.eraseIdx i)
 | [],b,i,_=>by simp[Xv]
 | x :: l,b,0,h=>by
  simp only[List.eraseIdx_cons_zero];exact Zya (by have:=h.2.1;omega) h.2.2
 | x :: l,b,i+1,h=>by
  simp only[List.eraseIdx_cons_succ];exact⟨h.1,h.2.1,Zho i h.2.2⟩
theorem Zm4:∀ {l:List Zb} {b:Int},Xv b l→∀ (i j:Nat) (x y:Zb),i≤j→l[i]?=some x→l[j]?=some y→x.Label≤y.Label∧b<x.Label
 | [],b,_,i,j,x,y,_,hx,_=>by simp at hx
 | z :: l,b,h,0,0,x,y,_,hx,hy=>by
  simp at hx hy;subst hx;subst hy;exact⟨Kab _,h.2.1⟩
 | z :: l,b,h,0,j+1,x,y,_,hx,hy=>by
  simp at hx hy;subst hx;have:=(Zm4 h.2.2 j j y y (Kp _) hy hy).2;exact⟨o_,h.2.1⟩
 | z :: l,b,h,i+1,j+1,x,y,hij,hx,hy=>by
  simp at hx hy;have:=Zm4 h.2.2 i j x y o_ hx hy;have h2:=h.2.1;exact⟨this.1,o_⟩
 | z :: l,b,h,i+1,0,x,y,hij,hx,hy=>by omega
theorem Zri {q:Zb} (hq:VPc q):∀ {L:List Box} {n c:Int},c<n→1≤n→(∀ b∈L,VB b∧QE b ⟨0,0,q.W,q.H⟩)→(Xv c (Uj q n L)↔(L=[]∨(L.length:Int)≤10000-n))
 | [],n,c,_,_,_=>by simp[Uj,Xv]
 | b :: L,n,c,hc,h1,hb=>by
  have ih:=Zri hq (L:=L) (n:=n+1) (c:=n) o_ o_ (fun d hd=>hb d (by simp[hd]));have hv:VPc (ZmE q b n)↔n≤9999:=⟨fun h=>by have:=h.1.2.1;simpa [ZmE] using this,fun h=>ZxT hq (hb b (by simp)).1 (hb b (by simp)).2 h1 h⟩
  simp only[Uj,Xv,hv,ih];have e:(ZmE q b n).Label=n:=rfl;rw[e,ih];have hl:((b :: L).length:Int)=L.length+1:=by simp
  constructor
  ·rintro ⟨g1,g2,g3⟩
   right
   rcases g3 with rfl | g3
   ·simp only[Kn,KL];omega
   ·omega
  ·rintro (g | g)
   ·cases g
   ·refine⟨o_,hc,?_⟩;by_cases h0:L=[]
    ·exact .inl h0
    ·exact .inr o_
theorem ZtG {B:List Zb} {n:Int} {Q:Prop} (hB:∀ c,c<n→(Xv c B↔Q)):∀ {A:List Zb} {b:Int},Xv b A→(∀ x∈A,x.Label<n)→b<n→(Xv b (A++B)↔Q)
 | [],b,_,_,hb=>hB b hb
 | x :: A,b,h,hx,hb=>by
  have ih:=ZtG hB h.2.2 (fun y hy=>hx y (by simp[hy])) (hx x (by simp));simp only[KA,Xv,ih];exact⟨fun g=>g.2.2,fun g=>⟨h.1,h.2.1,g⟩⟩
theorem Zrj {l:List Zb} (hv:VSt l) (ab:0<l.length):1≤Vm l∧Vm l≤9999∧∀ x∈l,x.Label≤Vm l:=by
 obtain⟨y,hy⟩:=Zp (l:=l) (k:=l.length-1) o_;rw[Zm3 hy];have aa:=(ZU hv.2 y (Kb hy)).1;refine⟨aa.1,aa.2.1,fun x hx=>?_⟩;obtain⟨i,hi⟩:=LA hx;have:=(Kc.1 hi).1;exact(Zm4 hv.2 i (l.length-1) x y o_ hi hy).1
def ZoJ (l:List Zb) (i:Nat) (x:Zb) (k:Zt) (p:Zf) (Zj:Int):List Zb:=l.eraseIdx i++Uj x (Vm l+1) (Q7 k p Zj)
theorem ZDe {l:List Zb} {i:Nat} {x:Zb} {k:Zt} {p:Zf} {Zj:Int} (hv:VSt l) (hx:l[i]?=some x) (hg:YY x k p) :
  VSt (ZoJ l i x k p Zj)↔((Q7 k p Zj).length:Int)≤10000-(Vm l+1)∧(l.eraseIdx i).length+(Q7 k p Zj).length≤20:=by
 have ab:=(Kc.1 hx).1;obtain⟨h1,h2,h3⟩:=Zrj hv o_;have hq:=ZU hv.2 x (Kb hx);have aa:∀ b∈Q7 k p Zj,VB b∧QE b ⟨0,0,x.W,x.H⟩:=fun b hb=>by
  have:=ZqD (Zj:=Zj) hg.1 b hb;rw[← hg.2.1,← hg.2.2.1];exact this
 have hs:=ZtG (n:=Vm l+1) (fun c hc=>Zri hq hc o_ aa) (Zho i hv.2) (fun y hy=>by have:=h3 y (L8 hy);omega) o_;unfold VSt ZoJ;rw[hs,Kr,ZbY];constructor
 ·rintro ⟨g1,g2 | g2⟩
  ·exact⟨by rw[g2];simp;omega,g1⟩
  ·exact⟨g2,g1⟩
 ·rintro ⟨g1,g2⟩
  exact⟨g2,.inr g1⟩
def Zar (l:List Zb) (n:Int) (k:Zt) (p:Zf) (Zj:Int):Option (List Zb):=
 if VSt l∧0≤Qz 0 l n∧1≤Zj∧Zj≤200 then
  match l[(Qz 0 l n).toNat]? with
  | some x=>if YY x k p∧VSt (ZoJ l (Qz 0 l n).toNat x k p Zj) then some (ZoJ l (Qz 0 l n).toNat x k p Zj) else none
  | none=>none
 else none
def ZuW:Option (List Zb)→AV×List Zk
 | some R=>(.tup [.own 0,(.d (.bool true))],[.row 4 (R.map Zb.enc) true false])
 | none=>(.tup [.own 0,(.d (.bool false))],[.row 4 [] true false])
theorem Zas {l:List Zb} {n:Int} (h:0≤Qz 0 l n):∃ (i:Nat) (x:Zb),Qz 0 l n=(i:Int)∧l[i]?=some x:=by
 rcases Zrh l 0 n with h1 | ⟨i,h1,h2⟩
 ·omega
 ·obtain⟨x,hx⟩:=Zp h2;exact⟨i,x,by rw[h1];simp,hx⟩
def ZuX:Option (List Zb)→AV×List Zk
 | some R=>(.tup [.own 0,(.d (.bool true))],[.tree 4 4 (R.map Zb.enc) none])
 | none=>(.tup [.own 0,(.d (.bool false))],[.row 4 [] true false])
theorem Zsc (l:List Zb) (n:Int) (kW kH:Int) (kP:List Pane) (p:Zf) (Zj:Int):v_ 154 [(.d (.sl (l.map Zb.enc))),(.d (J n)),(.d (.agg [J kW,J kH,.sl (kP.map Pane.enc)])),.d p.enc,(.d (J Zj))] []=some (ZuX (Zar l n (Zt.mk kW kH kP) p Zj)):=by
 by_cases h:VSt l∧0≤Qz 0 l n
 ·obtain⟨hv,hf⟩:=h;obtain⟨i,x,hi,hx⟩:=Zas hf;have ah:=(Kc.1 hx).1;have hq:=ZU hv.2 x (Kb hx);have ai:=Zrj hv o_;obtain⟨y,hy⟩:=Zp (l:=l) (k:=l.length-1) o_;have ad:=Zm3 hy;have af:=hv.1;have aa:=ZDe (k:=(Zt.mk kW kH kP)) (p:=p) (Zj:=Zj) hv hx;have et:=fun q1 q2 q3 q4 h=>Zgh l n hv i hi q1 q2 q3 q4 h;unfold Zar;rw[hi];simp only[Ky,hx];obtain⟨L,W,H,F⟩:=x;have et:=et L W H F hx;have eg:=Zr4 L W H F kW kH kP p;have aj:(l.eraseIdx i).length≤20:=Ku (Zm2 _ _) af;have ab:l.length-1<l.length:=o_
  have w1:IntKind.i64.wrap ((l.length:Int)-1)=((l.length-1:Nat):Int):=by rw[WB o_ o_];omega
  have w2:=wi (Vm l+1) o_ o_;by_cases hg:YY ⟨L,W,H,F⟩ (Zt.mk kW kH kP) p
  ·have hd:decide (VPc ⟨L,W,H,F⟩∧YY ⟨L,W,H,F⟩ (Zt.mk kW kH kP) p)=true:=Kg ⟨hq,hg⟩;rw[hd] at eg;by_cases hl:1≤Zj∧Zj≤200
   ·have n1:¬Zj<1:=o_
    have n2:¬200<Zj:=o_
    have ag:=Zit (Zt.mk kW kH kP) p Zj;by_cases hk:((Q7 (Zt.mk kW kH kP) p Zj).length:Int)≤10000-(Vm l+1)
    ·have er:=Zlf L W H F kW kH kP p Zj (Vm l+1) hq hg.1 hg.2.1 hg.2.2.1 o_ o_ hk;have w3:=wi (((l.eraseIdx i).length:Int)+((Q7 (Zt.mk kW kH kP) p Zj).length:Int)) o_ o_;have ae:=ZbY ⟨L,W,H,F⟩ (Vm l+1) (Q7 (Zt.mk kW kH kP) p Zj);by_cases h2:(l.eraseIdx i).length+(Q7 (Zt.mk kW kH kP) p Zj).length≤20
     ·rw[Kj ⟨hv,o_,hl⟩,Kj ⟨hg,(aa hg).2 ⟨hk,h2⟩⟩];unfold ZoJ ZuX;have n3:¬(20:Int)<((l.eraseIdx i).length:Int)+((Q7 (Zt.mk kW kH kP) p Zj).length:Int):=o_
      have hr:((l.eraseIdx i).length+(Q7 (Zt.mk kW kH kP) p Zj).length)*48≤140737488355328∧(l.eraseIdx i).length+(Q7 (Zt.mk kW kH kP) p Zj).length≤140737488355328:=o_
      clear aa hg hd;generalize Uj ⟨L,W,H,F⟩ (Vm l+1) (Q7 (Zt.mk kW kH kP) p Zj)=R at er ae ⊢;generalize (Q7 (Zt.mk kW kH kP) p Zj).length=N at *;obtain⟨yL,yW,yH,yF⟩:=y;simp only at ad;rw[ad] at er w2;obtain⟨o,a,m,t,ks⟩:=p;rw[Zf.enc_mk] at er eg ⊢;refine cE ?_;simp (maxSteps:=10^7) +contextual -implicitDefEqProofs only[go_sem,seval,Yv,et,eg,n1,n2,w1,hy,ab,w2,er,ae,w3,n3,hr]
     ·rw[Kj ⟨hv,o_,hl⟩,Ke (fun h=>h2 ((aa hg).1 h.2).2)];unfold ZuX;have n3:(20:Int)<((l.eraseIdx i).length:Int)+((Q7 (Zt.mk kW kH kP) p Zj).length:Int):=o_
      clear aa hg hd;generalize Uj ⟨L,W,H,F⟩ (Vm l+1) (Q7 (Zt.mk kW kH kP) p Zj)=R at er ae ⊢;generalize (Q7 (Zt.mk kW kH kP) p Zj).length=N at *;obtain⟨yL,yW,yH,yF⟩:=y;simp only at ad;rw[ad] at er w2;obtain⟨o,a,m,t,ks⟩:=p;rw[Zf.enc_mk] at er eg ⊢;refine cE ?_;simp (maxSteps:=10^7) +contextual -implicitDefEqProofs only[go_sem,seval,Yv,et,eg,n1,n2,w1,hy,ab,w2,er,ae,w3,n3]
    ·have er:=ZmO L W H F kW kH kP p Zj (Vm l+1) o_ o_ hk;rw[Kj ⟨hv,o_,hl⟩,Ke (fun h=>hk ((aa hg).1 h.2).1)];unfold ZuX;clear aa hg hd hk ag;obtain⟨yL,yW,yH,yF⟩:=y;simp only at ad;rw[ad] at er w2;obtain⟨o,a,m,t,ks⟩:=p;rw[Zf.enc_mk] at er eg ⊢;refine cE ?_;simp (maxSteps:=10^7) +contextual -implicitDefEqProofs only[go_sem,seval,Yv,et,eg,n1,n2,w1,hy,ab,w2,er]
   ·rw[Ke (fun h=>hl ⟨h.2.2.1,h.2.2.2⟩)];unfold ZuX;clear aa hg hd;obtain⟨o,a,m,t,ks⟩:=p;rw[Zf.enc_mk] at eg ⊢;by_cases n1:Zj<1
    ·refine cE ?_;simp (maxSteps:=10^7) +contextual -implicitDefEqProofs only[go_sem,seval,Yv,et,eg,n1]
    ·have n2:200<Zj:=o_
     refine cE ?_;simp (maxSteps:=10^7) +contextual -implicitDefEqProofs only[go_sem,seval,Yv,et,eg,n1,n2]
  ·have hd:decide (VPc ⟨L,W,H,F⟩∧YY ⟨L,W,H,F⟩ (Zt.mk kW kH kP) p)=false:=Ki fun h=>hg h.2;rw[hd] at eg;have e0:(if VSt l∧(0:Int)≤(i:Int)∧1≤Zj∧Zj≤200 then (if YY ⟨L,W,H,F⟩ (Zt.mk kW kH kP) p∧VSt (ZoJ l i ⟨L,W,H,F⟩ (Zt.mk kW kH kP) p Zj) then some (ZoJ l i ⟨L,W,H,F⟩ (Zt.mk kW kH kP) p Zj) else none) else none)=none:=by
    rw[Ke (fun h:YY ⟨L,W,H,F⟩ (Zt.mk kW kH kP) p∧_=>hg h.1)];split<;>rfl
   rw[e0];unfold ZuX;clear aa hg hd e0;obtain⟨o,a,m,t,ks⟩:=p;rw[Zf.enc_mk] at eg ⊢;refine cE ?_;simp (maxSteps:=10^7) +contextual -implicitDefEqProofs only[go_sem,seval,Yv,et,eg]
 ·have et:=Zhn l n h;have e0:Zar l n (Zt.mk kW kH kP) p Zj=none:=by
   unfold Zar;rw[Ke (fun g=>h ⟨g.1,g.2.1⟩)]
  rw[e0];unfold ZuX;clear e0;obtain⟨o,a,m,t,ks⟩:=p;rw[Zf.enc_mk];refine cE ?_;simp (maxSteps:=10^7) +contextual -implicitDefEqProofs only[go_sem,seval,Yv,et]
theorem Zyb {l:List Zb} {i:Nat} {x:Zb} {k:Zt} {p:Zf} {Zj:Int} (hv:VSt l) (hx:l[i]?=some x) (hg:YY x k p) :
  (ZoJ l i x k p Zj).length≤1000∧∀ y∈ZoJ l i x k p Zj,y.Flaws.length<4611686018427387904∧R64 y.W∧R64 y.H:=by
 have hq:=ZU hv.2 x (Kb hx);refine⟨?_,fun y hy=>?_⟩
 ·unfold ZoJ;rw[Kr,ZbY];have:=Zit k p Zj;have:=Zm2 l i;have:=hv.1;omega
 ·rcases Kh.1 hy with hy | hy
  ·have h:=ZU hv.2 y (L8 hy);have h1:=h.1;exact⟨o_,⟨o_,o_⟩,⟨o_,o_⟩⟩
  ·obtain⟨j,hj⟩:=LA hy;obtain⟨b,hb,rfl⟩:=ZwD x _ _ j y hj;have aa:=(ZqD (Zj:=Zj) hg.1 b (Kb hb)).1;simp only[VB] at aa;have ab:=Kq (Yt b) x.Flaws;have ad:=hq.1.2.2.2.2.2.2;simp only[ZmE];exact⟨o_,⟨o_,o_⟩,⟨o_,o_⟩⟩
theorem Zsd (l:List Zb) (n:Int) (kW kH:Int) (kP:List Pane) (p:Zf) (Zj:Int) (hl:l.length≤1048576) (hS:∀ x∈l,x.Flaws.length≤1048576∧R64 x.W∧R64 x.H) (hk:kP.length<4611686018427387904):v_ 145 [(.d (.sl (l.map Zb.enc))),(.d (J n)),(.d (.agg [J kW,J kH,.sl (kP.map Pane.enc)])),.d p.enc,(.d (J Zj))] []=some (ZuW (Zar l n (Zt.mk kW kH kP) p Zj)):=by
 have ev:=Yn l o_ (fun x hx=>by obtain⟨g1,g2,g3⟩:=hS x hx;exact⟨o_,g2,g3⟩);have ef:=Yb l n o_;unfold Zar;by_cases hv:VSt l
 ·rw[Kg hv] at ev;by_cases hf:0≤Qz 0 l n
  ·obtain⟨i,x,hi,hx⟩:=Zas hf;rw[hi] at ef ⊢;have ad:¬(i:Int)<0:=o_
   have af:=(Kc.1 hx).1;simp only[Ky,hx];by_cases hr:1≤Zj∧Zj≤200
   ·have hq:=ZU hv.2 x (Kb hx);have al:=Zrj hv o_;have ew:=Zft l i o_ (fun x hx=>by have:=(hS x hx).1;omega);have el:=Zhm l o_;have w2:=wi (Vm l+1) o_ o_;rw[Kj ⟨hv,o_,hr⟩];by_cases hg:YY x (Zt.mk kW kH kP) p
    ·have ag:=Zyb (Zj:=Zj) hv hx hg;have aa:=Yn (ZoJ l i x (Zt.mk kW kH kP) p Zj) o_ ag.2;have aj:(l.eraseIdx i).length≤20:=Ku (Zm2 _ _) hv.1;have am:=Zit (Zt.mk kW kH kP) p Zj;obtain⟨L,W,H,F⟩:=x;have eg:=Zi7 L W H F kW kH kP p (fun f hf=>(hq.2 f hf).1) hq.1.2.2.2.2.2.2 hk;have er:=Zr6 L W H F kW kH kP p Zj (Vm l+1) hq hg.1 o_ o_;rw[Kg hg] at eg;have ae:=ZbY ⟨L,W,H,F⟩ (Vm l+1) (Q7 (Zt.mk kW kH kP) p Zj);have ai:((l.eraseIdx i).length+(Q7 (Zt.mk kW kH kP) p Zj).length)*48≤140737488355328∧(l.eraseIdx i).length+(Q7 (Zt.mk kW kH kP) p Zj).length≤140737488355328:=o_
     unfold ZoJ at aa ⊢;have ah:=hg;clear hg;by_cases ab:VSt (l.eraseIdx i++Uj ⟨L,W,H,F⟩ (Vm l+1) (Q7 (Zt.mk kW kH kP) p Zj))
     ·rw[Kg ab] at aa;rw[Kj ⟨ah,ab⟩];unfold ZuW;clear ab ag ah;generalize Uj ⟨L,W,H,F⟩ (Vm l+1) (Q7 (Zt.mk kW kH kP) p Zj)=R at er ae aa ⊢;generalize (Q7 (Zt.mk kW kH kP) p Zj).length=N at *;obtain⟨o,a,m,t,ks⟩:=p;rw[Zf.enc_mk] at er eg ⊢;refine cE ?_;simp (maxSteps:=10^7) +contextual -implicitDefEqProofs only[go_sem,seval,Vc,ev,ef,ad,ZI,hr,hx,af,eg,ew,el,w2,er,ae,ai,aa]
     ·rw[Ki ab] at aa;rw[Ke (fun h=>ab h.2)];unfold ZuW;clear ab ag ah;generalize Uj ⟨L,W,H,F⟩ (Vm l+1) (Q7 (Zt.mk kW kH kP) p Zj)=R at er ae aa ⊢;generalize (Q7 (Zt.mk kW kH kP) p Zj).length=N at *;obtain⟨o,a,m,t,ks⟩:=p;rw[Zf.enc_mk] at er eg ⊢;refine cE ?_;simp (maxSteps:=10^7) +contextual -implicitDefEqProofs only[go_sem,seval,Vc,ev,ef,ad,ZI,hr,hx,af,eg,ew,el,w2,er,ae,ai,aa]
    ·rw[Ke (fun h=>hg h.1)];obtain⟨L,W,H,F⟩:=x;have eg:=Zi7 L W H F kW kH kP p (fun f hf=>(hq.2 f hf).1) hq.1.2.2.2.2.2.2 hk;rw[Ki hg] at eg;unfold ZuW;clear hg;obtain⟨o,a,m,t,ks⟩:=p;rw[Zf.enc_mk] at eg ⊢;refine cE ?_;simp (maxSteps:=10^7) +contextual -implicitDefEqProofs only[go_sem,seval,Vc,ev,ef,ad,ZI,hr,hx,af,eg]
   ·rw[Ke (fun h=>hr h.2.2)];unfold ZuW;obtain⟨o,a,m,t,ks⟩:=p;rw[Zf.enc_mk];refine cE ?_;simp (maxSteps:=10^7) +contextual -implicitDefEqProofs only[go_sem,seval,Vc,ev,ef,ad,ZI,hr]
  ·rw[Ke (fun h=>hf h.2.1)];have ak : Qz 0 l n<0:=o_
   unfold ZuW;obtain⟨o,a,m,t,ks⟩:=p;rw[Zf.enc_mk];refine cE ?_;simp (maxSteps:=10^7) +contextual -implicitDefEqProofs only[go_sem,seval,Vc,ev,ef,ak]
 ·rw[Ki hv] at ev;rw[Ke (fun h=>hv h.1)];unfold ZuW;obtain⟨o,a,m,t,ks⟩:=p;rw[Zf.enc_mk];refine cE ?_;simp (maxSteps:=10^7) +contextual -implicitDefEqProofs only[go_sem,seval,Vc,ev]
theorem Zrk (l:List Zb) (hv:VSt l):v_ 77 [(.d (.sl (l.map Zb.enc)))] []=some ((.d (J (YH l))),[]):=by
 have ev:=Ym l;rw[Kg hv] at ev;have af:=hv.1;have aa:∀ x∈l,1≤x.W∧x.W≤200∧1≤x.H∧x.H≤200:=fun x hx=>by
  have:=(ZU hv.2 x hx).1;omega
 clear hv;refine cE ?_;simp (maxSteps:=10^7) +contextual -implicitDefEqProofs only[go_sem,seval,Zjn,ev];refine LO (α:=Nat) (fun i=>[(11,.d (J (i:Int))),(3,.d (J (YH (l.take i))))]) (fun _=>[]) (fun i=>i≤l.length) (fun i=>l.length-i) 0 o_ ?_;intro i hi ih;by_cases ab:i<l.length
 ·obtain⟨x,hx⟩:=Zp ab;have hw:=Zh (k:=i) o_;have hm:=Zrf hx;have ag:=Zbc (l:=l.take i) (fun y hy=>aa y (KY hy));have ah:(l.take i).length≤i:=by simp;omega
  have g5:=aa x (Kb hx);have ad:x.W*x.H≤200*200:=Kao o_ o_ o_ o_;have ae:0≤x.W*x.H:=Kan o_ o_;obtain⟨xL,xW,xH,xF⟩:=x;simp only at g5 hm ad ae;have u0:=wi (xW*xH) o_ o_;have u1:=wi (YH (l.take i)+xW*xH) o_ o_;simp (maxSteps:=10^7) +contextual -implicitDefEqProofs only[go_sem,seval,hx,ab,hw,u0,u1];refine ih (i+1) _ o_ o_ ?_;simp (maxSteps:=10^7) +contextual -implicitDefEqProofs only[go_sem,seval,hm]
 ·have:i=l.length:=o_
  subst this;simp (maxSteps:=10^7) +contextual -implicitDefEqProofs only[go_sem,seval,Ln]
end Go.Proofs.YtfnegoimdljanaaGreatDoor
namespace Go.Proofs.YtfnegoimdljanaaGreatDoor
open Go Go.Abs Go.Abs.E Go.Abs.L
set_option maxRecDepth 20000
set_option maxHeartbeats 4000000
def ZjZ:List Pane→List Zc→Prop
 | _,[]=>True
 | q,x :: l=>VP x.Pane∧x.Pane∉q∧1≤x.Count∧x.Count≤24∧ZjZ (q++[x.Pane]) l
instance ordGdec:∀ (q:List Pane) (l:List Zc),Decidable (ZjZ q l)
 | _,[]=>.isTrue trivial
 | q,x :: l=>by
  unfold ZjZ;have:=ordGdec (q++[x.Pane]) l
  infer_instance
def Qo:List Zc→Int
 | []=>0
 | x :: l=>x.Count+Qo l
def JX (l:List Zc):Prop:=l.length≤8∧ZjZ [] l∧Qo l≤24
instance (l:List Zc):Decidable (JX l):=by unfold JX;infer_instance
theorem ZtH {l:List Zc} {k:Nat} {x:Zc} {q:List Pane} (hx:l[k]?=some x):ZjZ q (l.drop k)↔VP x.Pane∧x.Pane∉q∧1≤x.Count∧x.Count≤24∧ZjZ (q++[x.Pane]) (l.drop (k+1)):=by
 obtain⟨h1,h2⟩:=Kc.1 hx;rw[Kx h1,h2,ZjZ]
theorem ZwE {l:List Zc} {q:List Pane}:ZjZ q (l.drop l.length):=by simp[ZjZ]
theorem JY {l:List Zc} {k:Nat} {x:Zc} (hx:l[k]?=some x):(l.take (k+1)).map Zc.Pane=(l.take k).map Zc.Pane++[x.Pane]:=by
 rw[KH,hx];simp
theorem ZnZ (a b:List Zc):Qo (a++b)=Qo a+Qo b:=by
 induction a with
 | nil=>simp[Qo]
 | cons c l ih=>simp only[KA,Qo,ih];omega
theorem ZtI {l:List Zc} {i:Nat} {x:Zc} (hx:l[i]?=some x):Qo (l.take (i+1))=Qo (l.take i)+x.Count:=by
 rw[KH,hx,ZnZ];simp[Qo]
theorem Zrl:∀ {l:List Zc} {q:List Pane},ZjZ q l→∀ x∈l,VP x.Pane∧1≤x.Count∧x.Count≤24
 | [],_,_,x,hx=>by simp at hx
 | y :: l,q,h,x,hx=>by
  rcases Kd.1 hx with rfl | hx
  ·exact⟨h.1,h.2.2.1,h.2.2.2.1⟩
  ·exact Zrl h.2.2.2.2 x hx
theorem ZwF:∀ {l:List Zc},(∀ x∈l,1≤x.Count)→0≤Qo l
 | [],_=>by simp[Qo]
 | x :: l,h=>by
  have h1:=h x (by simp);have h2:=ZwF (l:=l) fun y hy=>h y (by simp[hy]);simp only[Qo];omega
theorem ZwG {l:List Zc} {i:Nat} (h:∀ x∈l,1≤x.Count):Qo (l.take i)≤Qo l:=by
 have e:Qo l=Qo (l.take i)+Qo (l.drop i):=by rw[← ZnZ,LK]
 have:=ZwF (l:=l.drop i) fun y hy=>h y (L3 hy);omega
def YZ:Nat→List Zc→Pane→Int
 | _,[],_=>-1
 | k,x :: l,p=>if x.Pane=p then (k:Int) else YZ (k+1) l p
theorem Zyc {l:List Zc} {k:Nat} {x:Zc} {p:Pane} (hx:l[k]?=some x):YZ k (l.drop k) p=if x.Pane=p then (k:Int) else YZ (k+1) (l.drop (k+1)) p:=by
 obtain⟨h1,h2⟩:=Kc.1 hx;rw[Kx h1,h2,YZ]
theorem ZwH:∀ (l:List Zc) (k i:Nat) (x:Zc),l[i]?=some x→(YZ k l x.Pane=((k+i:Nat):Int)↔x.Pane∉(l.take i).map Zc.Pane)
 | [],k,i,x,h=>by simp at h
 | y :: l,k,0,x,h=>by
  simp only[KT,Option.some.injEq] at h;subst h;simp[YZ]
 | y :: l,k,i+1,x,h=>by
  simp only[KU] at h;have ih:=ZwH l (k+1) i x h;simp only[YZ,Lu,Kk,Kd,not_or];split
  ·rename_i e;constructor
   ·intro h;omega
   ·intro h;exact absurd e.symm h.1
  ·rename_i e;rw[show k+1+i=k+(i+1) by omega] at ih;rw[ih];exact⟨fun h=>⟨fun e'=>e e'.symm,h⟩,fun h=>h.2⟩
def Jw:List Zc→Int
 | []=>0
 | x :: l=>x.Count*x.Pane.W*x.Pane.H+Jw l
theorem ZwI (a b:List Zc):Jw (a++b)=Jw a+Jw b:=by
 induction a with
 | nil=>simp[Jw]
 | cons c l ih=>simp only[KA,Jw,ih];omega
theorem ZtJ {l:List Zc} {i:Nat} {x:Zc} (hx:l[i]?=some x):Jw (l.take (i+1))=Jw (l.take i)+x.Count*x.Pane.W*x.Pane.H:=by
 rw[KH,hx,ZwI];simp[Jw]
theorem Zbx {x:Zc} (h:VP x.Pane∧1≤x.Count∧x.Count≤24):0≤x.Count*x.Pane.W∧x.Count*x.Pane.W≤4800∧0≤x.Count*x.Pane.W*x.Pane.H∧x.Count*x.Pane.W*x.Pane.H≤960000:=by
 obtain⟨h1,h2,h3⟩:=h;simp only[VP] at h1;have a1:0≤x.Count*x.Pane.W:=Kan o_ o_;have a2:x.Count*x.Pane.W≤24*200:=Kao o_ o_ o_ o_;have a3:0≤x.Count*x.Pane.W*x.Pane.H:=Kan o_ o_;have a4:x.Count*x.Pane.W*x.Pane.H≤4800*200:=Kao o_ o_ o_ o_;omega
theorem Zfu:∀ {l:List Zc},(∀ x∈l,VP x.Pane∧1≤x.Count∧x.Count≤24)→0≤Jw l∧Jw l≤960000*l.length
 | [],_=>by simp[Jw]
 | x :: l,h=>by
  have h1:=Zbx (h x (by simp));have h2:=Zfu (l:=l) fun y hy=>h y (by simp[hy]);simp only[Jw,Kn];omega
theorem QK {l:List Zc} (h:JX l):∀ x∈l,VP x.Pane∧1≤x.Count∧x.Count≤24:=Zrl h.2.1
theorem Zrm {l:List Zc} (h:JX l):0≤Jw l∧Jw l≤7680000:=by
 have h1:=Zfu (QK h);have:=h.1;omega
structure Zo where
 kind:Int
 label:Int
 box:Box
 line:Zc
 plan:Zf
def Zo.enc (e:Zo):D:=.agg ([J e.kind,J e.label,J e.box.X,J e.box.Y,J e.box.W,J e.box.H,J e.line.Pane.W,J e.line.Pane.H,.bool e.line.Pane.Turns,J e.line.Pane.Kind,J e.line.Count]++e.plan.enc.cells)
@[go_sem] theorem Zo.enc_mk (k l x y w h pw ph pk c o a p:Int) (pt t:Bool) (ks:List Zf):Zo.enc (Zo.mk k l (Box.mk x y w h) (Zc.mk (Pane.mk pw ph pt pk) c) (Zf.mk o a p t ks)) =
  .agg [J k,J l,J x,J y,J w,J h,J pw,J ph,.bool pt,J pk,J c,J o,J a,J p,.bool t,.sl (ks.map Zf.enc)]:=by
 simp only[Zo.enc,Zf.enc_mk];rfl
theorem Zo.enc_len (e:Zo):(Zo.enc e).cells.length=16:=by
 show (_++e.plan.enc.cells).length=16;rw[Kr,Zf.enc_len];rfl
@[go_sem] theorem uni_Event (l:List Zo):uni 16 (l.map Zo.enc)=True:=eq_true (J2 l Zo.enc_len)
def ZE (s:Zm):Prop:=VSt s.Stock∧JX s.Opn∧JX s.Done∧0≤s.Lost∧s.Lost≤900000∧0≤s.Came∧s.Came≤900000∧YH s.Stock+Jw s.Done+s.Lost=s.Came
instance (s:Zm):Decidable (ZE s):=by unfold ZE;infer_instance
def QB (p:Zb):List Zb→List Zb
 | []=>[p]
 | x :: l=>if p.Label<x.Label then p :: x :: l else x :: QB p l
theorem Zrn {l:List Zb} {k:Nat} {x p:Zb} (hx:l[k]?=some x):QB p (l.drop k)=if p.Label<x.Label then p :: l.drop k else x :: QB p (l.drop (k+1)):=by
 obtain⟨h1,h2⟩:=Kc.1 hx;rw[Kx h1,h2,QB]
theorem Zm5 (p:Zb):∀ (l:List Zb),(QB p l).length=l.length+1
 | []=>rfl
 | x :: l=>by
  unfold QB;split
  ·simp
  ·simp[Zm5 p l]
theorem ZtK (p:Zb):∀ (l:List Zb) (y:Zb),y∈QB p l→y=p∨y∈l
 | [],y,h=>by simpa [QB] using h
 | x :: l,y,h=>by
  unfold QB at h;split at h
  ·simpa using h
  ·rcases Kd.1 h with rfl | h
   ·exact .inr (by simp)
   ·rcases ZtK p l y h with h | h
    ·exact .inl h
    ·exact .inr (by simp[h])
def Zhp (p:Pane) (c:Int) (x:Zc):Option Zc:=
 if x.Pane=p then (if 0<x.Count-c then some ⟨x.Pane,x.Count-c⟩ else none) else (if 0<x.Count then some x else none)
def XF (l:List Zc) (p:Pane) (c:Int):List Zc:=l.filterMap (Zhp p c)
def Xe (p:Pane) (c:Int):Bool→List Zc→Bool
 | b,[]=>b
 | b,x :: l=>Xe p c (if x.Pane=p then decide (0≤x.Count-c) else b) l
theorem ZwJ {l:List Zc} {k:Nat} {x:Zc} {p:Pane} {c:Int} {b:Bool} (hx:l[k]?=some x):Xe p c b (l.drop k)=Xe p c (if x.Pane=p then decide (0≤x.Count-c) else b) (l.drop (k+1)):=by
 obtain⟨h1,h2⟩:=Kc.1 hx;rw[Kx h1,h2,Xe]
theorem Zyd {l:List Zc} {p:Pane} {c:Int} {b:Bool}:Xe p c b (l.drop l.length)=b:=by simp[Xe]
theorem Zye {l:List Zc} {i:Nat} {x:Zc} (p:Pane) (c:Int) (hx:l[i]?=some x):XF (l.take (i+1)) p c=XF (l.take i) p c++(Zhp p c x).toList:=by
 unfold XF;rw[KH,hx,LL];simp only[Kax,Lq,List.filterMap_nil];cases Zhp p c x<;>rfl
def Yc (p:Pane) (c:Int):List Zc→List Zc
 | []=>[⟨p,c⟩]
 | x :: l=>if x.Pane=p then ⟨x.Pane,x.Count+c⟩ :: l else x :: Yc p c l
theorem Zcd (p:Pane) (c:Int):∀ (l:List Zc),(Yc p c l).length≤l.length+1
 | []=>by simp[Yc]
 | x :: l=>by
  unfold Yc;split
  ·simp
  ·have:=Zcd p c l;simp;omega
theorem ZuY (p:Pane) (c:Int):∀ (l:List Zc) (i:Nat) (x:Zc),l[i]?=some x→x.Pane=p→p∉(l.take i).map Zc.Pane→Yc p c l=l.set i ⟨x.Pane,x.Count+c⟩
 | [],i,x,h,_,_=>by simp at h
 | y :: l,0,x,h,e,_=>by
  simp only[KT,Option.some.injEq] at h;subst h;simp[Yc,e]
 | y :: l,i+1,x,h,e,hn=>by
  simp only[KU] at h;simp only[Lu,Kk,Kd,not_or] at hn;have ih:=ZuY p c l i x h e hn.2;simp only[Yc,Ke (fun e' : y.Pane=p=>hn.1 e'.symm),Kad,ih]
theorem ZuZ (p:Pane) (c:Int):∀ (l:List Zc),p∉l.map Zc.Pane→Yc p c l=l++[⟨p,c⟩]
 | [],_=>rfl
 | y :: l,hn=>by
  simp only[Kk,Kd,not_or] at hn;simp only[Yc,Ke (fun e' : y.Pane=p=>hn.1 e'.symm),ZuZ p c l hn.2,KA]
theorem ZoK (qW qH:Int) (qT:Bool) (qK qC:Int) (pW pH:Int) (pT:Bool) (pK:Int):v_ 179 [(.d (.agg [J qW,J qH,.bool qT,J qK,J qC])),.ptr 0 0] [.box [(.d (J pW)),(.d (J pH)),(.d (.bool pT)),(.d (J pK))]]=some ((.d (.bool (decide ((Pane.mk qW qH qT qK)=(Pane.mk pW pH pT pK))))),[.box [(.d (J pW)),(.d (J pH)),(.d (.bool pT)),(.d (J pK))]]):=by
 refine cE ?_;simp (maxSteps:=10^7) +contextual -implicitDefEqProofs only[go_sem,seval,ZhM];try exact ZaU (by simp only[Pane.mk.injEq,and_assoc])
theorem Zse (l:List Zc) (pW pH:Int) (pT:Bool) (pK:Int) (hl:l.length<4611686018427387904):v_ 178 [(.d (.sl (l.map Zc.enc))),.clo 179 [.ptr 0 0]] [.box [(.d (J pW)),(.d (J pH)),(.d (.bool pT)),(.d (J pK))]]=some ((.d (J (YZ 0 l (Pane.mk pW pH pT pK)))),[.box [(.d (J pW)),(.d (J pH)),(.d (.bool pT)),(.d (J pK))]]):=by
 refine cE ?_;simp (maxSteps:=10^7) +contextual -implicitDefEqProofs only[go_sem,seval,JB];refine LO (α:=Nat) (fun k=>[(8,.d (J (k:Int)))]) (fun _=>[]) (fun k=>k≤l.length∧YZ k (l.drop k) (Pane.mk pW pH pT pK)=YZ 0 l (Pane.mk pW pH pT pK)) (fun k=>l.length-k) 0 ⟨o_,rfl⟩ ?_;intro k ⟨hk,hp⟩ ih;by_cases aa:k<l.length
 ·obtain⟨x,hx⟩:=Zp aa;rw[Zyc hx] at hp;have hw:=Zh (k:=k) o_;have e1:=ZoK x.Pane.W x.Pane.H x.Pane.Turns x.Pane.Kind x.Count pW pH pT pK;obtain⟨⟨W,H,T,K⟩,C⟩:=x;simp only at hp e1;by_cases h:(⟨W,H,T,K⟩:Pane)=(Pane.mk pW pH pT pK)
  ·rw[Kj h] at hp;rw[Kg h] at e1;simp (maxSteps:=10^7) +contextual -implicitDefEqProofs only[go_sem,seval,hx,aa,hw,e1];rw[← hp]
  ·rw[Ke h] at hp;rw[Ki h] at e1;simp (maxSteps:=10^7) +contextual -implicitDefEqProofs only[go_sem,seval,hx,aa,hw,e1];refine ih (k+1) _ ⟨o_,hp⟩ o_ ?_;simp (maxSteps:=10^7) +contextual -implicitDefEqProofs only[go_sem,seval]
 ·have:k=l.length:=o_
  subst this;simp (maxSteps:=10^7) +contextual -implicitDefEqProofs only[go_sem,seval];rw[← hp];simp[YZ]
theorem ZdF (l:List Zc) (pW pH:Int) (pT:Bool) (pK:Int) (hl:l.length<4611686018427387904):v_ 123 [(.d (.sl (l.map Zc.enc))),(.d (.agg [J pW,J pH,.bool pT,J pK]))] []=some ((.d (J (YZ 0 l (Pane.mk pW pH pT pK)))),[]):=by
 refine cE ?_;simp (maxSteps:=10^7) +contextual -implicitDefEqProofs only[go_sem,seval,ZlW,Zse l pW pH pT pK hl]
theorem ZaH (l:List Zc):v_ 76 [(.d (.sl (l.map Zc.enc)))] []=some ((.d (.bool (decide (JX l)))),[]):=by
 by_cases h8:(8:Int)<(l.length:Int)
 ·have hn:¬JX l:=fun h=>by have:=h.1;omega
  refine cE ?_;simp (maxSteps:=10^7) +contextual -implicitDefEqProofs only[go_sem,seval,ZcE,h8,hn]
 ·have ah:l.length≤8:=o_
  refine cE ?_;simp (maxSteps:=10^7) +contextual -implicitDefEqProofs only[go_sem,seval,ZcE,h8];refine LO (α:=Nat) (fun i=>[(11,.d (J (i:Int))),(3,.d (J (24-Qo (l.take i))))]) (fun _=>[]) (fun i=>i≤l.length∧(ZjZ [] l↔ZjZ ((l.take i).map Zc.Pane) (l.drop i))∧0≤Qo (l.take i)∧Qo (l.take i)≤24) (fun i=>l.length-i) 0 ⟨by simp,by simp,by simp[Qo],by simp[Qo]⟩ ?_;intro i ⟨hi,hp,aj,ae⟩ ih;by_cases aa:i<l.length
  ·obtain⟨x,hx⟩:=Zp aa;have hw:=Zh (k:=i) o_;rw[ZtH hx,← JY hx] at hp;have ev:=UZ x.Pane.W x.Pane.H x.Pane.Turns x.Pane.Kind;have ef:=ZdF l x.Pane.W x.Pane.H x.Pane.Turns x.Pane.Kind o_;have ab:=ZwH l 0 i x hx;have af:=ZtI hx;obtain⟨⟨W,H,T,K⟩,C⟩:=x;simp only[K8] at hp ev ef ab af;by_cases hv:VP ⟨W,H,T,K⟩
   ·rw[Kg hv] at ev;by_cases hf:YZ 0 l ⟨W,H,T,K⟩=(i:Int)
    ·rw[hf] at ef;by_cases ad:C<1
     ·have hn:¬JX l:=fun h=>by have:=(hp.1 h.2.1).2.2.1;omega
      simp (maxSteps:=10^7) +contextual -implicitDefEqProofs only[go_sem,seval,hx,aa,hw,ev,ef,ad,hn]
     ·by_cases ag:24-Qo (l.take i)<C
      ·have hn:¬JX l:=fun h=>by
        have:=ZwG (l:=l) (i:=i+1) (fun x hx=>(Zrl h.2.1 x hx).2.1);have:=h.2.2;omega
       simp (maxSteps:=10^7) +contextual -implicitDefEqProofs only[go_sem,seval,hx,aa,hw,ev,ef,ad,ag,hn]
      ·have ai:=wi (24-Qo (l.take i)-C) o_ o_;simp (maxSteps:=10^7) +contextual -implicitDefEqProofs only[go_sem,seval,hx,aa,hw,ev,ef,ad,ag,ai];refine ih (i+1) _ ⟨o_,?_,o_,o_⟩ o_ ?_
       ·rw[hp];exact⟨fun h=>h.2.2.2.2,fun h=>⟨hv,ab.1 hf,o_,o_,h⟩⟩
       ·simp (maxSteps:=10^7) +contextual -implicitDefEqProofs only[go_sem,seval,af];try (simp;omega)
    ·have hn:¬JX l:=fun h=>hf (ab.2 (hp.1 h.2.1).2.1);simp (maxSteps:=10^7) +contextual -implicitDefEqProofs only[go_sem,seval,hx,aa,hw,ev,ef,hf,hn]
   ·rw[Ki hv] at ev;have hn:¬JX l:=fun h=>hv (hp.1 h.2.1).1;simp (maxSteps:=10^7) +contextual -implicitDefEqProofs only[go_sem,seval,hx,aa,hw,ev,hn]
  ·have:i=l.length:=o_
   subst this;rw[Kw (Kp _)] at ae;have hy:JX l:=⟨ah,hp.2 ZwE,ae⟩
   simp (maxSteps:=10^7) +contextual -implicitDefEqProofs only[go_sem,seval,hy]
theorem Zro (l:List Zc) (hv:JX l):v_ 78 [(.d (.sl (l.map Zc.enc)))] []=some ((.d (J (Jw l))),[]):=by
 have ev:=ZaH l;rw[Kg hv] at ev;have h8:=hv.1;have aa:=QK hv;clear hv;refine cE ?_;simp (maxSteps:=10^7) +contextual -implicitDefEqProofs only[go_sem,seval,Zjq,ev];refine LO (α:=Nat) (fun i=>[(11,.d (J (i:Int))),(3,.d (J (Jw (l.take i))))]) (fun _=>[]) (fun i=>i≤l.length) (fun i=>l.length-i) 0 o_ ?_;intro i hi ih;by_cases ab:i<l.length
 ·obtain⟨x,hx⟩:=Zp ab;have hw:=Zh (k:=i) o_;have hm:=ZtJ hx;have ad:=Zfu (l:=l.take i) (fun y hy=>aa y (KY hy));have ae:(l.take i).length≤i:=by simp;omega
  have g5:=Zbx (aa x (Kb hx));obtain⟨⟨W,H,T,K⟩,C⟩:=x;simp only at g5 hm;have u0:=wi (C*W) o_ o_;have u1:=wi (C*W*H) o_ o_;have u2:=wi (Jw (l.take i)+C*W*H) o_ o_;simp (maxSteps:=10^7) +contextual -implicitDefEqProofs only[go_sem,seval,hx,ab,hw,u0,u1,u2];refine ih (i+1) _ o_ o_ ?_;simp (maxSteps:=10^7) +contextual -implicitDefEqProofs only[go_sem,seval,hm]
 ·have:i=l.length:=o_
  subst this;simp (maxSteps:=10^7) +contextual -implicitDefEqProofs only[go_sem,seval];simp
theorem Zgi (l:List Zc) (hl:l.length≤1048576):v_ 93 [(.d (.sl (l.map Zc.enc)))] []=some ((.d (.bool (decide (JX l)))),[]):=by
 refine cE ?_;simp (maxSteps:=10^7) +contextual -implicitDefEqProofs only[go_sem,seval,ZhK];refine LO (α:=Nat) (fun i=>[(4,.d (J (i:Int))),(3,.d (J (Qo (l.take i))))]) (fun _=>[]) (fun i=>i≤l.length∧(ZjZ [] l↔ZjZ ((l.take i).map Zc.Pane) (l.drop i))∧0≤Qo (l.take i)∧Qo (l.take i)≤24*i) (fun i=>l.length-i) 0 ⟨by simp,by simp,by simp[Qo],by simp[Qo]⟩ ?_;intro i ⟨hi,hp,al,am⟩ ih;by_cases aa:i<l.length
 ·obtain⟨x,hx⟩:=Zp aa;have hw:=Zh (k:=i) o_;rw[ZtH hx,← JY hx] at hp;have ev:=YP x.Pane.W x.Pane.H x.Pane.Turns x.Pane.Kind;have ae:=ZtI hx;obtain⟨⟨W,H,T,K⟩,C⟩:=x;simp only at hp ev ae;by_cases hv:VP ⟨W,H,T,K⟩
  ·rw[Kg hv] at ev;by_cases hC:1≤C∧C≤24
   ·have er:=ZI C 1 24;rw[Kg hC] at er;simp (maxSteps:=10^7) +contextual -implicitDefEqProofs only[go_sem,seval,hx,aa,hw,ev,er];refine Yh Xs Ms (st0:=?st1) (α:=Nat) (fun k=>[(5,.d (J (k:Int)))]) (fun _=>[]) (fun k=>k≤i∧(⟨W,H,T,K⟩:Pane)∉(l.take k).map Zc.Pane) (fun k=>i-k) 0 ?hc2 ⟨o_,by simp⟩ ?h02 ?step2
    case hc2=>simp (maxSteps:=10^7) +contextual -implicitDefEqProofs only[go_sem,seval]<;>exact rfl
    case h02=>rfl
    case step2=>
     intro k ⟨hk,hq⟩ ai;by_cases ab:k<i
     ·obtain⟨y,hy⟩:=Zp (l:=l) (k:=k) o_;have af:k<l.length:=o_
      have ag:=Zh (k:=k) o_;have ah:=JY hy;obtain⟨⟨W',H',T',K'⟩,C'⟩:=y;simp only at ah;by_cases he:(⟨W',H',T',K'⟩:Pane)=⟨W,H,T,K⟩
      ·have ad:(⟨W,H,T,K⟩:Pane)∈(l.take i).map Zc.Pane:=by
        rw[← he];have h3:(l.take i)[k]?=some ⟨⟨W',H',T',K'⟩,C'⟩:=by rw[List.getElem?_take_of_lt ab];exact hy
        exact Lk.2 ⟨_,Kb h3,rfl⟩
       have hn:¬JX l:=fun h=>(hp.1 h.2.1).2.1 ad;simp only[Pane.mk.injEq] at he;simp (maxSteps:=10^7) +contextual -implicitDefEqProofs only[go_sem,seval,hx,aa,hw,hy,ab,af,ag,he,hn]
      ·have aj:=he;simp only[Pane.mk.injEq] at he;simp (maxSteps:=10^7) +contextual -implicitDefEqProofs only[go_sem,seval,hx,aa,hw,hy,ab,af,ag,he];refine ai (k+1) _ ⟨o_,?_⟩ o_ ?_
       ·rw[ah,Kh];intro h;rcases h with h | h
        ·exact hq h
        ·exact aj (KG.1 h).symm
       ·simp (maxSteps:=10^7) +contextual -implicitDefEqProofs only[go_sem,seval]
     ·have:k=i:=o_
      subst this;have ak:=wi (Qo (l.take k)+C) o_ o_;simp (maxSteps:=10^7) +contextual -implicitDefEqProofs only[go_sem,seval,hx,aa,hw,ab,ak];refine ih (k+1) _ ⟨o_,?_,o_,o_⟩ o_ ?_
      ·rw[hp];exact⟨fun h=>h.2.2.2.2,fun h=>⟨hv,hq,hC.1,hC.2,h⟩⟩
      ·simp (maxSteps:=10^7) +contextual -implicitDefEqProofs only[go_sem,seval,ae]
   ·have er:=ZI C 1 24;rw[Ki hC] at er;have hn:¬JX l:=fun h=>hC ⟨(hp.1 h.2.1).2.2.1,(hp.1 h.2.1).2.2.2.1⟩;simp (maxSteps:=10^7) +contextual -implicitDefEqProofs only[go_sem,seval,hx,aa,hw,ev,er,hn]
  ·rw[Ki hv] at ev;have hn:¬JX l:=fun h=>hv (hp.1 h.2.1).1;simp (maxSteps:=10^7) +contextual -implicitDefEqProofs only[go_sem,seval,hx,aa,hw,ev,hn]
 ·have:i=l.length:=o_
  subst this;have hs:=hp.2 ZwE;rw[Kw (Kp _)];simp (maxSteps:=10^7) +contextual -implicitDefEqProofs only[go_sem,seval];exact ZaU (by simp only[JX];constructor<;>(intro h;first | exact⟨o_,hs,o_⟩ | (have:=h.1;have:=h.2.2;omega)))
theorem ZwK {l:List Zb} (hv:VSt l):∀ x∈l,1≤x.W∧x.W≤200∧1≤x.H∧x.H≤200:=fun x hx=>by
 have:=(ZU hv.2 x hx).1;omega
theorem Zn0 {l:List Zb} (hv:VSt l):0≤YH l∧YH l≤800000:=by
 have h1:=Zbc (ZwK hv);have:=hv.1;omega
theorem Zrp (l:List Zb) (hv:VSt l):v_ 134 [(.d (.sl (l.map Zb.enc)))] []=some ((.d (J (YH l))),[]):=by
 have af:=hv.1;have aa:=ZwK hv;clear hv;refine cE ?_;simp (maxSteps:=10^7) +contextual -implicitDefEqProofs only[go_sem,seval,Zjg];refine LO (α:=Nat) (fun i=>[(4,.d (J (i:Int))),(3,.d (J (YH (l.take i))))]) (fun _=>[]) (fun i=>i≤l.length) (fun i=>l.length-i) 0 o_ ?_;intro i hi ih;by_cases ab:i<l.length
 ·obtain⟨x,hx⟩:=Zp ab;have hw:=Zh (k:=i) o_;have hm:=Zrf hx;have ag:=Zbc (l:=l.take i) (fun y hy=>aa y (KY hy));have ah:(l.take i).length≤i:=by simp;omega
  have g5:=aa x (Kb hx);have ad:x.W*x.H≤200*200:=Kao o_ o_ o_ o_;have ae:0≤x.W*x.H:=Kan o_ o_;obtain⟨xL,xW,xH,xF⟩:=x;simp only at g5 hm ad ae;have u0:=wi (xW*xH) o_ o_;have u1:=wi (YH (l.take i)+xW*xH) o_ o_;simp (maxSteps:=10^7) +contextual -implicitDefEqProofs only[go_sem,seval,hx,ab,hw,u0,u1];refine ih (i+1) _ o_ o_ ?_;simp (maxSteps:=10^7) +contextual -implicitDefEqProofs only[go_sem,seval,hm]
 ·have:i=l.length:=o_
  subst this;simp (maxSteps:=10^7) +contextual -implicitDefEqProofs only[go_sem,seval];simp
theorem Zrq (l:List Zc) (hv:JX l):v_ 135 [(.d (.sl (l.map Zc.enc)))] []=some ((.d (J (Jw l))),[]):=by
 have h8:=hv.1;have aa:=QK hv;clear hv;refine cE ?_;simp (maxSteps:=10^7) +contextual -implicitDefEqProofs only[go_sem,seval,Zjl];refine LO (α:=Nat) (fun i=>[(4,.d (J (i:Int))),(3,.d (J (Jw (l.take i))))]) (fun _=>[]) (fun i=>i≤l.length) (fun i=>l.length-i) 0 o_ ?_;intro i hi ih;by_cases ab:i<l.length
 ·obtain⟨x,hx⟩:=Zp ab;have hw:=Zh (k:=i) o_;have hm:=ZtJ hx;have ad:=Zfu (l:=l.take i) (fun y hy=>aa y (KY hy));have ae:(l.take i).length≤i:=by simp;omega
  have g5:=Zbx (aa x (Kb hx));obtain⟨⟨W,H,T,K⟩,C⟩:=x;simp only at g5 hm;have u0:=wi (C*W) o_ o_;have u1:=wi (C*W*H) o_ o_;have u2:=wi (Jw (l.take i)+C*W*H) o_ o_;simp (maxSteps:=10^7) +contextual -implicitDefEqProofs only[go_sem,seval,hx,ab,hw,u0,u1,u2];refine ih (i+1) _ o_ o_ ?_;simp (maxSteps:=10^7) +contextual -implicitDefEqProofs only[go_sem,seval,hm]
 ·have:i=l.length:=o_
  subst this;simp (maxSteps:=10^7) +contextual -implicitDefEqProofs only[go_sem,seval];simp
theorem Zsf (sS:List Zb) (sO sD:List Zc) (sL sC:Int) (h1:VSt sS) (h2:JX sD) (h3:0≤sL∧sL≤100000000):v_ 94 [(.d (.agg [.sl (sS.map Zb.enc),.sl (sO.map Zc.enc),.sl (sD.map Zc.enc),J sL,J sC]))] []=some ((.d (J (YH sS+Jw sD+sL))),[]):=by
 have e1:=Zrp sS h1;have e2:=Zrq sD h2;have b1:=Zn0 h1;have b2:=Zrm h2;have u0:=wi (YH sS+Jw sD) o_ o_;have u1:=wi (YH sS+Jw sD+sL) o_ o_;refine cE ?_;simp (maxSteps:=10^7) +contextual -implicitDefEqProofs only[go_sem,seval,ZlE,e1,e2,u0,u1]
def Un (s:Zm):Prop:=s.Stock.length≤1048576∧(∀ x∈s.Stock,x.Flaws.length≤1048576∧R64 x.W∧R64 x.H)∧s.Opn.length≤1048576∧s.Done.length≤1048576
theorem Zlq {x:Zb} (h:VPc x):R64 x.W∧R64 x.H:=by
 have:=h.1;unfold R64;omega
theorem YR {s:Zm} (h:ZE s):Un s:=
 ⟨by have:=h.1.1;omega,fun x hx=>⟨(Zbw h.1).2 x hx,Zlq (ZU h.1.2 x hx)⟩,by have:=h.2.1.1;omega,by have:=h.2.2.1.1;omega⟩
theorem XG (sS:List Zb) (sO sD:List Zc) (sL sC:Int) (hs:Un (Zm.mk sS sO sD sL sC)):v_ 48 [(.d (.agg [.sl (sS.map Zb.enc),.sl (sO.map Zc.enc),.sl (sD.map Zc.enc),J sL,J sC]))] []=some ((.d (.bool (decide (ZE (Zm.mk sS sO sD sL sC))))),[]):=by
 obtain⟨h1,h2,h3,h4⟩:=hs;simp only at h1 h2 h3 h4;have e1:=Yn sS o_ (fun x hx=>⟨by have:=(h2 x hx).1;omega,(h2 x hx).2⟩);have e2:=Zgi sO h3;have e3:=Zgi sD h4;have e4:=ZI sL 0 900000;have e5:=ZI sC 0 900000;refine cE ?_;by_cases v1:VSt sS
 ·rw[Kg v1] at e1;by_cases v2:JX sO
  ·rw[Kg v2] at e2;by_cases v3:JX sD
   ·rw[Kg v3] at e3;by_cases v4:0≤sL∧sL≤900000
    ·rw[Kg v4] at e4;by_cases v5:0≤sC∧sC≤900000
     ·rw[Kg v5] at e5;have e6:=Zsf sS sO sD sL sC v1 v3 o_;simp (maxSteps:=10^7) +contextual -implicitDefEqProofs only[go_sem,seval,YD,e1,e2,e3,e4,e5,e6];exact ZaU ⟨fun h=>⟨v1,v2,v3,v4.1,v4.2,v5.1,v5.2,h⟩,fun h=>h.2.2.2.2.2.2.2⟩
     ·rw[Ki v5] at e5;have hn:¬ZE (Zm.mk sS sO sD sL sC):=fun h=>v5 ⟨h.2.2.2.2.2.1,h.2.2.2.2.2.2.1⟩;simp (maxSteps:=10^7) +contextual -implicitDefEqProofs only[go_sem,seval,YD,e1,e2,e3,e4,e5,hn]
    ·rw[Ki v4] at e4;have hn:¬ZE (Zm.mk sS sO sD sL sC):=fun h=>v4 ⟨h.2.2.2.1,h.2.2.2.2.1⟩;simp (maxSteps:=10^7) +contextual -implicitDefEqProofs only[go_sem,seval,YD,e1,e2,e3,e4,hn]
   ·rw[Ki v3] at e3;have hn:¬ZE (Zm.mk sS sO sD sL sC):=fun h=>v3 h.2.2.1;simp (maxSteps:=10^7) +contextual -implicitDefEqProofs only[go_sem,seval,YD,e1,e2,e3,hn]
  ·rw[Ki v2] at e2;have hn:¬ZE (Zm.mk sS sO sD sL sC):=fun h=>v2 h.2.1;simp (maxSteps:=10^7) +contextual -implicitDefEqProofs only[go_sem,seval,YD,e1,e2,hn]
 ·rw[Ki v1] at e1;have hn:¬ZE (Zm.mk sS sO sD sL sC):=fun h=>v1 h.1;simp (maxSteps:=10^7) +contextual -implicitDefEqProofs only[go_sem,seval,YD,e1,hn]
theorem ZT (sS:List Zb) (sO sD:List Zc) (sL sC:Int):v_ 38 [(.d (.agg [.sl (sS.map Zb.enc),.sl (sO.map Zc.enc),.sl (sD.map Zc.enc),J sL,J sC]))] []=some ((.d (.bool (decide (ZE (Zm.mk sS sO sD sL sC))))),[]):=by
 have e1:=Ym sS;have e2:=ZaH sO;have e3:=ZaH sD;refine cE ?_;by_cases v1:VSt sS
 ·rw[Kg v1] at e1;by_cases v2:JX sO
  ·rw[Kg v2] at e2;by_cases v3:JX sD
   ·rw[Kg v3] at e3;by_cases v4:((sL<0∨900000<sL)∨sC<0)∨900000<sC
    ·have hn:¬ZE (Zm.mk sS sO sD sL sC):=fun h=>by
      obtain⟨_,_,_,h1,h2,h3,h4,_⟩:=h;simp only at h1 h2 h3 h4;omega
     simp (maxSteps:=10^7) +contextual -implicitDefEqProofs only[go_sem,seval,Vw,e1,e2,e3,v4,hn,← La]
    ·have e4:=Zrk sS v1;have e5:=Zro sD v3;have b1:=Zn0 v1;have b2:=Zrm v3;have u0:=wi (YH sS+Jw sD) o_ o_;have u1:=wi (YH sS+Jw sD+sL) o_ o_;simp (maxSteps:=10^7) +contextual -implicitDefEqProofs only[go_sem,seval,Vw,e1,e2,e3,v4,e4,e5,u0,u1,← La];exact ZaU ⟨fun h=>⟨v1,v2,v3,p_,p_,p_,p_,h⟩,fun h=>h.2.2.2.2.2.2.2⟩
   ·rw[Ki v3] at e3;have hn:¬ZE (Zm.mk sS sO sD sL sC):=fun h=>v3 h.2.2.1;simp (maxSteps:=10^7) +contextual -implicitDefEqProofs only[go_sem,seval,Vw,e1,e2,e3,hn]
  ·rw[Ki v2] at e2;have hn:¬ZE (Zm.mk sS sO sD sL sC):=fun h=>v2 h.2.1;simp (maxSteps:=10^7) +contextual -implicitDefEqProofs only[go_sem,seval,Vw,e1,e2,hn]
 ·rw[Ki v1] at e1;have hn:¬ZE (Zm.mk sS sO sD sL sC):=fun h=>v1 h.1;simp (maxSteps:=10^7) +contextual -implicitDefEqProofs only[go_sem,seval,Vw,e1,hn]
end Go.Proofs.YtfnegoimdljanaaGreatDoor
