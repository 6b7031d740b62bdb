/- Own text. -/
import Derived.Test.YtefabmohhbhlfaaCCode
import Derived.Test.YtefabmohhbhlfaaAbsParts
import Derived.Test.YtefabmohhbhlfaaCC11
import Derived.Test.YtefabmohhbhlfaaAbsOkD
import Derived.Test.YtefabmohhbhlfaaCC13
namespace Go.Proofs.Ytefabmohhbhlfaa
open Go Go.Abs Go.Abs.E Go.Abs.L
open Nat (reduceMul reduceSub reduceLeDiff reduceEqDiff)
open Int (reduceLE reduceEq reduceToNat reduceNeg)
set_option linter.unusedSimpArgs false
set_option linter.unusedVariables false
set_option maxRecDepth 20000
set_option maxHeartbeats 4000000
def tkR (ps:List Pane):List Int→Int→Int→List Int
 | [],_,_=>[]
 | i :: l,w,h=>if w<wI ps i∨h<hI ps i then [] else if wI ps i=w then [i] else i :: tkR ps l (w-wI ps i) h
def tkS (ps:List Pane) (W:Int):Nat→List Int→Int→List (List Int)
 | 0,_,_=>[]
 | _+1,[],_=>[]
 | n+1,i :: l,h=>if h<hI ps i then [] else if hI ps i=h then [tkR ps (i :: l) W (hI ps i)] else
   tkR ps (i :: l) W (hI ps i) :: tkS ps W n ((i :: l).drop (tkR ps (i :: l) W (hI ps i)).length) (h-hI ps i)
theorem Zk9 (ps:List Pane):∀ (l:List Int) (w h:Int),(tkR ps l w h).length≤l.length
 | [],_,_=>by simp[tkR]
 | i :: l,w,h=>by
  simp only[tkR];split
  ·simp
  ·split
   ·simp
   ·have:=Zk9 ps l (w-wI ps i) h;simp only[Kg];omega
theorem ZnX (kW kH:Int) (kP:List Pane) (hP:kP.length<4611686018427387904):Zj Xs Ms Zab [(.d (.agg [J kW,J kH,.sl (kP.map Pane.enc)]))] []=some ((.d (.bool (decide (∀ x∈kP,x.Turns=false∧x.W≤kW∧x.H≤kH)))),[]):=by
 refine cE ?_;simp +contextual -implicitDefEqProofs (maxSteps:=10^7) only[go_sem,seval,↓gZ,ZeW];refine LO (α:=Nat) (fun i=>[(3,.d (J (i:Int)))]) (fun _=>[]) (fun i=>i≤kP.length∧∀ x∈kP.take i,x.Turns=false∧x.W≤kW∧x.H≤kH) (fun i=>kP.length-i) 0 ⟨by omega,by simp⟩ ?_;intro i ⟨hi,hb⟩ ih;by_cases ab:i<kP.length
 ·obtain⟨⟨xW,xH,xT,xK⟩,hx⟩:=ZE ab;have aa : (i:Int)<(kP.length:Int):=by omega
  have hw:=ZD (k:=i) (by omega);have ae:=Ke hx;by_cases c1:xT=true
  ·have ad:¬∀ x∈kP,x.Turns=false∧x.W≤kW∧x.H≤kH:=fun h=>by have:=(h _ ae).1;simp[c1] at this
   rw[Ky ad];simp +contextual -implicitDefEqProofs (maxSteps:=10^7) only[go_sem,seval,↓gZ,hx,ab,aa,c1]
  ·rw[L4] at c1;by_cases c2:kW<xW
   ·have ad:¬∀ x∈kP,x.Turns=false∧x.W≤kW∧x.H≤kH:=fun h=>by have:=(h _ ae).2.1;simp only at this;omega
    rw[Ky ad];simp +contextual -implicitDefEqProofs (maxSteps:=10^7) only[go_sem,seval,↓gZ,hx,ab,aa,c1,c2]
   ·by_cases c3:kH<xH
    ·have ad:¬∀ x∈kP,x.Turns=false∧x.W≤kW∧x.H≤kH:=fun h=>by have:=(h _ ae).2.2;simp only at this;omega
     rw[Ky ad];simp +contextual -implicitDefEqProofs (maxSteps:=10^7) only[go_sem,seval,↓gZ,hx,ab,aa,c1,c2,c3]
    ·simp +contextual -implicitDefEqProofs (maxSteps:=10^7) only[go_sem,seval,↓gZ,hx,ab,aa,c1,c2,c3,hw];refine ih (i+1) _ ⟨by omega,fun y hy=>?_⟩ (by omega) ?_
     ·rw[KE,hx] at hy;simp only[Kad,Kd,Kv] at hy;rcases hy with hy | rfl
      ·exact hb y hy
      ·exact⟨c1,by simp only;omega,by simp only;omega⟩
     ·simp +contextual -implicitDefEqProofs (maxSteps:=10^7) only[go_sem,seval,↓gZ]
 ·have:i=kP.length:=by omega
  subst this;rw[Li] at hb;have aa : ¬(kP.length:Int)<(kP.length:Int):=by omega
  rw[KN hb];simp +contextual -implicitDefEqProofs (maxSteps:=10^7) only[go_sem,seval,↓gZ,aa]
theorem ZiX (l:List Int) (hl:l.length≤1000):Zj Xs Ms Wm [.d (.sl (l.map Qn))] []=some (.own 0,[.row 1 (l.map Qn) true false]):=by
 have r1:l.length*8≤140737488355328∧l.length≤140737488355328:=by omega
 refine cE ?_;simp +contextual -implicitDefEqProofs (maxSteps:=10^7) only[go_sem,seval,↓gZ,ZaV,r1]
theorem Zla (ps:List Pane) (hp:ps.length≤100):Zj Xs Ms Ua [.d (.sl ((ps.map Pane.H).map Qn))] []=some (.own 0,[.row 1 ((Qf (hI ps) ps.length).map Qn) true false]):=by
 have ah:∀ (i:Nat) (x:Pane),ps[i]?=some x→((ps.map Pane.H).map Qn)[i]?=some (J x.H):=fun i x h=>by
  rw[Kx,Kx,h];rfl
 have aa:((ps.map Pane.H).map Qn).length=ps.length:=by simp
 refine cE ?_;simp +contextual -implicitDefEqProofs (maxSteps:=10^7) only[go_sem,seval,↓gZ,ZbN];refine LO (α:=Nat) (fun i=>[(4,.d (J (i:Int)))]) (fun i=>[(0,.row 1 ((Qf (hI ps) i).map Qn) true false)]) (fun i=>i≤ps.length) (fun i=>ps.length-i) 0 (by omega) ?_;intro i hi ih;by_cases ab:i<ps.length
 ·have ai:=ZD (k:=i) (by omega);have hL:=VO (hI ps) i;have ae:∀ y∈Qf (hI ps) i,∃ m:Nat,y=(m:Int)∧m<i:=fun y hy=>WL _ hy;have an:Qf (hI ps) (i+1)=Zk6 (hI ps) (Qf (hI ps) i) (i:Int):=rfl;obtain⟨x,hx⟩:=ZE ab;have aj:=ah i x hx;simp +contextual -implicitDefEqProofs (maxSteps:=10^7) only[go_sem,seval,↓gZ,ab,aa,hL];generalize Qf (hI ps) i=L at *;refine WQ Xs Ms (st0:=?st1) (α:=Nat) (fun j=>[(5,.d (J (j:Int)))]) (fun _=>[]) (fun j=>j≤i∧atS (hI ps) L (i:Int) i=atS (hI ps) L (i:Int) j) (fun j=>j) i ?hc2 ⟨Kh _,rfl⟩ ?h02 ?step2
  case hc2=>simp +contextual -implicitDefEqProofs (maxSteps:=10^7) only[go_sem,seval,↓gZ]<;>exact rfl
  case h02=>rfl
  case step2=>
   intro j ⟨hj,ha⟩ ao;have ak:∀ n,atS (hI ps) L (i:Int) i=n→Qf (hI ps) (i+1)=L.take n++[(i:Int)]++L.drop n:=fun n hn=>by
    rw[an];unfold Zk6;rw[hL,hn];simp
   have r2:(j+1)*8≤140737488355328∧j≤140737488355327:=by omega
   have ad:(L.drop j).length=i-j:=by rw[KB,hL]
   have af:(L.drop j).take (i-j)=L.drop j:=KQ (by rw[ad];exact Kh _);have e1:=ZiX (L.drop j) (by rw[ad];omega);have ap:(L.take j).length=j:=by rw[KP,hL];omega
   have r1:(j+1+(i-j))*8≤140737488355328∧j+1+(i-j)≤140737488355328:=by omega
   have g9:j≤i:=hj;rcases j with _ | j
   ·have hz:=ak 0 (by rw[ha];rfl);simp only[Kag,LV,Lo,Kaf,K4] at e1 af r1 r2 hz ad;have ag : (Qf (hI ps) (i+1)).map Qn=J (i:Int) :: L.map Qn:=by rw[hz];rfl
    simp +contextual -implicitDefEqProofs (maxSteps:=10^7) only[go_sem,seval,↓gZ,ai,e1,hL,r1,r2,af,LV,Lo];refine ih (i+1) _ (by omega) (by omega) ?_;simp +contextual -implicitDefEqProofs (maxSteps:=10^7) only[go_sem,seval,↓gZ,ag]
   ·obtain⟨y,hy⟩:=ZE (l:=L) (k:=j) (by omega);obtain⟨m,rfl,hm⟩:=ae y (Ke hy);obtain⟨z,hz⟩:=ZE (l:=ps) (k:=m) (by omega);have al:=ah m z hz;have am:(L.map Qn)[j]?=some (J (m:Int)):=by rw[Kx,hy];rfl
    have g1:j<i:=by omega
    have g2:m<ps.length:=by omega
    have g3:(0:Int)<((j+1:Nat):Int):=by omega
    have g4:IntKind.i64.wrap (((j+1:Nat):Int)-1)=(j:Int):=by rw[Xy (by omega) (by omega)];omega
    have aq:L.getD j 0=(m:Int):=by rw[Lu,hy];rfl
    rw[atS,aq,Jv hz,Jv hx] at ha;by_cases c:z.H<x.H
    ·rw[Ko c] at ha;simp +contextual -implicitDefEqProofs (maxSteps:=10^7) only[go_sem,seval,↓gZ,g1,g2,g3,g4,am,al,aj,aa,hL,ab,c];refine ao j _ ⟨by omega,ha⟩ (by omega) ?_;simp +contextual -implicitDefEqProofs (maxSteps:=10^7) only[go_sem,seval,↓gZ]
    ·rw[Kn c] at ha;have hz:=ak (j+1) ha;have r3:j≤140737488355326:=by omega
     simp +contextual -implicitDefEqProofs (maxSteps:=10^7) only[go_sem,seval,↓gZ,g1,g2,g3,g4,g9,am,al,aj,aa,hL,ab,c,ai,e1,r1,r2,r3,af,ad,ap];have ag : (Qf (hI ps) (i+1)).map Qn=(L.take (j+1)).map Qn++[J (i:Int)]++(L.drop (j+1)).map Qn:=by rw[hz];simp[Qn]
     refine ih (i+1) _ (by omega) (by omega) ?_;simp +contextual -implicitDefEqProofs (maxSteps:=10^7) only[go_sem,seval,↓gZ,ag]
 ·have:i=ps.length:=by omega
  subst this;simp +contextual -implicitDefEqProofs (maxSteps:=10^7) only[go_sem,seval,↓gZ]
end Go.Proofs.Ytefabmohhbhlfaa
namespace Go.Proofs.Ytefabmohhbhlfaa
open Go Go.Abs Go.Abs.E Go.Abs.L
open Nat (reduceMul reduceSub reduceLeDiff reduceEqDiff)
open Int (reduceLE reduceEq reduceToNat reduceNeg)
set_option linter.unusedSimpArgs false
set_option linter.unusedVariables false
set_option maxRecDepth 20000
set_option maxHeartbeats 4000000
theorem ZhZ (W H:Int) (ps:List Pane) (ho:okP ps) (O:List Int) (hO:O.length≤100) (af:∀ x∈O,∃ m:Nat,x=(m:Int)∧m<ps.length):∀ (d p:Nat) (w h:Int),p+d=O.length→0≤w→w≤200→0≤h→h≤200→∃ o a q t ks,(J8 ps (tkR ps (O.drop p) w h) w h).plan=.mk o a q t ks ∧
  Zj Xs Ms UC [.d (.agg [J W,J H,.sl (ps.map Pane.enc)]),.d (.sl (O.map Qn)),(.d (J ((p:Nat)))),(.d (J w)),(.d (J h))] []=some (.tup [.agg [(.d (J o)),(.d (J a)),(.d (J q)),(.d (.bool t)),.own 0],(.d (J (((tkR ps (O.drop p) w h).length:Nat))))],[.row 5 (ks.map Zl.enc) true false])
 | 0,p,w,h,hd,_,_,_,_=>by
  have:p=O.length:=by omega
  subst this;rw[L7];refine⟨0,0,0,false,[],rfl,?_⟩;refine cE ?_;simp +contextual -implicitDefEqProofs (maxSteps:=10^7) only[go_sem,seval,↓gZ,Va]<;>rfl
 | d+1,p,w,h,hd,hw0,hw1,hh0,hh1=>by
  obtain⟨x,hx⟩:=ZE (l:=O) (k:=p) (by omega);obtain⟨m,rfl,hm⟩:=af x (Ke hx);obtain⟨z,hz⟩:=ZE hm;have ai:=ho z (Ke hz);have ad:=ZdV hz;have ae:=Jv hz;have aj:O.drop p=(m:Int) :: O.drop (p+1):=by
   obtain⟨h1,h2⟩:=Kc.1 hx;rw[K3 h1,h2]
  have aa:(O.map Qn)[p]?=some (J (m:Int)):=by rw[Kx,hx];rfl
  have g1:¬(p:Int)=(O.length:Int):=by omega
  have g2:p<O.length:=by omega
  obtain⟨zW,zH,zT,zK⟩:=z;simp only at ai ad ae;rw[aj];simp only[tkR,ad,ae];by_cases c1:w<zW
  ·rw[Ko (.inl c1)];refine⟨0,0,0,false,[],rfl,?_⟩;refine cE ?_;simp +contextual -implicitDefEqProofs (maxSteps:=10^7) only[go_sem,seval,↓gZ,Va,g1,g2,aa,hz,hm,c1]<;>rfl
  ·by_cases c2:h<zH
   ·rw[Ko (.inr c2)];refine⟨0,0,0,false,[],rfl,?_⟩;refine cE ?_;simp +contextual -implicitDefEqProofs (maxSteps:=10^7) only[go_sem,seval,↓gZ,Va,g1,g2,aa,hz,hm,c1,c2]<;>rfl
   ·rw[Kn (by omega)];have ab:∀ i r,J8 ps (i :: r) w h=if wI ps i=w then ZdX ps i h else .cut true (wI ps i) (ZdX ps i h) (J8 ps r (w-wI ps i) h):=fun _ _=>rfl
    by_cases c3:zW=w
    ·rw[Ko c3,ab,ad,Ko c3];unfold ZdX;rw[ae];by_cases c4:zH<h
     ·rw[Ko c4];refine⟨_,_,_,_,_,rfl,?_⟩;refine cE ?_;simp +contextual -implicitDefEqProofs (maxSteps:=10^7) only[go_sem,seval,↓gZ,Va,g1,g2,aa,hz,hm,c1,c2,c3,c4]<;>rfl
     ·rw[Kn c4];refine⟨_,_,_,_,_,rfl,?_⟩;refine cE ?_;simp +contextual -implicitDefEqProofs (maxSteps:=10^7) only[go_sem,seval,↓gZ,Va,g1,g2,aa,hz,hm,c1,c2,c3,c4]<;>rfl
    ·rw[Kn c3,ab,ad,Kn c3];have w1:=wi (w-zW) (by omega) (by omega);have ag:=ZD (k:=p) (by omega);obtain⟨o,a,q,t,ks,hp,e1⟩:=ZhZ W H ps ho O hO af d (p+1) (w-zW) h (by omega) (by omega) (by omega) hh0 hh1;have ak:=Zk9 ps (O.drop (p+1)) (w-zW) h;have al:(tkR ps (O.drop (p+1)) (w-zW) h).length≤100:=by rw[KB] at ak;omega
     have ah:=ZD (k:=(tkR ps (O.drop (p+1)) (w-zW) h).length) (by omega);unfold ZdX;rw[ae];by_cases c4:zH<h
     ·rw[Ko c4];refine⟨_,_,_,_,_,rfl,?_⟩;refine cE ?_;simp +contextual -implicitDefEqProofs (maxSteps:=10^7) only[go_sem,seval,↓gZ,Va,g1,g2,aa,hz,hm,c1,c2,c3,c4,w1,ag,ah,e1,hp]<;>rfl
     ·rw[Kn c4];refine⟨_,_,_,_,_,rfl,?_⟩;refine cE ?_;simp +contextual -implicitDefEqProofs (maxSteps:=10^7) only[go_sem,seval,↓gZ,Va,g1,g2,aa,hz,hm,c1,c2,c3,c4,w1,ag,ah,e1,hp]<;>rfl
end Go.Proofs.Ytefabmohhbhlfaa
namespace Go.Proofs.Ytefabmohhbhlfaa
open Go Go.Abs Go.Abs.E Go.Abs.L
open Nat (reduceMul reduceSub reduceLeDiff reduceEqDiff)
open Int (reduceLE reduceEq reduceToNat reduceNeg)
set_option linter.unusedSimpArgs false
set_option linter.unusedVariables false
set_option maxRecDepth 20000
set_option maxHeartbeats 4000000
theorem ZoU {ps:List Pane} {i:Int} {l:List Int} {w h:Int} (h1:wI ps i≤w) (h2:hI ps i≤h):∃ r,tkR ps (i :: l) w h=i :: r:=by
 simp only[tkR];rw[Kn (by omega)];split
 ·exact⟨[],rfl⟩
 ·exact⟨_,rfl⟩
theorem ZnY (ps:List Pane) (W:Int):∀ (n:Nat) (l:List Int) (h:Int),(tkS ps W n l h).flatten.length≤l.length
 | 0,_,_=>by simp[tkS]
 | n+1,[],_=>by simp[tkS]
 | n+1,i :: l,h=>by
  have h1:=Zk9 ps (i :: l) W (hI ps i);simp only[tkS];split
  ·simp
  ·split
   ·simpa using h1
   ·have:=ZnY ps W n ((i :: l).drop (tkR ps (i :: l) W (hI ps i)).length) (h-hI ps i);rw[KB] at this;simp only[KA,Kj];omega
theorem ZdY (W H:Int) (ps:List Pane) (ho:okP ps) (hW:0≤W∧W≤200) (ak:∀ x∈ps,x.W≤W) (O:List Int) (hO:O.length≤100) (ad:∀ x∈O,∃ m:Nat,x=(m:Int)∧m<ps.length):∀ (N p:Nat) (h:Int),O.length≤p+N→p≤O.length→0≤h→h≤200→∃ o a q t ks,(ZS ps W (tkS ps W N (O.drop p) h) h).plan=.mk o a q t ks ∧
  Zj Xs Ms VS [.d (.agg [J W,J H,.sl (ps.map Pane.enc)]),.d (.sl (O.map Qn)),(.d (J ((p:Nat)))),(.d (J h))] []=some (.tup [.agg [(.d (J o)),(.d (J a)),(.d (J q)),(.d (.bool t)),.own 0],(.d (J (((tkS ps W N (O.drop p) h).flatten.length:Nat))))],[.row 5 (ks.map Zl.enc) true false])
 | 0,p,h,hd,hp,_,_=>by
  have:p=O.length:=by omega
  subst this;refine⟨0,0,0,false,[],rfl,?_⟩;refine cE ?_;simp +contextual -implicitDefEqProofs (maxSteps:=10^7) only[go_sem,seval,↓gZ,Y1]<;>rfl
 | N+1,p,h,hd,hp,hh0,hh1=>by
  by_cases ao:p=O.length
  ·subst ao;rw[L7];refine⟨0,0,0,false,[],rfl,?_⟩;refine cE ?_;simp +contextual -implicitDefEqProofs (maxSteps:=10^7) only[go_sem,seval,↓gZ,Y1]<;>rfl
  ·obtain⟨x,hx⟩:=ZE (l:=O) (k:=p) (by omega);obtain⟨m,rfl,hm⟩:=ad x (Ke hx);obtain⟨z,hz⟩:=ZE hm;have ap:=ho z (Ke hz);have al:=ak z (Ke hz);have am:=ZdV hz;have ab:=Jv hz;have ae:O.drop p=(m:Int) :: O.drop (p+1):=by
    obtain⟨h1,h2⟩:=Kc.1 hx;rw[K3 h1,h2]
   have af:(O.map Qn)[p]?=some (J (m:Int)):=by rw[Kx,hx];rfl
   have g1:¬(p:Int)=(O.length:Int):=by omega
   have g2:p<O.length:=by omega
   obtain⟨o,a,q,t,ks,ag,e1⟩:=ZhZ W H ps ho O hO ad (O.length-p) p W z.H (by omega) hW.1 hW.2 (by omega) (by omega);have an:=Zk9 ps (O.drop p) W z.H;rw[KB] at an;obtain⟨r,hr⟩:=ZoU (ps:=ps) (l:=O.drop (p+1)) (w:=W) (h:=z.H) (by rw[am];exact al) (by rw[ab];exact Kae _);obtain⟨zW,zH,zT,zK⟩:=z;simp only at ap am ab al hr ag e1 an;have hT:tkS ps W (N+1) (O.drop p) h=if h<zH then [] else if zH=h then [tkR ps (O.drop p) W zH] else tkR ps (O.drop p) W zH :: tkS ps W N ((O.drop p).drop (tkR ps (O.drop p) W zH).length) (h-zH):=by
    rw[ae];simp only[tkS,ab]
   have aq:hd0 ps (tkR ps (O.drop p) W zH)=zH:=by rw[ae,hr];exact ab
   rw[hT];by_cases c1:h<zH
   ·rw[Ko c1];refine⟨0,0,0,false,[],rfl,?_⟩;refine cE ?_;simp +contextual -implicitDefEqProofs (maxSteps:=10^7) only[go_sem,seval,↓gZ,Y1,g1,g2,af,hz,hm,c1]<;>rfl
   ·rw[Kn c1];generalize hR:tkR ps (O.drop p) W zH=R at *;have aa:∀ rs,ZS ps W (R :: rs) h=if zH=h then J8 ps R W zH else .cut false zH (J8 ps R W zH) (ZS ps W rs (h-zH)):=fun rs=>by simp only[ZS,aq]
    by_cases c2:zH=h
    ·rw[Ko c2,aa,Ko c2];subst c2;refine⟨o,a,q,t,ks,ag,?_⟩;have ah:[R].flatten.length=R.length:=by simp
     refine cE ?_;simp +contextual -implicitDefEqProofs (maxSteps:=10^7) only[go_sem,seval,↓gZ,Y1,g1,g2,af,hz,hm,c1,e1,ah]
    ·rw[Kn c2,aa,Kn c2,Ly];have ar:1≤R.length:=by rw[← hR,ae,hr];simp
     obtain⟨o2,a2,q2,t2,au,ai,e2⟩:=ZdY W H ps ho hW ak O hO ad N (p+R.length) (h-zH) (by omega) (by omega) (by omega) (by omega);have aj:=ZnY ps W N (O.drop (p+R.length)) (h-zH);rw[KB] at aj;have w1:=wi (h-zH) (by omega) (by omega);have w2:IntKind.i64.wrap ((p:Int)+(R.length:Int))=((p+R.length:Nat):Int):=by rw[Xy (by omega) (by omega)];omega
     have w3:IntKind.i64.wrap ((R.length:Int)+((tkS ps W N (O.drop (p+R.length)) (h-zH)).flatten.length:Int))=((R.length+(tkS ps W N (O.drop (p+R.length)) (h-zH)).flatten.length:Nat):Int):=by rw[Xy (by omega) (by omega)];omega
     have ah:(R :: tkS ps W N (O.drop (p+R.length)) (h-zH)).flatten.length=R.length+(tkS ps W N (O.drop (p+R.length)) (h-zH)).flatten.length:=by simp
     rw[ah];refine⟨_,_,_,_,_,rfl,?_⟩;refine cE ?_;simp +contextual -implicitDefEqProofs (maxSteps:=10^7) only[go_sem,seval,↓gZ,Y1,g1,g2,af,hz,hm,c1,c2,e1,e2,w1,w2,w3,ag,ai]<;>rfl
def shS (ps:List Pane) (W H:Int):Nat→List Int→List (List (List Int))
 | 0,_=>[]
 | _+1,[]=>[]
 | n+1,i :: l=>tkS ps W (i :: l).length (i :: l) H :: shS ps W H n ((i :: l).drop (tkS ps W (i :: l).length (i :: l) H).flatten.length)
theorem Zlb {ps:List Pane} {W:Int} {i:Int} {l:List Int} {h:Int} {n:Nat} (h1:wI ps i≤W) (h2:hI ps i≤h):1≤(tkS ps W (n+1) (i :: l) h).flatten.length:=by
 obtain⟨r,hr⟩:=ZoU (ps:=ps) (l:=l) h1 (Kae (hI ps i));simp only[tkS];rw[Kn (by omega),hr];split
 ·simp
 ·simp
theorem ZfN (kW kH:Int) (kP:List Pane) (hp:Xg (ZO.mk kW kH kP)) (hl:kP.length≤24):Zj Xs Ms YU [(.d (.agg [J kW,J kH,.sl (kP.map Pane.enc)]))] []=some (.own 0,[.row 5 (((shS kP kW kH kP.length (Qf (hI kP) kP.length)).map fun s=>(ZS kP kW s kH).plan).map Zl.enc) true false]):=by
 have ho:okP kP:=ZeS hp.1.2.2.2.2.2;have ef:=Zla kP (by omega);have ar:=VO (hI kP) kP.length;have ag:∀ x∈Qf (hI kP) kP.length,∃ m:Nat,x=(m:Int)∧m<kP.length:=fun x hx=>WL _ hx;have hW:1≤kW∧kW≤200∧1≤kH∧kH≤200:=⟨hp.1.1,hp.1.2.1,hp.1.2.2.1,hp.1.2.2.2.1⟩
 have ah:∀ x∈kP,x.W≤kW:=fun x hx=>(hp.2 x hx).2.1;have ak:∀ x∈kP,x.H≤kH:=fun x hx=>(hp.2 x hx).2.2;generalize Qf (hI kP) kP.length=O at *;refine cE ?_;simp +contextual -implicitDefEqProofs (maxSteps:=10^7) only[go_sem,seval,↓gZ,U9];refine LO (α:=Nat) (fun i=>[(4,.d (J (i:Int)))]) (fun i=>[(0,.row 1 (((kP.take i).map Pane.H).map Qn) true false)]) (fun i=>i≤kP.length) (fun i=>kP.length-i) 0 (by omega) ?_;intro i hi ih;by_cases ai:i<kP.length
 ·obtain⟨⟨xW,xH,xT,xK⟩,hx⟩:=ZE ai;have aa : (i:Int)<(kP.length:Int):=by omega
  have hw:=ZD (k:=i) (by omega);have al:(kP.take i).length=i:=by rw[KP];omega
  have r1:(i+1)*8≤140737488355328∧i≤140737488355327:=by omega
  have hN:((kP.take (i+1)).map Pane.H).map Qn=((kP.take i).map Pane.H).map Qn++[J xH]:=by rw[KE,hx];simp[Qn]
  simp +contextual -implicitDefEqProofs (maxSteps:=10^7) only[go_sem,seval,↓gZ,hx,ai,aa,hw,al,r1];refine ih (i+1) _ (by omega) (by omega) ?_;simp +contextual -implicitDefEqProofs (maxSteps:=10^7) only[go_sem,seval,↓gZ,hN]
 ·have:i=kP.length:=by omega
  subst this;have aa : ¬(kP.length:Int)<(kP.length:Int):=by omega
  simp +contextual -implicitDefEqProofs (maxSteps:=10^7) only[go_sem,seval,↓gZ,aa,Li,ef];refine WQ Xs Ms (st0:=?st1) (α:=Nat×List Zl×Nat) (fun s=>[(7,.d (J (s.1:Int)))]) (fun s=>[(0,.row 5 (s.2.1.map Zl.enc) true false)]) (fun s=>s.1≤O.length∧s.2.1.length≤s.1∧O.length≤s.1+s.2.2∧s.2.1++(shS kP kW kH s.2.2 (O.drop s.1)).map (fun s=>(ZS kP kW s kH).plan)=(shS kP kW kH kP.length O).map (fun s=>(ZS kP kW s kH).plan)) (fun s=>O.length-s.1) (0,[],kP.length) ?hc2 ⟨by simp,by simp,by simp only;omega,by simp⟩ ?h02 ?step2
  case hc2=>simp +contextual -implicitDefEqProofs (maxSteps:=10^7) only[go_sem,seval,↓gZ]<;>exact rfl
  case h02=>rfl
  case step2=>
   intro⟨p,S,n⟩ ⟨hp1,hS,hn,hg⟩ ih2;simp only at hp1 hS hn hg;by_cases aj:p<O.length
   ·obtain⟨x,hx⟩:=ZE aj;obtain⟨m,rfl,hm⟩:=ag x (Ke hx);obtain⟨z,hz⟩:=ZE hm;have ab:O.drop p=(m:Int) :: O.drop (p+1):=by
     obtain⟨h1,h2⟩:=Kc.1 hx;rw[K3 h1,h2]
    have am:((m:Int) :: O.drop (p+1)).length=O.length-p:=by rw[← ab,KB]
    obtain⟨n,rfl⟩:∃ n',n=n'+1:=⟨n-1,by omega⟩
    obtain⟨o,a,q,t,ks,an,e1⟩:=ZdY kW kH kP ho (by omega) ah O (by omega) ag (O.length-p) p kH (by omega) (by omega) (by omega) (by omega);have ad:=Zlb (ps:=kP) (W:=kW) (i:=(m:Int)) (l:=O.drop (p+1)) (h:=kH) (n:=O.length-p-1) (by rw[ZdV hz];exact ah z (Ke hz)) (by rw[Jv hz];exact ak z (Ke hz));rw[show O.length-p-1+1=O.length-p by omega,← ab] at ad;have ao:=ZnY kP kW (O.length-p) (O.drop p) kH;rw[KB] at ao;have ap:shS kP kW kH (n+1) (O.drop p)=tkS kP kW (O.length-p) (O.drop p) kH :: shS kP kW kH n (O.drop (p+(tkS kP kW (O.length-p) (O.drop p) kH).flatten.length)):=by
     rw[ab];simp only[shS];rw[am,← ab,Ly]
    rw[ap] at hg;generalize tkS kP kW (O.length-p) (O.drop p) kH=T at *;have ae : (p:Int)<(O.length:Int):=by omega
    have w1:IntKind.i64.wrap ((p:Int)+(T.flatten.length:Int))=((p+T.flatten.length:Nat):Int):=by rw[Xy (by omega) (by omega)];omega
    have r1:(S.length+1)*56≤140737488355328∧S.length≤140737488355327:=by omega
    have hN:(S++[Zl.mk o a q t ks]).map Zl.enc=S.map Zl.enc++[Zl.enc (.mk o a q t ks)]:=by simp
    simp +contextual -implicitDefEqProofs (maxSteps:=10^7) only[go_sem,seval,↓gZ,aj,ae,e1,w1,r1];refine ih2 (p+T.flatten.length,S++[.mk o a q t ks],n) _ ⟨by simp only;omega,by simp only[Kj,Kg,KH];omega,by simp only;omega,?_⟩ (by simp only;omega) ?_
    ·rw[← hg,← an];simp
    ·simp +contextual -implicitDefEqProofs (maxSteps:=10^7) only[go_sem,seval,↓gZ,hN,Zl.enc_mk]
   ·have:p=O.length:=by omega
    subst this;have af:¬(O.length:Int)<(O.length:Int):=by omega
    have aq:S=(shS kP kW kH kP.length O).map (fun s=>(ZS kP kW s kH).plan):=by
     rw[L7] at hg;have:shS kP kW kH n []=[]:=by cases n<;>rfl
     rw[this,Lv,Lf] at hg;exact hg
    simp +contextual -implicitDefEqProofs (maxSteps:=10^7) only[go_sem,seval,↓gZ,af,← aq]
theorem ZfO (kW kH:Int) (kP:List Pane) (hl:kP.length≤24):Zj Xs Ms XQ [(.d (.agg [J kW,J kH,.sl (kP.map Pane.enc)]))] []=some (.own 0,[.row 5 ((if Xg (ZO.mk kW kH kP) then (shS kP kW kH kP.length (Qf (hI kP) kP.length)).map (fun s=>(ZS kP kW s kH).plan) else []).map Zl.enc) true false]):=by
 have e1:=ZhT kW kH kP (by omega);have e2:=ZnX kW kH kP (by omega);by_cases h1:VW (ZO.mk kW kH kP)
 ·rw[KN h1] at e1;by_cases h2:∀ x∈kP,x.Turns=false∧x.W≤kW∧x.H≤kH
  ·have hp:Xg (ZO.mk kW kH kP):=⟨h1,h2⟩
   rw[KN h2] at e2;rw[Ko hp];have e3:=ZfN kW kH kP hp hl;refine cE ?_;simp +contextual -implicitDefEqProofs (maxSteps:=10^7) only[go_sem,seval,↓gZ,Y0,e1,e2,e3]
  ·have hp:¬Xg (ZO.mk kW kH kP):=fun h=>h2 h.2;rw[Ky h2] at e2;rw[Kn hp];refine cE ?_;simp +contextual -implicitDefEqProofs (maxSteps:=10^7) only[go_sem,seval,↓gZ,Y0,e1,e2]<;>rfl
 ·have hp:¬Xg (ZO.mk kW kH kP):=fun h=>h1 h.1;rw[Ky h1] at e1;rw[Kn hp];refine cE ?_;simp +contextual -implicitDefEqProofs (maxSteps:=10^7) only[go_sem,seval,↓gZ,Y0,e1]<;>rfl
end Go.Proofs.Ytefabmohhbhlfaa
