/- Own text. -/
import Derived.Test.YtnachaiejoflhaaDCode
import Derived.Test.YtnachaiejoflhaaAbsParts
import Derived.Test.YtnachaiejoflhaaDC5
import Derived.Test.YtnachaiejoflhaaAbsOkD
namespace Go.Proofs.Ytnachaiejoflhaa
open Go Go.Abs Go.Abs.E Go.Abs.L
open Nat (reduceMul reduceSub reduceLeDiff reduceEqDiff)
open Int (reduceLE reduceEq reduceToNat reduceNeg)
set_option linter.unusedSimpArgs false
set_option linter.unusedVariables false
set_option maxRecDepth 20000
set_option maxHeartbeats 4000000
theorem Zmg (pL pW pH:Int) (pF:List Box) (hk:pF.length≤maxLen) (left:Int) (h0:0≤left) (hl:left≤1048576):Zh Xs Ms Ub [(.d (.agg [J pL,J pW,J pH,.sl (pF.map Box.enc)])),(.d (J left))] []=some ((.d (J (szV left pF.length))),[]):=by
 have e1:=ZnQ pF hk left h0 hl;by_cases hy:(pF.length:Int)≤left
 ·rw[Vx hy] at e1 ⊢;have aa:¬left-(pF.length:Int)<0:=by omega
  refine cE ?_;simp +contextual -implicitDefEqProofs (maxSteps:=10^7) only[go_sem,seval,↓gZ,JS,e1,aa]
 ·rw[Wg hy] at e1 ⊢;refine cE ?_;simp +contextual -implicitDefEqProofs (maxSteps:=10^7) only[go_sem,seval,↓gZ,JS,e1]
def ZcF (p:Zf):Nat:=p.Flaws.length
theorem ZjK (ks:List Zf) (hk:ks.length≤maxLen) (ae:∀ p∈ks,p.Flaws.length≤maxLen) (left:Int) (h0:0≤left) (hl:left≤1048576) :
  Zh Xs Ms Wj [(.d (.sl (ks.map Zf.enc))),(.d (J left))] []=some ((.d (J (szV left (ks.length+ZA ZcF ks)))),[]):=by
 have ai : (ks.length:Int)≤9223372036854775807:=by unfold maxLen at hk;omega
 have w:=wi (left-ks.length) (by omega) (by omega);by_cases aa:left-(ks.length:Int)<0
 ·rw[Wg (by omega)];refine cE ?_;simp +contextual -implicitDefEqProofs (maxSteps:=10^7) only[go_sem,seval,↓gZ,UK,w,aa]
 ·refine cE ?_;simp +contextual -implicitDefEqProofs (maxSteps:=10^7) only[go_sem,seval,↓gZ,UK,w,aa];refine LO (α:=Nat×Int) (fun a=>[(5,.d (J (a.1:Int))),(1,.d (J a.2))]) (fun _=>[]) (fun a=>a.1≤ks.length∧0≤a.2∧a.2≤left∧szV left (ks.length+ZA ZcF ks)=szV a.2 (ZA ZcF (ks.drop a.1))) (fun a=>ks.length-a.1) (0,left-ks.length) ⟨by simp,by simp only;omega,by simp only;omega,by simp only[List.drop_zero];unfold szV;split<;>split<;>omega⟩ ?_;intro⟨k,m⟩ ⟨hk1,hm0,hml,hp⟩ ih2;simp only at hk1 hm0 hml hp ih2 ⊢;by_cases ad:k<ks.length
  ·obtain⟨x,hx⟩:=ZJ ad;have ab : (k:Int)<(ks.length:Int):=by omega
   have w1:=Zq (k:=k) (by omega);have af:=ae x (Ke hx);rw[ZnG hx] at hp;obtain⟨L,W,H,F⟩:=x;have e1:=Zmg L W H F af m hm0 (by omega);have ag:ZcF ⟨L,W,H,F⟩=F.length:=rfl;rw[ag] at hp;by_cases hy:(F.length:Int)≤m
   ·rw[Vx hy] at e1;have ah:¬m-(F.length:Int)<0:=by omega
    simp +contextual -implicitDefEqProofs (maxSteps:=10^7) only[go_sem,seval,↓gZ,ab,ad,hx,w1,e1,ah];refine ih2 (k+1,m-F.length) _ ⟨by simp only;omega,by simp only;omega,by simp only;omega,?_⟩ (by simp only;omega) ?_
    ·rw[hp];simp only;unfold szV;split<;>split<;>omega
    ·simp +contextual -implicitDefEqProofs (maxSteps:=10^7) only[go_sem,seval,↓gZ]
   ·rw[Wg hy] at e1;rw[hp,Wg (by omega)];simp +contextual -implicitDefEqProofs (maxSteps:=10^7) only[go_sem,seval,↓gZ,ab,ad,hx,w1,e1]
  ·have:k=ks.length:=by omega
   subst this;rw[List.drop_length] at hp;rw[hp,Vx (by simp only[ZA];omega)];have hz:m-((ZA ZcF []:Nat):Int)=m:=by simp[ZA]
   rw[hz];simp +contextual -implicitDefEqProofs (maxSteps:=10^7) only[go_sem,seval,↓gZ]
theorem Zmh (pL pW pH:Int) (pF:List Box) (h:pF.length≤1048576):Zh Xs Ms Uc [(.d (.agg [J pL,J pW,J pH,.sl (pF.map Box.enc)]))] []=some (.agg [(.d (J pL)),(.d (J pW)),(.d (J pH)),.own 0],[.row 4 (pF.map Box.enc) true false]):=by
 have e1:=ZnR pF h;refine cE ?_;simp +contextual -implicitDefEqProofs (maxSteps:=10^7) only[go_sem,seval,↓gZ,ZcH,e1]
def ZnS:D:=.agg [J 0,J 0,J 0,.sl []]
theorem ZjL (ks:List Zf) (hk:ks.length≤1048576) (hs:∀ p∈ks,ZcF p≤1048576):Zh Xs Ms Xu [(.d (.sl (ks.map Zf.enc)))] []=some (.own 0,[.tree 4 4 (ks.map Zf.enc) none]):=by
 have hm:(ks.length:Int)*48≤140737488355328∧(ks.length:Int)≤140737488355328:=by omega
 refine cE ?_;simp +contextual -implicitDefEqProofs (maxSteps:=10^7) only[go_sem,seval,↓gZ,Zbv,hm,ZC];refine V2 Xs Ms (st0:=?st0) (α:=Nat) (fun k=>[(4,.d (J (k:Int)))]) (fun k=>[(0,.tree 4 4 (Jk Zf.enc ZnS ks k) none)]) (fun k=>k≤ks.length) (fun k=>ks.length-k) 0 ?hc (by omega) ?h0 ?step
 case hc=>simp +contextual -implicitDefEqProofs (maxSteps:=10^7) only[go_sem,seval,↓gZ]<;>exact rfl
 case h0=>rw[Zbm];rfl
 case step=>
  intro k ae af;have ag:=Zdj Zf.enc ZnS ae;by_cases ab:k<ks.length
  ·obtain⟨x,hx⟩:=ZJ ab;have ad : (k:Int)<(ks.length:Int):=by omega
   have w1:=Zq (k:=k) (by omega);have aa:=Zdk (f:=Zf.enc) (z:=ZnS) hx;have ah:=hs x (Ke hx);obtain⟨L,W,H,F⟩:=x;have e1:=Zmh L W H F ah;simp only[Zf.enc] at aa;have z1:=Zdl (f:=Zf.enc) (z:=ZnS) ab;have z2:ZnS.notSl=true:=rfl;have z3:ZnS.cells.length=4:=rfl;have z4:Xf ZnS 0 [J L,J W,J H,.sl (F.map Box.enc)]=.agg [J L,J W,J H,.sl (F.map Box.enc)]:=rfl;have z5:ZnS.isAgg=true:=rfl;have z6:=aF (l:=F) (g:=Box.enc) fun _=>rfl;simp +contextual -implicitDefEqProofs (maxSteps:=10^7) only[go_sem,seval,↓gZ,ad,ab,hx,w1,e1,ag,z1,z2,z3,z4,z5,z6,aa];refine af (k+1) _ (by omega) (by omega) ?_;simp +contextual -implicitDefEqProofs (maxSteps:=10^7) only[go_sem,seval,↓gZ,aa]
  ·have:k=ks.length:=by omega
   subst this;rw[Zdi];simp +contextual -implicitDefEqProofs (maxSteps:=10^7) only[go_sem,seval,↓gZ]
def Zaa {α:Type} (f:α→Int→α) (c:α→Nat):List α→Int→List α
 | [],_=>[]
 | x :: r,k=>f x k :: Zaa f c r (k+c x)
theorem Jm {α:Type} (f:α→Int→α) (c:α→Nat):∀ (l:List α) (k:Int),(Zaa f c l k).length=l.length
 | [],_=>rfl
 | x :: r,k=>by simp[Zaa,Jm f c r]
theorem ZnT {α:Type} (f:α→Int→α) (c:α→Nat):∀ (l:List α) (k:Int) (i:Nat) (x:α),l[i]?=some x→(Zaa f c l k)[i]?=some (f x (k+(ZA c (l.take i):Nat)))
 | y :: r,k,0,x,h=>by simp only[Lr,Option.some.injEq] at h;subst h;simp[Zaa,ZA]
 | y :: r,k,i+1,x,h=>by
  rw[Zaa,Lg,ZnT f c r _ i x (by simpa using h),List.take_succ_cons,ZA];congr 2;push_cast;omega
theorem ZgL {α:Type} (f:α→Int→α) (c:α→Nat):∀ (l r:List α) (k:Int),Zaa f c (l++r) k=Zaa f c l k++Zaa f c r (k+(ZA c l:Nat))
 | [],r,k=>by simp[Zaa,ZA]
 | x :: l,r,k=>by
  rw[KI,Zaa,ZgL f c l r,Zaa,KI,ZA];congr 3;push_cast;omega
theorem Zbn {α:Type} (c:α→Nat):∀ (l r:List α),ZA c (l++r)=ZA c l+ZA c r
 | [],r=>by simp[ZA]
 | x :: l,r=>by simp[ZA,Zbn c l r];omega
theorem Zee {α:Type} {c:α→Nat} {l:List α} {i:Nat} {x:α} (h:l[i]?=some x):ZA c (l.take (i+1))=ZA c (l.take i)+c x:=by
 rw[La,h,Zbn];simp[ZA]
theorem X5 {α:Type} (c:α→Nat) (l:List α) (i:Nat):ZA c (l.take i)≤ZA c l:=by
 have:=Zbn c (l.take i) (l.drop i);rw[K1] at this;omega
def ZfZ {α:Type} (f:α→Int→α) (c:α→Nat) (k:Int) (l:List α) (i:Nat):List α:=Zaa f c (l.take i) k++l.drop i
theorem ZnU {α:Type} (f:α→Int→α) (c:α→Nat) (k:Int) {l:List α} {i:Nat} (h:i≤l.length):(ZfZ f c k l i).length=l.length:=by simp[ZfZ,Jm];omega
theorem ZnV {α:Type} (f:α→Int→α) (c:α→Nat) (k:Int) {l:List α} {i:Nat} {x:α} (h:l[i]?=some x):(ZfZ f c k l i)[i]?=some x:=by
 obtain⟨h1,_⟩:=Kc.1 h;have hl:(Zaa f c (l.take i) k).length=i:=by rw[Jm];simp;omega
 unfold ZfZ;rw[Ku (by omega),hl,LS,KK];simpa using h
theorem Zle {α:Type} (g:α→D) (f:α→Int→α) (c:α→Nat) (k:Int) {l:List α} {i:Nat} {x:α} (h:l[i]?=some x):((ZfZ f c k l i).map g).set i (g (f x (k+(ZA c (l.take i):Nat))))=(ZfZ f c k l (i+1)).map g:=by
 obtain⟨h1,h2⟩:=Kc.1 h;have hl:(Zaa f c (l.take i) k).length=i:=by rw[Jm];simp;omega
 rw[← List.map_set];congr 1;unfold ZfZ;rw[List.set_append_right _ _ (by omega),hl,LS,La,h,ZgL,K0,KS h1];rfl
theorem ZnW {α:Type} (f:α→Int→α) (c:α→Nat) (k:Int) (l:List α):ZfZ f c k l l.length=Zaa f c l k:=by simp[ZfZ]
theorem Zlf {α:Type} (f:α→Int→α) (c:α→Nat) (k:Int) (l:List α):ZfZ f c k l 0=l:=by simp[ZfZ,Zaa]
theorem Zi0 (pL pW pH:Int) (pF:List Box) (h:pF.length≤1099511627776):Zh Xs Ms Ud [(.d (.agg [J pL,J pW,J pH,.sl (pF.map Box.enc)])),(.d (.agg [J pL,J pW,J pH,.sl (pF.map Box.enc)]))] []=some ((.d (.bool true)),[]):=by
 have e1:=ZjH pF h;refine cE ?_;simp +contextual -implicitDefEqProofs (maxSteps:=10^7) only[go_sem,seval,↓gZ,ZcI,e1]
theorem Uu (ks:List Zf) (hk:ks.length≤1099511627776) (hs:∀ p∈ks,ZcF p≤1099511627776):Zh Xs Ms Xt [(.d (.sl (ks.map Zf.enc))),(.d (.sl (ks.map Zf.enc)))] []=some ((.d (.bool true)),[]):=by
 refine cE ?_;simp +contextual -implicitDefEqProofs (maxSteps:=10^7) only[go_sem,seval,↓gZ,Zbu];refine LO (α:=Nat) (fun k=>[(5,.d (J (k:Int)))]) (fun _=>[]) (fun k=>k≤ks.length) (fun k=>ks.length-k) 0 (by omega) ?_;intro k af ad;by_cases ab:k<ks.length
 ·obtain⟨x,hx⟩:=ZJ ab;have aa : (k:Int)<(ks.length:Int):=by omega
  have w1:=Zq (k:=k) (by omega);have ae:=hs x (Ke hx);obtain⟨L,W,H,F⟩:=x;have e1:=Zi0 L W H F ae;simp +contextual -implicitDefEqProofs (maxSteps:=10^7) only[go_sem,seval,↓gZ,aa,ab,hx,w1,e1];refine ad (k+1) _ (by omega) (by omega) ?_;simp +contextual -implicitDefEqProofs (maxSteps:=10^7) only[go_sem,seval,↓gZ]
 ·have:k=ks.length:=by omega
  subst this;simp +contextual -implicitDefEqProofs (maxSteps:=10^7) only[go_sem,seval,↓gZ]
def Zmi (p:Zf) (k:Int):Zf:=⟨k,k+1,k+1+1,mks ZbM 4 p.Flaws.length (k+1+1+1)⟩
def pcN (p:Zf):Nat:=3+4*p.Flaws.length
abbrev Zqf (l:List Zf) (k:Int):List Zf:=Zaa Zmi pcN l k
theorem ZbN (ks:List Zf) (hk:ZA pcN ks≤1099511627776) (hl:ks.length≤1099511627776) (k:Int) (h0:0≤k) (h1:k≤562949953421312):Zh Xs Ms ZN [.own 0,(.d (J k))] [.tree 4 4 (ks.map Zf.enc) none]=some ((.d (J (k+(ZA pcN ks:Nat)))),[.tree 4 4 ((Zqf ks k).map Zf.enc) none]):=by
 refine cE ?_;simp +contextual -implicitDefEqProofs (maxSteps:=10^7) only[go_sem,seval,↓gZ,Wv];refine V2 Xs Ms (st0:=?st0) (α:=Nat) (fun i=>[(5,.d (J (i:Int))),(1,.d (J (k+(ZA pcN (ks.take i):Nat))))]) (fun i=>[(0,.tree 4 4 ((ZfZ Zmi pcN k ks i).map Zf.enc) none)]) (fun i=>i≤ks.length) (fun i=>ks.length-i) 0 ?hc (by omega) ?h0 ?step
 case hc=>simp +contextual -implicitDefEqProofs (maxSteps:=10^7) only[go_sem,seval,↓gZ]<;>exact rfl
 case h0=>simp only[Zlf,LR,ZA,Lj,LL];rfl
 case step=>
  intro i hi ih;have ae:=ZnU Zmi pcN k hi;have ai:=X5 pcN ks i;by_cases ab:i<ks.length
  ·obtain⟨x,hx⟩:=ZJ ab;have aa : (i:Int)<(ks.length:Int):=by omega
   have w1:=Zq (k:=i) (by omega);have hg:=ZnV Zmi pcN k hx;have hs:=Zle Zf.enc Zmi pcN k hx;have af:=Zee (c:=pcN) hx;have ag:=X5 pcN ks (i+1);obtain⟨L,W,H,F⟩:=x;have ah:pcN ⟨L,W,H,F⟩=3+4*F.length:=rfl;have ad:k+(ZA pcN (ks.take (i+1)):Nat)=k+(ZA pcN (ks.take i):Nat)+1+1+1+((4*F.length:Nat):Int):=by rw[af,ah];push_cast;omega
   generalize hK:k+(ZA pcN (ks.take i):Nat)=K at hs ad ⊢;have e1:=ZjI F (by omega) (K+1+1+1) (by omega) (by omega);have a1:=aF (l:=F) (g:=Box.enc) fun _=>rfl;have a2:=aF (l:=mks ZbM 4 F.length (K+1+1+1)) (g:=Box.enc) fun _=>rfl;have v1:=wi (K+1) (by omega) (by omega);have v2:=wi (K+1+1) (by omega) (by omega);have v3:=wi (K+1+1+1) (by omega) (by omega);simp only[Zmi,Zf.enc] at hs;simp +contextual -implicitDefEqProofs (maxSteps:=10^7) only[go_sem,seval,↓gZ,aa,ab,hg,w1,ae,v1,v2,v3,e1,a1,a2,List.length_set,KO,List.set_set];refine ih (i+1) _ (by omega) (by omega) ?_;simp +contextual -implicitDefEqProofs (maxSteps:=10^7) only[go_sem,seval,↓gZ,hs,ad]
  ·have:i=ks.length:=by omega
   subst this;rw[ZnW,List.take_length];simp +contextual -implicitDefEqProofs (maxSteps:=10^7) only[go_sem,seval,↓gZ,Jm]
theorem Zf0:∀ l:List Zf,ZA pcN l=3*l.length+4*ZA ZcF l
 | []=>rfl
 | p :: r=>by rw[ZA,Zf0 r,ZA];simp only[pcN,ZcF,Kp];omega
theorem Zlg {α:Type} {f:α→Nat}:∀ {l:List α} {x:α},x∈l→f x≤ZA f l
 | y :: l,x,h=>by
  rcases Kf.1 h with rfl | h
  ·simp[ZA]
  ·have:=Zlg (f:=f) h;simp only[ZA];omega
theorem Zf1 (k:Int):Zh Xs Ms ZN [.own 0,(.d (J k))] [.row 4 [] true false]=some ((.d (J k)),[.row 4 [] true false]):=by
 refine cE ?_;simp +contextual -implicitDefEqProofs (maxSteps:=10^7) only[go_sem,seval,↓gZ,Wv];refine LO (α:=Unit) (fun _=>[]) (fun _=>[]) (fun _=>True) (fun _=>0) () trivial ?_;intro _ _ _;simp +contextual -implicitDefEqProofs (maxSteps:=10^7) only[go_sem,seval,↓gZ]
theorem ZnX {α:Type} {f:α→Nat} {c:Nat}:∀ {l:List α},(∀ x∈l,f x≤c)→ZA f l≤c*l.length
 | [],_=>by simp[ZA]
 | x :: l,h=>by
  have h1:=h x (by simp);have h2:=ZnX (f:=f) (c:=c) (l:=l) fun y hy=>h y (by simp[hy]);simp only[ZA,Kp,Nat.mul_add];omega
theorem ZbO (ks:List Zf) (hk:ZA pcN ks≤1099511627776) (hl:ks.length≤1099511627776) (k:Int) (h0:0≤k) (h1:k≤562949953421312):Zh Xs Ms XI [.d (.sl ((Zqf ks k).map Zf.enc)),(.d (J k))] []=some ((.d (J (k+(ZA pcN ks:Nat)))),[]):=by
 have ab:=Jm Zmi pcN ks k;refine cE ?_;simp +contextual -implicitDefEqProofs (maxSteps:=10^7) only[go_sem,seval,↓gZ,Jw];refine V2 Xs Ms (st0:=?st0) (α:=Nat) (fun i=>[(5,.d (J (i:Int))),(1,.d (J (k+(ZA pcN (ks.take i):Nat))))]) (fun _=>[]) (fun i=>i≤ks.length) (fun i=>ks.length-i) 0 ?hc (by omega) ?h0 ?step
 case hc=>simp +contextual -implicitDefEqProofs (maxSteps:=10^7) only[go_sem,seval,↓gZ]<;>exact rfl
 case h0=>simp only[LR,ZA,Lj,LL];rfl
 case step=>
  intro i hi ih;have ai:=X5 pcN ks i;by_cases ad:i<ks.length
  ·obtain⟨x,hx⟩:=ZJ ad;have aa : (i:Int)<(ks.length:Int):=by omega
   have w1:=Zq (k:=i) (by omega);have hg:=ZnT Zmi pcN ks k i x hx;have af:=Zee (c:=pcN) hx;have ag:=X5 pcN ks (i+1);obtain⟨L,W,H,F⟩:=x;have ah:pcN ⟨L,W,H,F⟩=3+4*F.length:=rfl;have ae:k+(ZA pcN (ks.take (i+1)):Nat)=k+(ZA pcN (ks.take i):Nat)+1+1+1+((4*F.length:Nat):Int):=by rw[af,ah];push_cast;omega
   generalize hK:k+(ZA pcN (ks.take i):Nat)=K at hg ae ⊢;have e1:=ZjJ F.length (by omega) (K+1+1+1) (by omega) (by omega);have n1:¬K+1+1+1+((4*F.length:Nat):Int)<0:=by omega
   have v1:=wi (K+1) (by omega) (by omega);have v2:=wi (K+1+1) (by omega) (by omega);have v3:=wi (K+1+1+1) (by omega) (by omega);simp only[Zmi] at hg;simp +contextual -implicitDefEqProofs (maxSteps:=10^7) only[go_sem,seval,↓gZ,aa,ad,hg,w1,ab,v1,v2,v3,e1,n1];refine ih (i+1) _ (by omega) (by omega) ?_;simp +contextual -implicitDefEqProofs (maxSteps:=10^7) only[go_sem,seval,↓gZ,ae]
  ·have:i=ks.length:=by omega
   subst this;rw[List.take_length];simp +contextual -implicitDefEqProofs (maxSteps:=10^7) only[go_sem,seval,↓gZ,ab]
theorem ZnY (kW kH:Int) (kP:List Pane) (hk:kP.length≤maxLen) (left:Int) (h0:0≤left) (hl:left≤1048576):Zh Xs Ms Jo [(.d (.agg [J kW,J kH,.sl (kP.map Pane.enc)])),(.d (J left))] []=some ((.d (J (szV left kP.length))),[]):=by
 have e1:=Zme kP hk left h0 hl;by_cases hy:(kP.length:Int)≤left
 ·rw[Vx hy] at e1 ⊢;have aa:¬left-(kP.length:Int)<0:=by omega
  refine cE ?_;simp +contextual -implicitDefEqProofs (maxSteps:=10^7) only[go_sem,seval,↓gZ,Zbp,e1,aa]
 ·rw[Wg hy] at e1 ⊢;refine cE ?_;simp +contextual -implicitDefEqProofs (maxSteps:=10^7) only[go_sem,seval,↓gZ,Zbp,e1]
theorem ZnZ (kW kH:Int) (kP:List Pane) (h:kP.length≤1048576):Zh Xs Ms YK [(.d (.agg [J kW,J kH,.sl (kP.map Pane.enc)]))] []=some (.agg [(.d (J kW)),(.d (J kH)),.own 0],[.row 4 (kP.map Pane.enc) true false]):=by
 have e1:=Zmf kP h;refine cE ?_;simp +contextual -implicitDefEqProofs (maxSteps:=10^7) only[go_sem,seval,↓gZ,Zeg,e1]
theorem ZjM (kW kH:Int) (kP:List Pane) (h:kP.length≤1099511627776):Zh Xs Ms Jn [(.d (.agg [J kW,J kH,.sl (kP.map Pane.enc)])),(.d (.agg [J kW,J kH,.sl (kP.map Pane.enc)]))] []=some ((.d (.bool true)),[]):=by
 have e1:=ZiY kP h;refine cE ?_;simp +contextual -implicitDefEqProofs (maxSteps:=10^7) only[go_sem,seval,↓gZ,Zef,e1]
theorem ZjN (kW kH:Int) (kP:List Pane) (hk:kP.length≤1099511627776) (k:Int) (h0:0≤k) (h1:k≤562949953421312):Zh Xs Ms Qh [.agg [(.d (J kW)),(.d (J kH)),.own 0],(.d (J k))] [.row 4 (kP.map Pane.enc) true false]=some ((.d (J (k+((4*kP.length:Nat):Int)))),[.row 4 ((mks Zec 4 kP.length k).map Pane.enc) true false]):=by
 have e1:=ZiZ kP hk k h0 (by omega);refine cE ?_;simp +contextual -implicitDefEqProofs (maxSteps:=10^7) only[go_sem,seval,↓gZ,Zbo,e1]
end Go.Proofs.Ytnachaiejoflhaa
