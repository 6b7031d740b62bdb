/- Own text. -/
import Derived.Test.YtdhgppkldoopaaaGreatACode
import Derived.Test.YtdhgppkldoopaaaGreatAbsParts
import Derived.Test.YtdhgppkldoopaaaGreatAC5
import Derived.Test.YtdhgppkldoopaaaGreatAC14
import Derived.Test.YtdhgppkldoopaaaGreatAbsOkD
namespace Go.Proofs.YtdhgppkldoopaaaGreat
open Go Go.Abs Go.Abs.E Go.Abs.L
open Nat (reduceMul reduceSub reduceLeDiff reduceEqDiff)
open Int (reduceLE reduceEq reduceToNat reduceNeg)
set_option linter.unusedSimpArgs false
set_option linter.unusedVariables false
set_option maxRecDepth 20000
set_option maxHeartbeats 4000000
theorem ZjR (eK eL eX eY eW eH aa ab:Int) (ad:Bool) (ae eC eo ea ep:Int) (et:Bool) (ek:List Zd) (af:Zd.ok (.mk eo ea ep et ek)) (left:Int) (h0:0≤left) (hl:left≤1048576):Zf Xs Ms Um [(.d (.agg [J eK,J eL,J eX,J eY,J eW,J eH,J aa,J ab,.bool ad,J ae,J eC,J eo,J ea,J ep,.bool et,.sl (ek.map Zd.enc)])),(.d (J left))] []=some ((.d (J (szV left (nL ek)))),[]):=by
 have e1:=Ztm _ af left h0 hl;have ag:(Zd.mk eo ea ep et ek).nodes-1=nL ek:=by simp only[Zd.nodes,nL];omega
 rw[Zd.enc_mk,ag] at e1;by_cases hy:((nL ek:Nat):Int)≤left
 ·rw[X6 hy] at e1 ⊢;have ah:¬left-((nL ek:Nat):Int)<0:=by omega
  generalize nL ek=m at *;refine cE ?_;simp +contextual -implicitDefEqProofs (maxSteps:=10^7) only[go_sem,seval,↓gZ,Zcf,e1,ah]
 ·rw[XV hy] at e1 ⊢;refine cE ?_;simp +contextual -implicitDefEqProofs (maxSteps:=10^7) only[go_sem,seval,↓gZ,Zcf,e1]
def ZcE (e:Zt):Nat:=e.plan.nodes-1
theorem Zqq (ks:List Zt) (hk:ks.length≤maxLen) (ae:∀ e∈ks,e.plan.ok) (left:Int) (h0:0≤left) (hl:left≤1048576) :
  Zf Xs Ms UK [(.d (.sl (ks.map Zt.enc))),(.d (J left))] []=some ((.d (J (szV left (ks.length+Zo ZcE ks)))),[]):=by
 have ai : (ks.length:Int)≤9223372036854775807:=by unfold maxLen at hk;omega
 have w:=wi (left-ks.length) (by omega) (by omega);by_cases aa:left-(ks.length:Int)<0
 ·rw[XV (by omega)];refine cE ?_;simp +contextual -implicitDefEqProofs (maxSteps:=10^7) only[go_sem,seval,↓gZ,ZaU,w,aa]
 ·refine cE ?_;simp +contextual -implicitDefEqProofs (maxSteps:=10^7) only[go_sem,seval,↓gZ,ZaU,w,aa];refine LO (α:=Nat×Int) (fun a=>[(5,.d (J (a.1:Int))),(1,.d (J a.2))]) (fun _=>[]) (fun a=>a.1≤ks.length∧0≤a.2∧a.2≤left∧szV left (ks.length+Zo ZcE ks)=szV a.2 (Zo ZcE (ks.drop a.1))) (fun a=>ks.length-a.1) (0,left-ks.length) ⟨by simp,by simp only;omega,by simp only;omega,by simp only[List.drop_zero];unfold szV;split<;>split<;>omega⟩ ?_;intro⟨k,m⟩ ⟨hk1,hm0,hml,hp⟩ ih2;simp only at hk1 hm0 hml hp ih2 ⊢;by_cases ad:k<ks.length
  ·obtain⟨x,hx⟩:=Zr ad;have ab : (k:Int)<(ks.length:Int):=by omega
   have w1:=Zj (k:=k) (by omega);have af:=ae x (Kb hx);rw[Zn1 hx] at hp;obtain⟨K,L,⟨X,Y,W,H⟩,⟨⟨pW,pH,pT,pK⟩,C⟩,⟨o,a,q,t,kk⟩⟩:=x;have e1:=ZjR K L X Y W H pW pH pT pK C o a q t kk af m hm0 (by omega);have ag:ZcE ⟨K,L,⟨X,Y,W,H⟩,⟨⟨pW,pH,pT,pK⟩,C⟩,.mk o a q t kk⟩=nL kk:=by simp only[ZcE,Zd.nodes,nL];omega
   rw[ag] at hp;generalize nL kk=nx at e1 hp;by_cases hy:(nx:Int)≤m
   ·rw[X6 hy] at e1;have ah:¬m-(nx:Int)<0:=by omega
    simp +contextual -implicitDefEqProofs (maxSteps:=10^7) only[go_sem,seval,↓gZ,ab,ad,hx,w1,e1,ah];refine ih2 (k+1,m-nx) _ ⟨by simp only;omega,by simp only;omega,by simp only;omega,?_⟩ (by simp only;omega) ?_
    ·rw[hp];simp only;unfold szV;split<;>split<;>omega
    ·simp +contextual -implicitDefEqProofs (maxSteps:=10^7) only[go_sem,seval,↓gZ]
   ·rw[XV hy] at e1;rw[hp,XV (by omega)];simp +contextual -implicitDefEqProofs (maxSteps:=10^7) only[go_sem,seval,↓gZ,ab,ad,hx,w1,e1]
  ·have:k=ks.length:=by omega
   subst this;rw[List.drop_length] at hp;rw[hp,X6 (by simp only[Zo];omega)];have hz:m-((Zo ZcE []:Nat):Int)=m:=by simp[Zo]
   rw[hz];simp +contextual -implicitDefEqProofs (maxSteps:=10^7) only[go_sem,seval,↓gZ]
theorem ZjS (eK eL eX eY eW eH aa ab:Int) (ad:Bool) (ae eC eo ea ep:Int) (et:Bool) (ek:List Zd) (h:nL ek≤1048576):Zf Xs Ms Ye [(.d (.agg [J eK,J eL,J eX,J eY,J eW,J eH,J aa,J ab,.bool ad,J ae,J eC,J eo,J ea,J ep,.bool et,.sl (ek.map Zd.enc)]))] []=some (.agg [(.d (J eK)),(.d (J eL)),(.d (J eX)),(.d (J eY)),(.d (J eW)),(.d (J eH)),(.d (J aa)),(.d (J ab)),(.d (.bool ad)),(.d (J ae)),(.d (J eC)),(.d (J eo)),(.d (J ea)),(.d (J ep)),(.d (.bool et)),.own 0],[.tree 5 5 (ek.map Zd.enc) none]):=by
 have e1:=Zn2 eX eY eW eH;have e2:=Zmf aa ab ad ae eC;have e3:=Ztn eo ea ep et ek h;refine cE ?_;simp +contextual -implicitDefEqProofs (maxSteps:=10^7) only[go_sem,seval,↓gZ,ZfP,e1,e2,e3]
def Zto:D:=.agg [J 0,J 0,J 0,J 0,J 0,J 0,J 0,J 0,.bool false,J 0,J 0,J 0,J 0,J 0,.bool false,.sl []]
theorem Zqr (ks:List Zt) (hk:ks.length≤1048576) (hs:∀ e∈ks,ZcE e≤1048576):Zf Xs Ms Yc [(.d (.sl (ks.map Zt.enc)))] []=some (.own 0,[.tree 16 5 (ks.map Zt.enc) none]):=by
 have hm:(ks.length:Int)*144≤140737488355328∧(ks.length:Int)≤140737488355328:=by omega
 refine cE ?_;simp +contextual -implicitDefEqProofs (maxSteps:=10^7) only[go_sem,seval,↓gZ,Zd3,hm,ZI];refine YC Xs Ms (st0:=?st0) (α:=Nat) (fun k=>[(4,.d (J (k:Int)))]) (fun k=>[(0,.tree 16 5 (ZaM Zt.enc Zto ks k) none)]) (fun k=>k≤ks.length) (fun k=>ks.length-k) 0 ?hc (by omega) ?h0 ?step
 case hc=>simp +contextual -implicitDefEqProofs (maxSteps:=10^7) only[go_sem,seval,↓gZ]<;>exact rfl
 case h0=>rw[Zbj];rfl
 case step=>
  intro k ae af;have ag:=Zdj Zt.enc Zto ae;by_cases ab:k<ks.length
  ·obtain⟨x,hx⟩:=Zr ab;have ad : (k:Int)<(ks.length:Int):=by omega
   have w1:=Zj (k:=k) (by omega);have aa:=Zdk (f:=Zt.enc) (z:=Zto) hx;have ah:=hs x (Kb hx);obtain⟨K,L,⟨X,Y,W,H⟩,⟨⟨pW,pH,pT,pK⟩,C⟩,⟨o,a,q,t,kk⟩⟩:=x;have e1:=ZjS K L X Y W H pW pH pT pK C o a q t kk (by simp only[ZcE,Zd.nodes] at ah;simp only[nL];omega);rw[Zt.enc_mk] at aa;have z1:=Zdl (f:=Zt.enc) (z:=Zto) ab;have z2:Zto.notSl=true:=rfl;have z3:Zto.cells.length=16:=rfl;have z4:XM Zto 0 [J K,J L,J X,J Y,J W,J H,J pW,J pH,.bool pT,J pK,J C,J o,J a,J q,.bool t,.sl (kk.map Zd.enc)]=.agg [J K,J L,J X,J Y,J W,J H,J pW,J pH,.bool pT,J pK,J C,J o,J a,J q,.bool t,.sl (kk.map Zd.enc)]:=rfl
   have z5:Zto.isAgg=true:=rfl;simp +contextual -implicitDefEqProofs (maxSteps:=10^7) only[go_sem,seval,↓gZ,ad,ab,hx,w1,e1,ag,z1,z2,z3,z4,z5,aa];refine af (k+1) _ (by omega) (by omega) ?_;simp +contextual -implicitDefEqProofs (maxSteps:=10^7) only[go_sem,seval,↓gZ,aa]
  ·have:k=ks.length:=by omega
   subst this;rw[Zdi];simp +contextual -implicitDefEqProofs (maxSteps:=10^7) only[go_sem,seval,↓gZ]
theorem ZfJ (eK eL eX eY eW eH aa ab:Int) (ad:Bool) (ae eC eo ea ep:Int) (et:Bool) (ek:List Zd) (h:nL ek≤1048576):Zf Xs Ms Un [(.d (.agg [J eK,J eL,J eX,J eY,J eW,J eH,J aa,J ab,.bool ad,J ae,J eC,J eo,J ea,J ep,.bool et,.sl (ek.map Zd.enc)])),(.d (.agg [J eK,J eL,J eX,J eY,J eW,J eH,J aa,J ab,.bool ad,J ae,J eC,J eo,J ea,J ep,.bool et,.sl (ek.map Zd.enc)]))] []=some ((.d (.bool true)),[]):=by
 have e1:=ZjI eX eY eW eH;have e2:=ZhM aa ab ad ae eC;have e3:=Zqo eo ea ep et ek h;refine cE ?_;simp +contextual -implicitDefEqProofs (maxSteps:=10^7) only[go_sem,seval,↓gZ,ZfQ,e1,e2,e3]
theorem ZnB (ks:List Zt) (hk:ks.length≤1048576) (hs:∀ e∈ks,ZcE e≤1048576):Zf Xs Ms UM [(.d (.sl (ks.map Zt.enc))),(.d (.sl (ks.map Zt.enc)))] []=some ((.d (.bool true)),[]):=by
 refine cE ?_;simp +contextual -implicitDefEqProofs (maxSteps:=10^7) only[go_sem,seval,↓gZ,Zd4];refine LO (α:=Nat) (fun k=>[(5,.d (J (k:Int)))]) (fun _=>[]) (fun k=>k≤ks.length) (fun k=>ks.length-k) 0 (by omega) ?_;intro k af ad;by_cases ab:k<ks.length
 ·obtain⟨x,hx⟩:=Zr ab;have aa : (k:Int)<(ks.length:Int):=by omega
  have w1:=Zj (k:=k) (by omega);have ae:=hs x (Kb hx);obtain⟨K,L,⟨X,Y,W,H⟩,⟨⟨pW,pH,pT,pK⟩,C⟩,⟨o,a,q,t,kk⟩⟩:=x;have e1:=ZfJ K L X Y W H pW pH pT pK C o a q t kk (by simp only[ZcE,Zd.nodes] at ae;simp only[nL];omega);simp +contextual -implicitDefEqProofs (maxSteps:=10^7) only[go_sem,seval,↓gZ,aa,ab,hx,w1,e1];refine ad (k+1) _ (by omega) (by omega) ?_;simp +contextual -implicitDefEqProofs (maxSteps:=10^7) only[go_sem,seval,↓gZ]
 ·have:k=ks.length:=by omega
  subst this;simp +contextual -implicitDefEqProofs (maxSteps:=10^7) only[go_sem,seval,↓gZ]
theorem Zod (eK eL eX eY eW eH aa ab:Int) (ad:Bool) (ae eC eo ea ep:Int) (et:Bool) (ek:List Zd) (hk:nL ek≤4194304) (k:Int) (h0:0≤k) (h1:k≤1099511627776):Zf Xs Ms Qh [.agg [(.d (J eK)),(.d (J eL)),(.d (J eX)),(.d (J eY)),(.d (J eW)),(.d (J eH)),(.d (J aa)),(.d (J ab)),(.d (.bool ad)),(.d (J ae)),(.d (J eC)),(.d (J eo)),(.d (J ea)),(.d (J ep)),(.d (.bool et)),.own 0],(.d (J k))] [.tree 5 5 (ek.map Zd.enc) none]=some ((.d (J (k+((4*nL ek:Nat):Int)))),[.tree 5 5 ((Ze9 ek k).map Zd.enc) none]):=by
 have e1:=Zqp eo ea ep et ek hk k h0 h1;generalize nL ek=nk at *;refine cE ?_;simp +contextual -implicitDefEqProofs (maxSteps:=10^7) only[go_sem,seval,↓gZ,ZcJ,e1]
def ZwN:Zt→Int→Zt
 | ⟨_,_,_,_,.mk _ _ _ _ ks⟩,k=>⟨k,k+1,⟨k+1+1,k+1+1+1,k+1+1+1+1,k+1+1+1+1+1⟩,⟨⟨k+1+1+1+1+1+1,k+1+1+1+1+1+1+1,(decide ((k+1+1+1+1+1+1+1+1).tmod 3=0)),k+1+1+1+1+1+1+1+1+1⟩,k+1+1+1+1+1+1+1+1+1+1⟩,.mk (k+1+1+1+1+1+1+1+1+1+1+1) (k+1+1+1+1+1+1+1+1+1+1+1+1) (k+1+1+1+1+1+1+1+1+1+1+1+1+1) (decide ((k+1+1+1+1+1+1+1+1+1+1+1+1+1+1).tmod 3=0)) (Ze9 ks (k+1+1+1+1+1+1+1+1+1+1+1+1+1+1+1))⟩
def evN (e:Zt):Nat:=15+4*ZcE e
abbrev mkEvs (l:List Zt) (k:Int):List Zt:=ZaR ZwN evN l k
theorem ZnC (ks:List Zt) (hk:Zo evN ks≤1099511627776) (hl:ks.length≤1099511627776) (hs:∀ e∈ks,ZcE e≤4194304) (k:Int) (h0:0≤k) (h1:k≤70368744177664):Zf Xs Ms Z6 [.own 0,(.d (J k))] [.tree 16 5 (ks.map Zt.enc) none]=some ((.d (J (k+(Zo evN ks:Nat)))),[.tree 16 5 ((mkEvs ks k).map Zt.enc) none]):=by
 refine cE ?_;simp +contextual -implicitDefEqProofs (maxSteps:=10^7) only[go_sem,seval,↓gZ,ZbC];refine YC Xs Ms (st0:=?st0) (α:=Nat) (fun i=>[(5,.d (J (i:Int))),(1,.d (J (k+(Zo evN (ks.take i):Nat))))]) (fun i=>[(0,.tree 16 5 ((ZjL ZwN evN k ks i).map Zt.enc) none)]) (fun i=>i≤ks.length) (fun i=>ks.length-i) 0 ?hc (by omega) ?h0 ?step
 case hc=>simp +contextual -implicitDefEqProofs (maxSteps:=10^7) only[go_sem,seval,↓gZ]<;>exact rfl
 case h0=>simp only[Zlh,Kaa,Zo,Ld,Lz];rfl
 case step=>
  intro i hi ih;have a4:=Zn7 ZwN evN k hi;have bd:=XO evN ks i;by_cases a0:i<ks.length
  ·obtain⟨x,hx⟩:=Zr a0;have ah : (i:Int)<(ks.length:Int):=by omega
   have w1:=Zj (k:=i) (by omega);have hg:=Zn8 ZwN evN k hx;have ai:=Zlg Zt.enc ZwN evN k hx;have a5:=ZdW (c:=evN) hx;have a6:=XO evN ks (i+1);have a1:=hs x (Kb hx);obtain⟨eK,eL,⟨X,Y,W,H⟩,⟨⟨pW,pH,pT,pK⟩,C⟩,⟨o,a,q,t,kk⟩⟩:=x;have a2:ZcE ⟨eK,eL,⟨X,Y,W,H⟩,⟨⟨pW,pH,pT,pK⟩,C⟩,.mk o a q t kk⟩=nL kk:=by simp only[ZcE,Zd.nodes,nL];omega
   have a7:evN ⟨eK,eL,⟨X,Y,W,H⟩,⟨⟨pW,pH,pT,pK⟩,C⟩,.mk o a q t kk⟩=15+4*nL kk:=by rw[evN,a2]
   rw[a2] at a1;have aj:k+(Zo evN (ks.take (i+1)):Nat)=k+(Zo evN (ks.take i):Nat)+1+1+1+1+1+1+1+1+1+1+1+1+1+1+1+((4*nL kk:Nat):Int):=by rw[a5,a7];push_cast;omega
   generalize hK:k+(Zo evN (ks.take i):Nat)=K at ai aj ⊢;obtain⟨K1,ak⟩:∃ x,K+1=x:=⟨_,rfl⟩
   have v1:IntKind.i64.wrap (K+1)=K1:=by rw[ak];exact wi _ (by omega) (by omega)
   obtain⟨K2,al⟩:∃ x,K1+1=x:=⟨_,rfl⟩
   have v2:IntKind.i64.wrap (K1+1)=K2:=by rw[al];exact wi _ (by omega) (by omega)
   obtain⟨K3,am⟩:∃ x,K2+1=x:=⟨_,rfl⟩
   have v3:IntKind.i64.wrap (K2+1)=K3:=by rw[am];exact wi _ (by omega) (by omega)
   obtain⟨K4,an⟩:∃ x,K3+1=x:=⟨_,rfl⟩
   have v4:IntKind.i64.wrap (K3+1)=K4:=by rw[an];exact wi _ (by omega) (by omega)
   obtain⟨K5,ao⟩:∃ x,K4+1=x:=⟨_,rfl⟩
   have v5:IntKind.i64.wrap (K4+1)=K5:=by rw[ao];exact wi _ (by omega) (by omega)
   obtain⟨K6,ap⟩:∃ x,K5+1=x:=⟨_,rfl⟩
   have v6:IntKind.i64.wrap (K5+1)=K6:=by rw[ap];exact wi _ (by omega) (by omega)
   obtain⟨K7,aq⟩:∃ x,K6+1=x:=⟨_,rfl⟩
   have v7:IntKind.i64.wrap (K6+1)=K7:=by rw[aq];exact wi _ (by omega) (by omega)
   obtain⟨K8,ar⟩:∃ x,K7+1=x:=⟨_,rfl⟩
   have v8:IntKind.i64.wrap (K7+1)=K8:=by rw[ar];exact wi _ (by omega) (by omega)
   obtain⟨K9,au⟩:∃ x,K8+1=x:=⟨_,rfl⟩
   have v9:IntKind.i64.wrap (K8+1)=K9:=by rw[au];exact wi _ (by omega) (by omega)
   obtain⟨av,aa⟩:∃ x,K9+1=x:=⟨_,rfl⟩
   have a8:IntKind.i64.wrap (K9+1)=av:=by rw[aa];exact wi _ (by omega) (by omega)
   obtain⟨aw,ab⟩:∃ x,av+1=x:=⟨_,rfl⟩
   have a9:IntKind.i64.wrap (av+1)=aw:=by rw[ab];exact wi _ (by omega) (by omega)
   obtain⟨ax,ad⟩:∃ x,aw+1=x:=⟨_,rfl⟩
   have a':IntKind.i64.wrap (aw+1)=ax:=by rw[ad];exact wi _ (by omega) (by omega)
   obtain⟨ay,ae⟩:∃ x,ax+1=x:=⟨_,rfl⟩
   have ba:IntKind.i64.wrap (ax+1)=ay:=by rw[ae];exact wi _ (by omega) (by omega)
   obtain⟨az,af⟩:∃ x,ay+1=x:=⟨_,rfl⟩
   have bb:IntKind.i64.wrap (ay+1)=az:=by rw[af];exact wi _ (by omega) (by omega)
   obtain⟨a3,ag⟩:∃ x,az+1=x:=⟨_,rfl⟩
   have bc:IntKind.i64.wrap (az+1)=a3:=by rw[ag];exact wi _ (by omega) (by omega)
   have e1:=ZaD _ kk (Kk _) a1 a3 (by omega) (by omega);simp only[ZwN,Zt.enc_mk,ak,al,am,an,ao,ap,aq,ar,au,aa,ab,ad,ae,af,ag] at ai aj;clear ak al am an ao ap aq ar au aa ab ad ae af ag;generalize nL kk=nk at *;simp +contextual -implicitDefEqProofs (maxSteps:=10^7) only[go_sem,seval,↓gZ,ah,a0,hg,w1,a4,v1,v2,v3,v4,v5,v6,v7,v8,v9,a8,a9,a',ba,bb,bc,e1,LF,KM,Kan];refine ih (i+1) _ (by omega) (by omega) ?_;simp +contextual -implicitDefEqProofs (maxSteps:=10^7) only[go_sem,seval,↓gZ,ai,aj]
  ·have:i=ks.length:=by omega
   subst this;rw[Zn9,LU];simp +contextual -implicitDefEqProofs (maxSteps:=10^7) only[go_sem,seval,↓gZ,Zah]
end Go.Proofs.YtdhgppkldoopaaaGreat
