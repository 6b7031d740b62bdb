/- Own text. -/
import Derived.Test.YtfnegoimdljanaaGreatDoorACode
import Derived.Test.YtfnegoimdljanaaGreatDoorAC1
import Derived.Test.YtfnegoimdljanaaGreatDoorAC6
import Derived.Test.YtfnegoimdljanaaGreatDoorAbsOkD
namespace Go.Proofs.YtfnegoimdljanaaGreatDoor
open Go Go.Abs Go.Abs.E Go.Abs.L
set_option linter.unusedSimpArgs false
set_option linter.unusedVariables false
set_option maxRecDepth 20000
set_option maxHeartbeats 4000000
def UL (l:List Zc):Prop:=(l.map Zc.Pane).Nodup∧∀ x∈l,1≤x.Count
theorem Zq8:∀ {l:List Zc} {q:List Pane},Zlb q l→(l.map Zc.Pane).Nodup∧∀ p∈l.map Zc.Pane,p∉q
 | [],_,_=>by simp
 | x :: l,q,h=>by
  obtain⟨h1,h2,h3,h4,h5⟩:=h;obtain⟨a,b⟩:=Zq8 h5;refine⟨?_,?_⟩
  ·rw[Kk,Lo];exact⟨fun hm=>b _ hm (by simp),a⟩
  ·intro p hp;rw[Kk,Ke] at hp;rcases hp with rfl | hp
   ·exact h2
   ·exact fun hq=>b p hp (by simp[hq])
theorem ZgP {l:List Zc} (h:JF l):UL l:=⟨(Zq8 h.2.1).1,fun x hx=>(Z5 h x hx).2.1⟩
theorem ZjJ:∀ {l:List Zc} {k:Nat} {p:Pane},0≤Vw k l p→∃ a x,Vw k l p=((k+a:Nat):Int)∧l[a]?=some x∧x.Pane=p∧p∉(l.take a).map Zc.Pane
 | [],k,p,h=>by simp[Vw] at h
 | x :: l,k,p,h=>by
  unfold Vw at h ⊢;split
  ·rename_i e;exact⟨0,x,by simp,by simp,e,by simp⟩
  ·rename_i e;rw[Kd e] at h;obtain⟨a,y,h1,h2,h3,h4⟩:=ZjJ h;refine⟨a+1,y,by rw[h1];congr 1;omega,by simpa using h2,h3,?_⟩;simp only[LY,Kk,Ke,not_or];exact⟨fun e'=>e e'.symm,h4⟩
theorem Zl1:∀ {l:List Zc} {k:Nat} {p:Pane},Vw k l p<0→p∉l.map Zc.Pane
 | [],k,p,h=>by simp
 | x :: l,k,p,h=>by
  unfold Vw at h;split at h
  ·omega
  ·rename_i e;simp only[Kk,Ke,not_or];exact⟨fun e'=>e e'.symm,Zl1 h⟩
theorem ZjK {p:Pane} {c:Int}:∀ {l:List Zc} {b:Bool},p∉l.map Zc.Pane→Xr p c b l=b
 | [],b,_=>rfl
 | x :: l,b,h=>by
  simp only[Kk,Ke,not_or] at h;rw[Xr,Kd (fun e=>h.1 e.symm),ZjK h.2]
theorem ZyR {p:Pane} {c:Int}:∀ {l:List Zc},p∉l.map Zc.Pane→(∀ x∈l,1≤x.Count)→XY l p c=l
 | [],_,_=>rfl
 | x :: l,h,hc=>by
  simp only[Kk,Ke,not_or] at h;have h0:=hc x (by simp);have ih:=ZyR (p:=p) (c:=c) h.2 (fun y hy=>hc y (by simp[hy]));unfold XY at ih ⊢;rw[Lt,ZiF,Kd (fun e=>h.1 e.symm),Kg (by omega),ih]
theorem Zq9 {p:Pane} {c:Int}:∀ {l:List Zc} {a:Nat} {x:Zc},UL l→l[a]?=some x→x.Pane=p→Xr p c false l=decide (0≤x.Count-c)∧XY l p c=if 0<x.Count-c then l.set a ⟨p,x.Count-c⟩ else l.eraseIdx a
 | [],a,x,_,h,_=>by simp at h
 | y :: l,0,x,hu,h,e=>by
  simp only[KX,Option.some.injEq] at h;subst h;obtain⟨h1,h2⟩:=hu;rw[Kk,Lo,e] at h1;have hl:=ZyR (p:=p) (c:=c) h1.1 (fun z hz=>h2 z (by simp[hz]));refine⟨by rw[Xr,Kg e,ZjK h1.1],?_⟩;unfold XY at hl ⊢;rw[Lt,ZiF,Kg e];by_cases hc:0<y.Count-c
  ·rw[Kg hc,Kg hc,hl,e];rfl
  ·rw[Kd hc,Kd hc,hl];rfl
 | y :: l,a+1,x,hu,h,e=>by
  simp only[KY] at h;obtain⟨h1,h2⟩:=hu;rw[Kk,Lo] at h1;have aa:y.Pane≠p:=fun e'=>h1.1 (by rw[e',← e];exact KaA (Kc h));obtain⟨i1,i2⟩:=Zq9 (p:=p) (c:=c) (l:=l) ⟨h1.2,fun z hz=>h2 z (by simp[hz])⟩ h e;refine⟨by rw[Xr,Kd aa,i1],?_⟩;have h0:=h2 y (by simp);unfold XY at i2 ⊢;rw[Lt,ZiF,Kd aa,Kg (by omega),i2];by_cases hc:0<x.Count-c
  ·rw[Kg hc,Kg hc];rfl
  ·rw[Kd hc,Kd hc];rfl
theorem Zra {l:List Zc} {p:Pane} {c:Int} (h:UL l):UL (XY l p c):=by
 have hs:∀ (l:List Zc),((XY l p c).map Zc.Pane).Sublist (l.map Zc.Pane):=by
  intro l
  induction l with
  | nil=>simp[XY]
  | cons x l ih=>
   unfold XY at ih ⊢;rw[Lt];unfold ZiF at ih ⊢;split
   ·exact ih.trans (by simp)
   ·rename_i y hy;split at hy
    ·split at hy
     ·cases hy;simpa using ih
     ·cases hy
    ·split at hy
     ·cases hy;simpa using ih
     ·cases hy
 refine⟨List.Nodup.sublist (hs l) h.1,fun y hy=>?_⟩;obtain⟨x,hx,e⟩:=Lw.1 hy;have:=h.2 x hx;unfold ZiF at e;split at e
 ·split at e
  ·cases e;simp only;omega
  ·cases e
 ·split at e
  ·cases e;omega
  ·cases e
theorem Zrb (p:Pane) (c:Int):∀ (l:List Zc),(YB p c l).map Zc.Pane=if p∈l.map Zc.Pane then l.map Zc.Pane else l.map Zc.Pane++[p]
 | []=>by simp[YB]
 | x :: l=>by
  unfold YB;by_cases e:x.Pane=p
  ·simp[e]
  ·have ih:=Zrb p c l;have e' : ¬p=x.Pane:=fun h=>e h.symm;simp only[Kd e,Kk,Ke,e',false_or,ih];split<;>simp
theorem ZCB {l:List Zc} {p:Pane} {c:Int} (h:UL l) (hc:1≤c):UL (YB p c l):=by
 refine⟨?_,?_⟩
 ·rw[Zrb];split
  ·exact h.1
  ·rename_i hn;refine LU.2 ⟨h.1,by simp,fun a ha b hb=>?_⟩;simp only[KE] at hb;subst hb;exact fun e=>hn (e ▸ ha)
 ·have aa:∀ (l:List Zc),(∀ x∈l,1≤x.Count)→∀ x∈YB p c l,1≤x.Count:=by
   intro l
   induction l with
   | nil=>intro _ x hx;simp[YB] at hx;subst hx;exact hc
   | cons y l ih=>
    intro h x hx;have hy:=h y (by simp);unfold YB at hx;split at hx
    ·rcases Ke.1 hx with rfl | hx
     ·simp only;omega
     ·exact h x (by simp[hx])
    ·rcases Ke.1 hx with rfl | hx
     ·exact hy
     ·exact ih (fun z hz=>h z (by simp[hz])) x hx
  exact aa l h.2
theorem ZjL : ∀ {l:List Zb} {b:Int},XL b l→∀ x∈l,b<x.Label
 | [],_,_,x,hx=>by simp at hx
 | y :: l,b,h,x,hx=>by
  rcases Ke.1 hx with rfl | hx
  ·exact h.2.1
  ·have:=ZjL h.2.2 x hx;have:=h.2.1;omega
theorem Zrc (q:Zb):∀ (l:List Zb),q∈QC q l
 | []=>by simp[QC]
 | x :: l=>by
  unfold QC;split
  ·simp
  ·exact Kz _ (Zrc q l)
theorem ZoN {q:Zb} (hq:VPc q):∀ {l:List Zb} {b:Int},XL b l→b<q.Label→(XL b (QC q l)↔q.Label∉l.map Zb.Label)
 | [],b,h,hb=>by simp[QC,XL,hq,hb]
 | x :: l,b,h,hb=>by
  obtain⟨h1,h2,h3⟩:=h;unfold QC;by_cases aa:q.Label<x.Label
  ·rw[Kg aa];refine⟨fun _ hm=>?_,fun _=>⟨hq,hb,h1,aa,h3⟩⟩;rw[Kk,Ke] at hm;rcases hm with hm | hm
   ·omega
   ·obtain⟨y,hy,e⟩:=Li.1 hm;have:=ZjL h3 y hy;omega
  ·rw[Kd aa];by_cases he:x.Label=q.Label
   ·constructor
    ·intro hs;have:=ZjL hs.2.2 q (Zrc q l);omega
    ·intro hn;exact absurd (by simp[he]) hn
   ·have ih:=ZoN hq h3 (by omega:x.Label<q.Label);rw[Kk,Ke,not_or,XL,ih];exact⟨fun h=>⟨fun e=>he e.symm,h.2.2⟩,fun h=>⟨h1,h2,h.2⟩⟩
theorem ZyS:∀ {l:List Zb} {k:Nat} {n:Int},QB k l n<0↔n∉l.map Zb.Label
 | [],k,n=>by simp[QB]
 | x :: l,k,n=>by
  unfold QB;have ih:=ZyS (l:=l) (k:=k+1) (n:=n);by_cases he:x.Label=n
  ·rw[Kg he];simp only[Kk,Ke,he,true_or,not_true,iff_false];omega
  ·rw[Kd he,ih,Kk,Ke,not_or];exact⟨fun h=>⟨fun e=>he e.symm,h⟩,fun h=>h.2⟩
theorem ZEZ {q:Zb} {l:List Zb} (h1:VSt l) (h2:VPc q):VC q l↔l.length≠20∧QB 0 l q.Label<0:=by
 have h3:=ZoN h2 h1.2 (by have:=h2.1.1;omega:0<q.Label);have h4:=h1.1;unfold VC;rw[ZyS,← h3];simp only[VSt,ZnU];constructor
 ·rintro ⟨_,a,b⟩;exact⟨by omega,b⟩
 ·rintro ⟨a,b⟩;exact⟨⟨⟨h4,h1.2⟩,h2⟩,by omega,b⟩
theorem ZkD (l:List Zb) (qL qW qH:Int) (qF:List Box) (hl:l.length≤100000):Zd Xs Ms 150 [(.d (.sl (l.map Zb.enc))),(.d (.agg [J qL,J qW,J qH,.sl (qF.map Box.enc)]))] [] =
  some (.tup [.own 0,(.d (.bool (decide (VC (Zb.mk qL qW qH qF) l))))],[if VC (Zb.mk qL qW qH qF) l then .tree 4 4 ((QC (Zb.mk qL qW qH qF) l).map Zb.enc) none else .row 4 [] true false]):=by
 have e1:=YP l;have e2:=Q9 qL qW qH qF;have e3:=YA l qL (by omega);by_cases v1:VSt l
 ·rw[Kh v1] at e1;by_cases v2:VPc (Zb.mk qL qW qH qF)
  ·rw[Kh v2] at e2;have hA:=ZEZ v1 v2;simp only at hA;have hF:=(Zdz v1).2;have ah:qF.length≤1048576:=by have:=v2.1.2.2.2.2.2.2;simp only at this;omega
   by_cases v3:l.length=20
   ·have h:¬VC (Zb.mk qL qW qH qF) l:=fun h=>(hA.1 h).1 v3;have ab : ((l.length:Int)=20):=by omega
    rw[Kj h,Kd h];refine cE ?_;simp +contextual -implicitDefEqProofs (maxSteps:=10^7) only[go_sem,seval,VI,e1,e2,ab]
   ·have ab : ¬((l.length:Int)=20):=by omega
    by_cases v4:QB 0 l qL<0
    ·have h:VC (Zb.mk qL qW qH qF) l:=hA.2 ⟨v3,v4⟩;have aa : ¬(0≤QB 0 l qL):=by omega
     have eq:=JE qL qW qH qF ah;rw[Kh h,Kg h];generalize QB 0 l qL=fl at e3 aa;have aj:=v1.1;refine cE ?_;simp +contextual -implicitDefEqProofs (maxSteps:=10^7) only[go_sem,seval,VI,e1,e2,ab,e3,aa];refine LO (α:=Nat×Bool×List Zb) (fun s=>[(32,.d (J (s.1:Int))),(7,.d (.bool s.2.1))]) (fun s=>[(0,.tree 4 4 (s.2.2.map Zb.enc) none)]) (fun s=>s.1≤l.length∧s.2.2++(if s.2.1 then l.drop s.1 else QC (Zb.mk qL qW qH qF) (l.drop s.1))=QC (Zb.mk qL qW qH qF) l∧s.2.2.length≤s.1+s.2.1.toNat) (fun s=>l.length-s.1) (0,false,[]) ⟨by simp,by simp,by simp⟩ ?_;intro⟨i,b,o⟩ ⟨hi,hp,ho⟩ ih;simp only at hi hp ho;have hb:=Bool.toNat_le b
     by_cases ad:i<l.length
     ·obtain⟨x,hx⟩:=Zp ad;have hw:=Zg (k:=i) (by omega);have hr:(o.length+1)*48≤140737488355328∧o.length≤140737488355327:=by omega
      have ae:∀ n:Nat,n=o.length+1→(n+1)*48≤140737488355328∧n≤140737488355327:=fun n hn=>by omega
      have ae:=ae _ rfl;have ai:o.length≤140737488355326:=by omega
      have e:=JE x.Label x.W x.H x.Flaws (hF x (Kc hx));rw[ZrO hx] at hp;have hd:l.drop i=x :: l.drop (i+1):=by
       obtain⟨h1,h2⟩:=Kb.1 hx;rw[Ku h1,h2]
      obtain⟨L,W,H,F⟩:=x;simp only at e hp;have af:=ZdT F;have ag:=ZdT qF;cases b with
      | true=>
       simp only[Bool.toNat_true] at ho;rw[Kg rfl] at hp;simp +contextual -implicitDefEqProofs only[go_sem,seval,hx,ad,hw,e,hr,af];refine ih (i+1,true,o++[⟨L,W,H,F⟩]) _ ⟨by simp only;omega,?_,by simp;omega⟩ (by simp only;omega) ?_
       ·rw[← hp,hd];simp
       ·simp +contextual -implicitDefEqProofs only[go_sem,seval];try (simp[Zb.enc];done)
      | false=>
       simp only[Bool.toNat_false] at ho;rw[Kd (by simp)] at hp;by_cases hc:qL<L
       ·rw[Kg hc] at hp;simp +contextual -implicitDefEqProofs only[go_sem,seval,hx,ad,hw,e,eq,hc,hr,ae,ai,af,ag];refine ih (i+1,true,o++[(Zb.mk qL qW qH qF),⟨L,W,H,F⟩]) _ ⟨by simp only;omega,?_,by simp;omega⟩ (by simp only;omega) ?_
        ·rw[← hp,hd];simp
        ·simp +contextual -implicitDefEqProofs only[go_sem,seval];try (simp[Zb.enc];done)
       ·rw[Kd hc] at hp;simp +contextual -implicitDefEqProofs only[go_sem,seval,hx,ad,hw,e,hc,hr,af];refine ih (i+1,false,o++[⟨L,W,H,F⟩]) _ ⟨by simp only;omega,?_,by simp;omega⟩ (by simp only;omega) ?_
        ·rw[← hp];simp
        ·simp +contextual -implicitDefEqProofs only[go_sem,seval];try (simp[Zb.enc];done)
     ·have:i=l.length:=by omega
      subst this;have hr:(o.length+1)*48≤140737488355328∧o.length≤140737488355327:=by omega
      cases b with
      | true=>
       simp at hp;simp +contextual -implicitDefEqProofs only[go_sem,seval];rw[hp]
      | false=>
       simp[QC] at hp;have ag:=ZdT qF;simp +contextual -implicitDefEqProofs only[go_sem,seval,eq,hr,ag];rw[← hp];try (simp[Zb.enc];done)
    ·have h:¬VC (Zb.mk qL qW qH qF) l:=fun h=>v4 (hA.1 h).2;have aa : 0≤QB 0 l qL:=by omega
     rw[Kj h,Kd h];generalize QB 0 l qL=fl at e3 aa;refine cE ?_;simp +contextual -implicitDefEqProofs (maxSteps:=10^7) only[go_sem,seval,VI,e1,e2,ab,e3,aa]
  ·rw[Kj v2] at e2;have h:¬VC (Zb.mk qL qW qH qF) l:=fun h=>v2 h.1.2;rw[Kj h,Kd h];refine cE ?_;simp +contextual -implicitDefEqProofs (maxSteps:=10^7) only[go_sem,seval,VI,e1,e2]
 ·rw[Kj v1] at e1;have h:¬VC (Zb.mk qL qW qH qF) l:=fun h=>v1 h.1.1;rw[Kj h,Kd h];refine cE ?_;simp +contextual -implicitDefEqProofs (maxSteps:=10^7) only[go_sem,seval,VI,e1]
theorem Zh8 (l:List Zc) (hl:l.length≤1048576):Zd Xs Ms 201 [(.d (.sl (l.map Zc.enc)))] []=some (.own 0,[.row 5 (l.map Zc.enc) true false]):=by
 refine VR Xs Ms ZnX ?_;unfold Zog;simp only;rw[Kg ⟨by rw[ZAt];trivial,by rw[ZwF];trivial,by simp[ZM];omega,by simp[ZM];omega⟩]
theorem ZkE {α β:Type} (f:α→β):∀ (l:List α) (i:Nat),(l.map f).eraseIdx i=(l.eraseIdx i).map f
 | [],_=>rfl
 | _ :: _,0=>rfl
 | x :: l,i+1=>by simp[ZkE f l i]
theorem Znu (l:List Zc) (i:Nat) (hi:i<l.length):Zd Xs Ms 206 [.own 0,(.d (J i)),(.d (J ((i:Int)+1)))] [.row 5 (l.map Zc.enc) true false]=some (.own 1,[.gone,.row 5 ((l.eraseIdx i).map Zc.enc) true false]):=by
 refine VR Xs Ms Zmu ?_;unfold Zj1;simp only;rw[Kg ⟨rfl,by omega,rfl,by simp;omega,by rw[ZAt];trivial,by rw[ZwF];trivial,rfl,rfl⟩,Ky,ZkE]
theorem ZcH (l:List Zc) (xW xH:Int) (xT:Bool) (xK xC:Int) (hl:l.length≤1048576) (hc:∀ y∈l,R64 (y.Count+xC)):Zd Xs Ms 153 [(.d (.sl (l.map Zc.enc))),(.d (.agg [J xW,J xH,.bool xT,J xK,J xC]))] []=some (.own 0,[.row 5 ((YB ⟨xW,xH,xT,xK⟩ xC l).map Zc.enc) true false]):=by
 have e1:=Zh8 l hl;have e2:=Zfy l xW xH xT xK (by omega);have hr:(l.length+1)*40≤140737488355328∧l.length≤140737488355327:=by omega
 by_cases hf:Vw 0 l ⟨xW,xH,xT,xK⟩<0
 ·have hn:¬0≤Vw 0 l ⟨xW,xH,xT,xK⟩:=by omega
  rw[Zxz _ _ _ (Zl1 hf)];refine cE ?_;simp +contextual -implicitDefEqProofs (maxSteps:=10^7) only[go_sem,seval,Zfd,e1,e2,hn,hr];try (simp[Zc.enc];done)
 ·obtain⟨a,x,h1,h2,h3,h4⟩:=ZjJ (by omega:0≤Vw 0 l ⟨xW,xH,xT,xK⟩);rw[K7] at h1;rw[h1] at e2;rw[Zxy _ _ _ a x h2 h3 h4];have aa:=hc x (Kc h2);obtain⟨⟨W,H,T,K⟩,C⟩:=x;simp only[Pane.mk.injEq] at h3 aa;obtain⟨rfl,rfl,rfl,rfl⟩:=h3;have u0:=wi (C+xC) aa.1 aa.2;have ab:=(Kb.1 h2).1;have ha:(0:Int)≤(a:Int):=by omega
  refine cE ?_;simp +contextual -implicitDefEqProofs (maxSteps:=10^7) only[go_sem,seval,Zfd,e1,e2,ha,h2,ab,u0];try (simp[Zc.enc,Kax];done)
def tkV (l:List Zc) (p:Pane) (c:Int):AV×List Zm:=
 if Xr p c false l=true then (.tup [.own 0,(.d (.bool true))],[.row 5 ((XY l p c).map Zc.enc) true false]) else (.tup [.own 0,(.d (.bool false))],[.row 5 [] true false])
theorem Za9 (l:List Zc) (xW xH:Int) (xT:Bool) (xK xC:Int) (hl:l.length≤1048576) (hu:UL l) (hc:∀ y∈l,R64 (y.Count-xC)):Zd Xs Ms 157 [(.d (.sl (l.map Zc.enc))),(.d (.agg [J xW,J xH,.bool xT,J xK,J xC]))] []=some (tkV l ⟨xW,xH,xT,xK⟩ xC):=by
 have e1:=Zh8 l hl;have e2:=Zfy l xW xH xT xK (by omega);by_cases hf:Vw 0 l ⟨xW,xH,xT,xK⟩<0
 ·have hn:=ZjK (c:=xC) (b:=false) (Zl1 hf);have ek:tkV l ⟨xW,xH,xT,xK⟩ xC=(.tup [.own 0,(.d (.bool false))],[.row 5 [] true false]):=by unfold tkV;rw[hn,Kd (by simp)]
  rw[ek];refine cE ?_;simp +contextual -implicitDefEqProofs (maxSteps:=10^7) only[go_sem,seval,Um,e1,e2,hf]
 ·obtain⟨a,x,h1,h2,h3,h4⟩:=ZjJ (by omega:0≤Vw 0 l ⟨xW,xH,xT,xK⟩);rw[K7] at h1;rw[h1] at e2;obtain⟨k1,k2⟩:=Zq9 (c:=xC) hu h2 h3;have ad:=hc x (Kc h2);obtain⟨⟨W,H,T,K⟩,C⟩:=x;simp only[Pane.mk.injEq] at h3 ad k1 k2;obtain⟨rfl,rfl,rfl,rfl⟩:=h3;have u0:=wi (C-xC) ad.1 ad.2;have ab:=(Kb.1 h2).1;have ha:¬(a:Int)<0:=by omega
  have hw:=Zg (k:=a) (by omega);have e3:=Znu (l.set a ⟨⟨W,H,T,K⟩,0⟩) a (by simpa using ab);by_cases ae:C<xC
  ·have hx:¬0≤C-xC:=by omega
   have ek:tkV l ⟨W,H,T,K⟩ xC=(.tup [.own 0,(.d (.bool false))],[.row 5 [] true false]):=by unfold tkV;rw[k1,Kj hx,Kd (by simp)]
   rw[ek];refine cE ?_;simp +contextual -implicitDefEqProofs (maxSteps:=10^7) only[go_sem,seval,Um,e1,e2,ha,h2,ab,ae]
  ·have hx:0≤C-xC:=by omega
   by_cases hz:C-xC=0
   ·have ek:tkV l ⟨W,H,T,K⟩ xC=(.tup [.own 0,(.d (.bool true))],[.row 5 ((l.eraseIdx a).map Zc.enc) true false]):=by unfold tkV;rw[k1,Kh hx,Kg rfl,k2,Kd (by omega)]
    rw[ek];have es:(l.set a ⟨⟨W,H,T,K⟩,0⟩).eraseIdx a=l.eraseIdx a:=by simp[List.eraseIdx_set_eq]
    rw[es,Kax] at e3;simp only[Zc.enc] at e3;have aa:((a:Int)+1)=((a+1:Nat):Int):=by omega
    rw[aa] at e3;rw[hz] at u0;refine cE ?_;simp +contextual -implicitDefEqProofs (maxSteps:=10^7) only[go_sem,seval,Um,e1,e2,ha,h2,ab,ae,hz,u0,hw,e3,Kax,LV,List.length_set]
   ·have ek:tkV l ⟨W,H,T,K⟩ xC=(.tup [.own 0,(.d (.bool true))],[.row 5 ((l.set a ⟨⟨W,H,T,K⟩,C-xC⟩).map Zc.enc) true false]):=by unfold tkV;rw[k1,Kh hx,Kg rfl,k2,Kg (by omega)]
    rw[ek];refine cE ?_;simp +contextual -implicitDefEqProofs (maxSteps:=10^7) only[go_sem,seval,Um,e1,e2,ha,h2,ab,ae,hz,u0,Kax,LV,List.length_set]
theorem V4 (sS:List Zb) (sO sD:List Zc) (sL sC:Int) (h:ZaL (Zq.mk sS sO sD sL sC)):Zd Xs Ms 47 [(.d (.agg [.sl (sS.map Zb.enc),.sl (sO.map Zc.enc),.sl (sD.map Zc.enc),J sL,J sC]))] []=some (.agg [.own 0,.own 1,.own 2,(.d (J sL)),(.d (J sC))],[.tree 4 4 (sS.map Zb.enc) none,.row 5 (sO.map Zc.enc) true false,.row 5 (sD.map Zc.enc) true false]):=by
 obtain⟨h1,h2,h3,h4⟩:=h;simp only at h1 h2 h3 h4;have e1:=ZdU sS (by omega) (fun x hx=>by have:=(h2 x hx).1;omega);have r1:sO.length*40≤140737488355328∧sO.length≤140737488355328:=by omega
 have r2:sD.length*40≤140737488355328∧sD.length≤140737488355328:=by omega
 refine cE ?_;simp +contextual -implicitDefEqProofs (maxSteps:=10^7) only[go_sem,seval,Zhb,e1,r1,r2]
theorem UQ (xW xH:Int) (xT:Bool) (xK xC:Int):Zd Xs Ms 152 [(.d (.agg [J xW,J xH,.bool xT,J xK,J xC]))] []=some ((.d (.bool (decide (VT ⟨⟨xW,xH,xT,xK⟩,xC⟩)))),[]):=by
 have e1:=Jz xW xH xT xK;refine cE ?_;by_cases v1:VP ⟨xW,xH,xT,xK⟩
 ·rw[Kh v1] at e1;by_cases v2:1≤xC
  ·by_cases v3:xC≤24
   ·have h:VT ⟨⟨xW,xH,xT,xK⟩,xC⟩:=⟨v1,v2,v3⟩
    simp +contextual -implicitDefEqProofs only[go_sem,seval,Vp,e1,v2,v3,h]
   ·have h:¬VT ⟨⟨xW,xH,xT,xK⟩,xC⟩:=fun h=>v3 h.2.2;simp +contextual -implicitDefEqProofs only[go_sem,seval,Vp,e1,v2,v3,h]
  ·have h:¬VT ⟨⟨xW,xH,xT,xK⟩,xC⟩:=fun h=>v2 h.2.1;simp +contextual -implicitDefEqProofs only[go_sem,seval,Vp,e1,v2,h]
 ·rw[Kj v1] at e1;have h:¬VT ⟨⟨xW,xH,xT,xK⟩,xC⟩:=fun h=>v1 h.1;simp +contextual -implicitDefEqProofs only[go_sem,seval,Vp,e1,h]
theorem Zui (sS:List Zb) (sO sD:List Zc) (sL sC:Int) (eK eL eX eY eW eH aa ab:Int) (ad:Bool) (ae eC eo ea ep:Int) (et:Bool) (ek:List Ze) (hl:sS.length≤100000) (hn:¬((VC ⟨eL,eW,eH,[]⟩ sS∧eX=0)∧eY=0)):Zd Xs Ms 105 [.ptr 0 0,(.d (.agg [J eK,J eL,J eX,J eY,J eW,J eH,J aa,J ab,.bool ad,J ae,J eC,J eo,J ea,J ep,.bool et,.sl (ek.map Ze.enc)]))] [.box [.own 1,.own 2,.own 3,(.d (J sL)),(.d (J sC))],.tree 4 4 (sS.map Zb.enc) none,.row 5 (sO.map Zc.enc) true false,.row 5 (sD.map Zc.enc) true false]=some ((.d (.bool false)),[.box [.own 1,.own 2,.own 3,(.d (J sL)),(.d (J sC))],.tree 4 4 (sS.map Zb.enc) none,.row 5 (sO.map Zc.enc) true false,.row 5 (sD.map Zc.enc) true false]):=by
 by_cases hx:eX=0
 ·by_cases hy:eY=0
  ·have ha:¬VC ⟨eL,eW,eH,[]⟩ sS:=fun h=>hn ⟨⟨h,hx⟩,hy⟩;have e1:=ZkD sS eL eW eH [] hl;rw[Kj ha,Kd ha] at e1;simp only[Ks] at e1;refine cE ?_;simp +contextual -implicitDefEqProofs (maxSteps:=10^7) only[go_sem,seval,Uh,hx,hy,e1]
  ·refine cE ?_;simp +contextual -implicitDefEqProofs (maxSteps:=10^7) only[go_sem,seval,Uh,hx,hy]
 ·refine cE ?_;simp +contextual -implicitDefEqProofs (maxSteps:=10^7) only[go_sem,seval,Uh,hx]
theorem Zrd (sS:List Zb) (sO sD:List Zc) (sL sC:Int) (eK eL eX eY eW eH aa ab:Int) (ad:Bool) (ae eC eo ea ep:Int) (et:Bool) (ek:List Ze) (hv:ZK (Zq.mk sS sO sD sL sC)) (ha:VC ⟨eL,eW,eH,[]⟩ sS) (hx:eX=0) (hy:eY=0):Zd Xs Ms 105 [.ptr 0 0,(.d (.agg [J eK,J eL,J eX,J eY,J eW,J eH,J aa,J ab,.bool ad,J ae,J eC,J eo,J ea,J ep,.bool et,.sl (ek.map Ze.enc)]))] [.box [.own 1,.own 2,.own 3,(.d (J sL)),(.d (J sC))],.tree 4 4 (sS.map Zb.enc) none,.row 5 (sO.map Zc.enc) true false,.row 5 (sD.map Zc.enc) true false] =
  some ((.d (.bool true)),[.box [.own 4,.own 2,.own 3,(.d (J sL)),(.d (J (sC+eW*eH)))],.tree 4 4 (sS.map Zb.enc) none,.row 5 (sO.map Zc.enc) true false,.row 5 (sD.map Zc.enc) true false,.tree 4 4 ((QC ⟨eL,eW,eH,[]⟩ sS).map Zb.enc) none]):=by
 have af:=hv.1.1;simp only at af;have e1:=ZkD sS eL eW eH [] (by omega);rw[Kh ha,Kg ha] at e1;simp only[Ks] at e1;have hp:=ha.1.2.1;simp only at hp;subst hx hy;have hb:VB ⟨0,0,eW,eH⟩:=by simp only[VB];omega
 have e2:=Zmd 0 0 eW eH hb;have h3:=Jy hb;simp only at h3;have h4:=hv.2.2.2;simp only at h4;have u0:=wi (sC+eW*eH) (by omega) (by omega);generalize QC ⟨eL,eW,eH,[]⟩ sS=Q at *;refine cE ?_;simp +contextual -implicitDefEqProofs (maxSteps:=10^7) only[go_sem,seval,Uh,e1,e2,u0]
theorem Zxd (sS:List Zb) (sO sD:List Zc) (sL sC:Int) (eK eL eX eY eW eH aa ab:Int) (ad:Bool) (ae eC eo ea ep:Int) (et:Bool) (ek:List Ze) (hl:sS.length≤100000) (hn:QB 0 sS eL<0):Zd Xs Ms 106 [.ptr 0 0,(.d (.agg [J eK,J eL,J eX,J eY,J eW,J eH,J aa,J ab,.bool ad,J ae,J eC,J eo,J ea,J ep,.bool et,.sl (ek.map Ze.enc)]))] [.box [.own 1,.own 2,.own 3,(.d (J sL)),(.d (J sC))],.tree 4 4 (sS.map Zb.enc) none,.row 5 (sO.map Zc.enc) true false,.row 5 (sD.map Zc.enc) true false]=some ((.d (.bool false)),[.box [.own 1,.own 2,.own 3,(.d (J sL)),(.d (J sC))],.tree 4 4 (sS.map Zb.enc) none,.row 5 (sO.map Zc.enc) true false,.row 5 (sD.map Zc.enc) true false]):=by
 have e1:=YA sS eL (by omega);refine cE ?_;simp +contextual -implicitDefEqProofs (maxSteps:=10^7) only[go_sem,seval,Zfa,e1,hn]
theorem Zuj (sS:List Zb) (sO sD:List Zc) (sL sC:Int) (eK eL eX eY eW eH ab ad:Int) (ae:Bool) (af eC eo ea ep:Int) (et:Bool) (ek:List Ze) (hl:sS.length≤100000) (a:Nat) (ha:QB 0 sS eL=(a:Int)) (xL xW xH:Int) (xF:List Box) (hx:sS[a]?=some (Zb.mk xL xW xH xF)) (hF:xF.length≤1000):Zd Xs Ms 106 [.ptr 0 0,(.d (.agg [J eK,J eL,J eX,J eY,J eW,J eH,J ab,J ad,.bool ae,J af,J eC,J eo,J ea,J ep,.bool et,.sl (ek.map Ze.enc)]))] [.box [.own 1,.own 2,.own 3,(.d (J sL)),(.d (J sC))],.tree 4 4 (sS.map Zb.enc) none,.row 5 (sO.map Zc.enc) true false,.row 5 (sD.map Zc.enc) true false] =
  some ((.d (.bool true)),[.box [.own 1,.own 2,.own 3,(.d (J sL)),(.d (J sC))],.tree 4 4 ((sS.set a ⟨xL,xW,xH,xF++[⟨eX,eY,eW,eH⟩]⟩).map Zb.enc) none,.row 5 (sO.map Zc.enc) true false,.row 5 (sD.map Zc.enc) true false]):=by
 have e1:=YA sS eL (by omega);rw[ha] at e1;have h0:¬(a:Int)<0:=by omega
 have ag : (0:Int)≤(a:Int):=by omega
 have ah:=(Kb.1 hx).1;have hr:(xF.length+1)*32≤140737488355328∧xF.length≤140737488355327:=by omega
 have ai:=ZdT xF;have aa:=ZdT (xF++[⟨eX,eY,eW,eH⟩]);rw[KI] at aa;simp only[Kk,Ks,Box.enc] at aa;refine cE ?_;simp +contextual -implicitDefEqProofs (maxSteps:=10^7) only[go_sem,seval,Zfa,e1,h0,ag,hx,ah,hr,ai,aa,List.length_set,LH,List.set_set];simp[Zb.enc,Box.enc,Kax]
theorem ZpI (sS:List Zb) (sO sD:List Zc) (sL sC:Int) (eK eL eX eY eW eH aa ab:Int) (ad:Bool) (ae eC eo ea ep:Int) (et:Bool) (ek:List Ze) (hn:¬VT ⟨⟨aa,ab,ad,ae⟩,eC⟩):Zd Xs Ms 107 [.ptr 0 0,(.d (.agg [J eK,J eL,J eX,J eY,J eW,J eH,J aa,J ab,.bool ad,J ae,J eC,J eo,J ea,J ep,.bool et,.sl (ek.map Ze.enc)]))] [.box [.own 1,.own 2,.own 3,(.d (J sL)),(.d (J sC))],.tree 4 4 (sS.map Zb.enc) none,.row 5 (sO.map Zc.enc) true false,.row 5 (sD.map Zc.enc) true false]=some ((.d (.bool false)),[.box [.own 1,.own 2,.own 3,(.d (J sL)),(.d (J sC))],.tree 4 4 (sS.map Zb.enc) none,.row 5 (sO.map Zc.enc) true false,.row 5 (sD.map Zc.enc) true false]):=by
 have e1:=UQ aa ab ad ae eC;rw[Kj hn] at e1;refine cE ?_;simp +contextual -implicitDefEqProofs (maxSteps:=10^7) only[go_sem,seval,Zaa,e1]
theorem Znv (sS:List Zb) (sO sD:List Zc) (sL sC:Int) (eK eL eX eY eW eH aa ab:Int) (ad:Bool) (ae eC eo ea ep:Int) (et:Bool) (ek:List Ze) (hv:ZK (Zq.mk sS sO sD sL sC)) (hn:VT ⟨⟨aa,ab,ad,ae⟩,eC⟩):Zd Xs Ms 107 [.ptr 0 0,(.d (.agg [J eK,J eL,J eX,J eY,J eW,J eH,J aa,J ab,.bool ad,J ae,J eC,J eo,J ea,J ep,.bool et,.sl (ek.map Ze.enc)]))] [.box [.own 1,.own 2,.own 3,(.d (J sL)),(.d (J sC))],.tree 4 4 (sS.map Zb.enc) none,.row 5 (sO.map Zc.enc) true false,.row 5 (sD.map Zc.enc) true false] =
  some ((.d (.bool true)),[.box [.own 1,.own 4,.own 3,(.d (J sL)),(.d (J sC))],.tree 4 4 (sS.map Zb.enc) none,.row 5 (sO.map Zc.enc) true false,.row 5 (sD.map Zc.enc) true false,.row 5 ((YB ⟨aa,ab,ad,ae⟩ eC sO).map Zc.enc) true false]):=by
 have e1:=UQ aa ab ad ae eC;rw[Kh hn] at e1;have e2:=ZcH sO aa ab ad ae eC (by have:=hv.2.1.1;simp only at this;omega) (fun x hx=>by have:=(Z5 hv.2.1 x hx).2;have:=hn.2;simp only at this;unfold R64;omega);refine cE ?_;simp +contextual -implicitDefEqProofs (maxSteps:=10^7) only[go_sem,seval,Zaa,e1,e2]
theorem ZpJ (sS:List Zb) (sO sD:List Zc) (sL sC:Int) (eK eL eX eY eW eH aa ab:Int) (ad:Bool) (ae eC eo ea ep:Int) (et:Bool) (ek:List Ze) (hv:ZK (Zq.mk sS sO sD sL sC)) (hn:¬(VT ⟨⟨aa,ab,ad,ae⟩,eC⟩∧Xr ⟨aa,ab,ad,ae⟩ eC false sD=true)):Zd Xs Ms 109 [.ptr 0 0,(.d (.agg [J eK,J eL,J eX,J eY,J eW,J eH,J aa,J ab,.bool ad,J ae,J eC,J eo,J ea,J ep,.bool et,.sl (ek.map Ze.enc)]))] [.box [.own 1,.own 2,.own 3,(.d (J sL)),(.d (J sC))],.tree 4 4 (sS.map Zb.enc) none,.row 5 (sO.map Zc.enc) true false,.row 5 (sD.map Zc.enc) true false]=some ((.d (.bool false)),[.box [.own 1,.own 2,.own 3,(.d (J sL)),(.d (J sC))],.tree 4 4 (sS.map Zb.enc) none,.row 5 (sO.map Zc.enc) true false,.row 5 (sD.map Zc.enc) true false]):=by
 have e1:=UQ aa ab ad ae eC;by_cases hl:VT ⟨⟨aa,ab,ad,ae⟩,eC⟩
 ·rw[Kh hl] at e1;have e2:=Za9 sD aa ab ad ae eC (by have:=hv.2.2.1.1;simp only at this;omega) (ZgP hv.2.2.1) (fun x hx=>by have:=(Z5 hv.2.2.1 x hx).2;have:=hl.2;simp only at this;unfold R64;omega);unfold tkV at e2;rw[Kd (fun h=>hn ⟨hl,h⟩)] at e2;refine cE ?_;simp +contextual -implicitDefEqProofs (maxSteps:=10^7) only[go_sem,seval,WU,e1,e2]
 ·rw[Kj hl] at e1;refine cE ?_;simp +contextual -implicitDefEqProofs (maxSteps:=10^7) only[go_sem,seval,WU,e1]
theorem Znw (sS:List Zb) (sO sD:List Zc) (sL sC:Int) (eK eL eX eY eW eH aa ab:Int) (ad:Bool) (ae eC eo ea ep:Int) (et:Bool) (ek:List Ze) (hv:ZK (Zq.mk sS sO sD sL sC)) (hl:VT ⟨⟨aa,ab,ad,ae⟩,eC⟩) (hk:Xr ⟨aa,ab,ad,ae⟩ eC false sD=true):Zd Xs Ms 109 [.ptr 0 0,(.d (.agg [J eK,J eL,J eX,J eY,J eW,J eH,J aa,J ab,.bool ad,J ae,J eC,J eo,J ea,J ep,.bool et,.sl (ek.map Ze.enc)]))] [.box [.own 1,.own 2,.own 3,(.d (J sL)),(.d (J sC))],.tree 4 4 (sS.map Zb.enc) none,.row 5 (sO.map Zc.enc) true false,.row 5 (sD.map Zc.enc) true false] =
  some ((.d (.bool true)),[.box [.own 1,.own 4,.own 5,(.d (J (sL+eC*aa*ab))),(.d (J sC))],.tree 4 4 (sS.map Zb.enc) none,.row 5 (sO.map Zc.enc) true false,.row 5 (sD.map Zc.enc) true false,.row 5 ((YB ⟨aa,ab,ad,ae⟩ eC sO).map Zc.enc) true false,.row 5 ((XY sD ⟨aa,ab,ad,ae⟩ eC).map Zc.enc) true false]):=by
 have e1:=UQ aa ab ad ae eC;rw[Kh hl] at e1;have e2:=Za9 sD aa ab ad ae eC (by have:=hv.2.2.1.1;simp only at this;omega) (ZgP hv.2.2.1) (fun x hx=>by have:=(Z5 hv.2.2.1 x hx).2;have:=hl.2;simp only at this;unfold R64;omega);unfold tkV at e2;rw[Kg hk] at e2;have e3:=ZcH sO aa ab ad ae eC (by have:=hv.2.1.1;simp only at this;omega) (fun x hx=>by have:=(Z5 hv.2.1 x hx).2;have:=hl.2;simp only at this;unfold R64;omega);have af:=ZdA hl;have h6:=hv.2.2.2;simp only at af h6;have u0:=wi (eC*aa) (by omega) (by omega);have u1:=wi (eC*aa*ab) (by omega) (by omega);have u2:=wi (sL+eC*aa*ab) (by omega) (by omega)
 refine cE ?_;simp +contextual -implicitDefEqProofs (maxSteps:=10^7) only[go_sem,seval,WU,e1,e2,e3,u0,u1,u2]
theorem ZpK (sS:List Zb) (sO sD:List Zc) (sL sC:Int) (eK eL eX eY eW eH aa ab:Int) (ad:Bool) (ae eC eo ea ep:Int) (et:Bool) (ek:List Ze) (hn:QB 0 sS eL<0):Zd Xs Ms 110 [.ptr 0 0,(.d (.agg [J eK,J eL,J eX,J eY,J eW,J eH,J aa,J ab,.bool ad,J ae,J eC,J eo,J ea,J ep,.bool et,.sl (ek.map Ze.enc)]))] [.box [.own 1,.own 2,.own 3,(.d (J sL)),(.d (J sC))],.tree 4 4 (sS.map Zb.enc) none,.row 5 (sO.map Zc.enc) true false,.row 5 (sD.map Zc.enc) true false]=some ((.d (.bool false)),[.box [.own 1,.own 2,.own 3,(.d (J sL)),(.d (J sC))],.tree 4 4 (sS.map Zb.enc) none,.row 5 (sO.map Zc.enc) true false,.row 5 (sD.map Zc.enc) true false]):=by
 have e1:=ZiD sS eL (fun h=>by omega);refine cE ?_;simp +contextual -implicitDefEqProofs (maxSteps:=10^7) only[go_sem,seval,J8,e1]
theorem Znx (sS:List Zb) (sO sD:List Zc) (sL sC:Int) (eK eL eX eY eW eH aa ab:Int) (ad:Bool) (ae eC eo ea ep:Int) (et:Bool) (ek:List Ze) (hv:ZK (Zq.mk sS sO sD sL sC)) (a:Nat) (ha:QB 0 sS eL=(a:Int)) (xL xW xH:Int) (xF:List Box) (hx:sS[a]?=some (Zb.mk xL xW xH xF)):Zd Xs Ms 110 [.ptr 0 0,(.d (.agg [J eK,J eL,J eX,J eY,J eW,J eH,J aa,J ab,.bool ad,J ae,J eC,J eo,J ea,J ep,.bool et,.sl (ek.map Ze.enc)]))] [.box [.own 1,.own 2,.own 3,(.d (J sL)),(.d (J sC))],.tree 4 4 (sS.map Zb.enc) none,.row 5 (sO.map Zc.enc) true false,.row 5 (sD.map Zc.enc) true false] =
  some ((.d (.bool true)),[.box [.own 4,.own 2,.own 3,(.d (J (sL+xW*xH))),(.d (J sC))],.tree 4 4 (sS.map Zb.enc) none,.row 5 (sO.map Zc.enc) true false,.row 5 (sD.map Zc.enc) true false,.tree 4 4 ((sS.eraseIdx a).map Zb.enc) none]):=by
 have e1:=Zie sS eL hv.1 a ha xL xW xH xF hx;have af:=(ZW hv.1.2 _ (Kc hx)).1;simp only at af;have h6:=hv.2.2.2;simp only at h6;have hb:VB ⟨0,0,xW,xH⟩:=by simp only[VB];omega
 have h3:=Jy hb;simp only at h3;have u0:=wi (xW*xH) (by omega) (by omega);have u1:=wi (sL+xW*xH) (by omega) (by omega);refine cE ?_;simp +contextual -implicitDefEqProofs (maxSteps:=10^7) only[go_sem,seval,J8,e1,u0,u1]
end Go.Proofs.YtfnegoimdljanaaGreatDoor
