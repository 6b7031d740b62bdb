/- Own text. -/
import Derived.Test.YtcefneehgbiebaaGreatDoorBCode
import Derived.Test.YtcefneehgbiebaaGreatDoorAbsParts
import Derived.Test.YtcefneehgbiebaaGreatDoorBC6
namespace Go.Proofs.YtcefneehgbiebaaGreatDoor
open Go Go.Abs Go.Abs.E Go.Abs.L
open Nat (reduceMul reduceSub reduceLeDiff reduceEqDiff)
open Int (reduceLE reduceEq reduceToNat reduceNeg)
set_option linter.unusedSimpArgs false
set_option linter.unusedVariables false
set_option maxRecDepth 20000
set_option maxHeartbeats 4000000
def UL (l:List Zc):Prop:=(l.map Zc.Pane).Nodup∧∀ x∈l,1≤x.Count
theorem Zpl:∀ {l:List Zc} {q:List Pane},ZiX q l→(l.map Zc.Pane).Nodup∧∀ p∈l.map Zc.Pane,p∉q
 | [],_,_=>by simp
 | x :: l,q,h=>by
  obtain⟨h1,h2,h3,h4,h5⟩:=h;obtain⟨a,b⟩:=Zpl h5;refine⟨?_,?_⟩
  ·rw[Kj,L3];exact⟨fun hm=>b _ hm (by simp),a⟩
  ·intro p hp;rw[Kj,Kf] at hp;rcases hp with rfl | hp
   ·exact h2
   ·exact fun hq=>b p hp (by simp[hq])
theorem Zkd {l:List Zc} (h:ZaR l):UL l:=⟨(Zpl h.2.1).1,fun x hx=>(XK h x hx).2.1⟩
theorem Zli:∀ {l:List Zc} {k:Nat} {p:Pane},0≤Wx k l p→∃ a x,Wx k l p=((k+a:Nat):Int)∧l[a]?=some x∧x.Pane=p∧p∉(l.take a).map Zc.Pane
 | [],k,p,h=>by simp[Wx] at h
 | x :: l,k,p,h=>by
  unfold Wx at h ⊢;split
  ·rename_i e;exact⟨0,x,by simp,by simp,e,by simp⟩
  ·rename_i e;rw[Kd e] at h;obtain⟨a,y,h1,h2,h3,h4⟩:=Zli h;refine⟨a+1,y,by rw[h1];congr 1;omega,by simpa using h2,h3,?_⟩;simp only[LG,Kj,Kf,not_or];exact⟨fun e'=>e e'.symm,h4⟩
theorem Zpm:∀ {l:List Zc} {k:Nat} {p:Pane},Wx k l p<0→p∉l.map Zc.Pane
 | [],k,p,h=>by simp
 | x :: l,k,p,h=>by
  unfold Wx at h;split at h
  ·omega
  ·rename_i e;simp only[Kj,Kf,not_or];exact⟨fun e'=>e e'.symm,Zpm h⟩
theorem Zlj {p:Pane} {c:Int}:∀ {l:List Zc} {b:Bool},p∉l.map Zc.Pane→Xl p c b l=b
 | [],b,_=>rfl
 | x :: l,b,h=>by
  simp only[Kj,Kf,not_or] at h;rw[Xl,Kd (fun e=>h.1 e.symm),Zlj h.2]
theorem Zvu {p:Pane} {c:Int}:∀ {l:List Zc},p∉l.map Zc.Pane→(∀ x∈l,1≤x.Count)→XZ l p c=l
 | [],_,_=>rfl
 | x :: l,h,hc=>by
  simp only[Kj,Kf,not_or] at h;have h0:=hc x (by simp);have ih:=Zvu (p:=p) (c:=c) h.2 (fun y hy=>hc y (by simp[hy]));unfold XZ at ih ⊢;rw[K6,Zg2,Kd (fun e=>h.1 e.symm),Ki (by omega),ih]
theorem Zvv {p:Pane} {c:Int}:∀ {l:List Zc} {a:Nat} {x:Zc},UL l→l[a]?=some x→x.Pane=p→Xl p c false l=decide (0≤x.Count-c)∧XZ l p c=if 0<x.Count-c then l.set a ⟨p,x.Count-c⟩ else l.eraseIdx a
 | [],a,x,_,h,_=>by simp at h
 | y :: l,0,x,hu,h,e=>by
  simp only[Lk,Option.some.injEq] at h;subst h;obtain⟨h1,h2⟩:=hu;rw[Kj,L3,e] at h1;have hl:=Zvu (p:=p) (c:=c) h1.1 (fun z hz=>h2 z (by simp[hz]));refine⟨by rw[Xl,Ki e,Zlj h1.1],?_⟩;unfold XZ at hl ⊢;rw[K6,Zg2,Ki e];by_cases hc:0<y.Count-c
  ·rw[Ki hc,Ki hc,hl,e];rfl
  ·rw[Kd hc,Kd hc,hl];rfl
 | y :: l,a+1,x,hu,h,e=>by
  simp only[Ll] at h;obtain⟨h1,h2⟩:=hu;rw[Kj,L3] at h1;have aa:y.Pane≠p:=fun e'=>h1.1 (by rw[e',← e];exact L1 (Kc h));obtain⟨i1,i2⟩:=Zvv (p:=p) (c:=c) (l:=l) ⟨h1.2,fun z hz=>h2 z (by simp[hz])⟩ h e;refine⟨by rw[Xl,Kd aa,i1],?_⟩;have h0:=h2 y (by simp);unfold XZ at i2 ⊢;rw[K6,Zg2,Kd aa,Ki (by omega),i2];by_cases hc:0<x.Count-c
  ·rw[Ki hc,Ki hc];rfl
  ·rw[Kd hc,Kd hc];rfl
theorem Zvw {l:List Zc} {p:Pane} {c:Int} (h:UL l):UL (XZ l p c):=by
 have hs:∀ (l:List Zc),((XZ l p c).map Zc.Pane).Sublist (l.map Zc.Pane):=by
  intro l
  induction l with
  | nil=>simp[XZ]
  | cons x l ih=>
   unfold XZ at ih ⊢;rw[K6];unfold Zg2 at ih ⊢;split
   ·exact ih.trans (by simp)
   ·rename_i y hy;split at hy
    ·split at hy
     ·cases hy;simpa using ih
     ·cases hy
    ·split at hy
     ·cases hy;simpa using ih
     ·cases hy
 refine⟨List.Nodup.sublist (hs l) h.1,fun y hy=>?_⟩;obtain⟨x,hx,e⟩:=Lg.1 hy;have:=h.2 x hx;unfold Zg2 at e;split at e
 ·split at e
  ·cases e;simp only;omega
  ·cases e
 ·split at e
  ·cases e;omega
  ·cases e
theorem Zpn (p:Pane) (c:Int):∀ (l:List Zc),(YJ p c l).map Zc.Pane=if p∈l.map Zc.Pane then l.map Zc.Pane else l.map Zc.Pane++[p]
 | []=>by simp[YJ]
 | x :: l=>by
  unfold YJ;by_cases e:x.Pane=p
  ·simp[e]
  ·have ih:=Zpn p c l;have e' : ¬p=x.Pane:=fun h=>e h.symm;simp only[Kd e,Kj,Kf,e',false_or,ih];split<;>simp
theorem ZxR {l:List Zc} {p:Pane} {c:Int} (h:UL l) (hc:1≤c):UL (YJ p c l):=by
 refine⟨?_,?_⟩
 ·rw[Zpn];split
  ·exact h.1
  ·rename_i hn;refine List.nodup_append.2 ⟨h.1,by simp,fun a ha b hb=>?_⟩;simp only[KA] at hb;subst hb;exact fun e=>hn (e ▸ ha)
 ·have aa:∀ (l:List Zc),(∀ x∈l,1≤x.Count)→∀ x∈YJ p c l,1≤x.Count:=by
   intro l
   induction l with
   | nil=>intro _ x hx;simp[YJ] at hx;subst hx;exact hc
   | cons y l ih=>
    intro h x hx;have hy:=h y (by simp);unfold YJ at hx;split at hx
    ·rcases Kf.1 hx with rfl | hx
     ·simp only;omega
     ·exact h x (by simp[hx])
    ·rcases Kf.1 hx with rfl | hx
     ·exact hy
     ·exact ih (fun z hz=>h z (by simp[hz])) x hx
  exact aa l h.2
theorem ZhS : ∀ {l:List Zb} {b:Int},Xw b l→∀ x∈l,b<x.Label
 | [],_,_,x,hx=>by simp at hx
 | y :: l,b,h,x,hx=>by
  rcases Kf.1 hx with rfl | hx
  ·exact h.2.1
  ·have:=ZhS h.2.2 x hx;have:=h.2.1;omega
theorem Zpo (q:Zb):∀ (l:List Zb),q∈Qz q l
 | []=>by simp[Qz]
 | x :: l=>by
  unfold Qz;split
  ·simp
  ·exact Kz _ (Zpo q l)
theorem Zme {q:Zb} (hq:VPc q):∀ {l:List Zb} {b:Int},Xw b l→b<q.Label→(Xw b (Qz q l)↔q.Label∉l.map Zb.Label)
 | [],b,h,hb=>by simp[Qz,Xw,hq,hb]
 | x :: l,b,h,hb=>by
  obtain⟨h1,h2,h3⟩:=h;unfold Qz;by_cases aa:q.Label<x.Label
  ·rw[Ki aa];refine⟨fun _ hm=>?_,fun _=>⟨hq,hb,h1,aa,h3⟩⟩;rw[Kj,Kf] at hm;rcases hm with hm | hm
   ·omega
   ·obtain⟨y,hy,e⟩:=K5.1 hm;have:=ZhS h3 y hy;omega
  ·rw[Kd aa];by_cases he:x.Label=q.Label
   ·constructor
    ·intro hs;have:=ZhS hs.2.2 q (Zpo q l);omega
    ·intro hn;exact absurd (by simp[he]) hn
   ·have ih:=Zme hq h3 (by omega:x.Label<q.Label);rw[Kj,Kf,not_or,Xw,ih];exact⟨fun h=>⟨fun e=>he e.symm,h.2.2⟩,fun h=>⟨h1,h2,h.2⟩⟩
theorem Zvx:∀ {l:List Zb} {k:Nat} {n:Int},Qv k l n<0↔n∉l.map Zb.Label
 | [],k,n=>by simp[Qv]
 | x :: l,k,n=>by
  unfold Qv;have ih:=Zvx (l:=l) (k:=k+1) (n:=n);by_cases he:x.Label=n
  ·rw[Ki he];simp only[Kj,Kf,he,true_or,not_true,iff_false];omega
  ·rw[Kd he,ih,Kj,Kf,not_or];exact⟨fun h=>⟨fun e=>he e.symm,h⟩,fun h=>h.2⟩
theorem ZAp {q:Zb} {l:List Zb} (h1:VSt l) (h2:VPc q):WB q l↔l.length≠20∧Qv 0 l q.Label<0:=by
 have h3:=Zme h2 h1.2 (by have:=h2.1.1;omega:0<q.Label);have h4:=h1.1;unfold WB;rw[Zvx,← h3];simp only[VSt,Zld];constructor
 ·rintro ⟨_,a,b⟩;exact⟨by omega,b⟩
 ·rintro ⟨a,b⟩;exact⟨⟨⟨h4,h1.2⟩,h2⟩,by omega,b⟩
theorem Ziq (l:List Zb) (qL qW qH:Int) (qF:List Box) (hl:l.length≤100000):Ze Xs Ms J8 [(.d (.sl (l.map Zb.enc))),(.d (.agg [J qL,J qW,J qH,.sl (qF.map Box.enc)]))] [] =
  some (.tup [.own 0,(.d (.bool (decide (WB (Zb.mk qL qW qH qF) l))))],[.row 4 ((if WB (Zb.mk qL qW qH qF) l then Qz (Zb.mk qL qW qH qF) l else []).map Zb.enc) true false]):=by
 have e1:=V2 l;have e2:=Xi qL qW qH qF;have e3:=Vf l qL (by omega);by_cases v1:VSt l
 ·rw[Kh v1] at e1;by_cases v2:VPc (Zb.mk qL qW qH qF)
  ·rw[Kh v2] at e2;have hA:=ZAp v1 v2;simp only at hA;have hF:=(Zck v1).2;have af:qF.length≤1000000:=by have:=v2.1.2.2.2.2.2.2;simp only at this;omega
   by_cases v3:l.length=20
   ·have h:¬WB (Zb.mk qL qW qH qF) l:=fun h=>(hA.1 h).1 v3;have ab : ((l.length:Int)=20):=by omega
    rw[Kk h,Kd h];refine cE ?_;simp +contextual -implicitDefEqProofs (maxSteps:=10^7) only[go_sem,seval,↓gZ,VS,e1,e2,ab]
   ·have ab : ¬((l.length:Int)=20):=by omega
    by_cases v4:Qv 0 l qL<0
    ·have h:WB (Zb.mk qL qW qH qF) l:=hA.2 ⟨v3,v4⟩;have aa : ¬(0≤Qv 0 l qL):=by omega
     have eq:=JU qL qW qH qF af;rw[Kh h,Ki h];generalize Qv 0 l qL=fl at e3 aa;have ah:=v1.1;refine cE ?_;simp +contextual -implicitDefEqProofs (maxSteps:=10^7) only[go_sem,seval,↓gZ,VS,e1,e2,ab,e3,aa];refine LO (α:=Nat×Bool×List Zb) (fun s=>[(32,.d (J (s.1:Int))),(7,.d (.bool s.2.1))]) (fun s=>[(0,.row 4 (s.2.2.map Zb.enc) true false)]) (fun s=>s.1≤l.length∧s.2.2++(if s.2.1 then l.drop s.1 else Qz (Zb.mk qL qW qH qF) (l.drop s.1))=Qz (Zb.mk qL qW qH qF) l∧s.2.2.length≤s.1+s.2.1.toNat) (fun s=>l.length-s.1) (0,false,[]) ⟨by simp,by simp,by simp⟩ ?_;intro⟨i,b,o⟩ ⟨hi,hp,ho⟩ ih;simp only at hi hp ho
     have hb:=Bool.toNat_le b;by_cases ad:i<l.length
     ·obtain⟨x,hx⟩:=Zr ad;have hw:=Zj (k:=i) (by omega);have hr:(o.length+1)*48≤140737488355328∧o.length≤140737488355327:=by omega
      have ae:∀ n:Nat,n=o.length+1→(n+1)*48≤140737488355328∧n≤140737488355327:=fun n hn=>by omega
      have ae:=ae _ rfl;have ag:o.length≤140737488355326:=by omega
      have e:=JU x.Label x.W x.H x.Flaws (hF x (Kc hx));rw[Zpc hx] at hp;have hd:l.drop i=x :: l.drop (i+1):=by
       obtain⟨h1,h2⟩:=Kb.1 hx;rw[Kw h1,h2]
      obtain⟨L,W,H,F⟩:=x;simp only at e hp;cases b with
      | true=>
       simp only[Bool.toNat_true] at ho;rw[Ki rfl] at hp;simp +contextual -implicitDefEqProofs (maxSteps:=10^7) only[go_sem,seval,↓gZ,hx,ad,hw,e,hr];refine ih (i+1,true,o++[⟨L,W,H,F⟩]) _ ⟨by simp only;omega,?_,by simp;omega⟩ (by simp only;omega) ?_
       ·rw[← hp,hd];simp
       ·simp +contextual -implicitDefEqProofs (maxSteps:=10^7) only[go_sem,seval,↓gZ];try (simp[Zb.enc];done)
      | false=>
       simp only[Bool.toNat_false] at ho;rw[Kd (by simp)] at hp;by_cases hc:qL<L
       ·rw[Ki hc] at hp;simp +contextual -implicitDefEqProofs (maxSteps:=10^7) only[go_sem,seval,↓gZ,hx,ad,hw,e,eq,hc,hr,ae,ag];refine ih (i+1,true,o++[(Zb.mk qL qW qH qF),⟨L,W,H,F⟩]) _ ⟨by simp only;omega,?_,by simp;omega⟩ (by simp only;omega) ?_
        ·rw[← hp,hd];simp
        ·simp +contextual -implicitDefEqProofs (maxSteps:=10^7) only[go_sem,seval,↓gZ];try (simp[Zb.enc];done)
       ·rw[Kd hc] at hp;simp +contextual -implicitDefEqProofs (maxSteps:=10^7) only[go_sem,seval,↓gZ,hx,ad,hw,e,hc,hr];refine ih (i+1,false,o++[⟨L,W,H,F⟩]) _ ⟨by simp only;omega,?_,by simp;omega⟩ (by simp only;omega) ?_
        ·rw[← hp];simp
        ·simp +contextual -implicitDefEqProofs (maxSteps:=10^7) only[go_sem,seval,↓gZ];try (simp[Zb.enc];done)
     ·have:i=l.length:=by omega
      subst this;have hr:(o.length+1)*48≤140737488355328∧o.length≤140737488355327:=by omega
      cases b with
      | true=>
       simp at hp;simp +contextual -implicitDefEqProofs (maxSteps:=10^7) only[go_sem,seval,↓gZ];rw[hp]
      | false=>
       simp[Qz] at hp;simp +contextual -implicitDefEqProofs (maxSteps:=10^7) only[go_sem,seval,↓gZ,eq,hr];rw[← hp];try (simp[Zb.enc];done)
    ·have h:¬WB (Zb.mk qL qW qH qF) l:=fun h=>v4 (hA.1 h).2;have aa : 0≤Qv 0 l qL:=by omega
     rw[Kk h,Kd h];generalize Qv 0 l qL=fl at e3 aa;refine cE ?_;simp +contextual -implicitDefEqProofs (maxSteps:=10^7) only[go_sem,seval,↓gZ,VS,e1,e2,ab,e3,aa]
  ·rw[Kk v2] at e2;have h:¬WB (Zb.mk qL qW qH qF) l:=fun h=>v2 h.1.2;rw[Kk h,Kd h];refine cE ?_;simp +contextual -implicitDefEqProofs (maxSteps:=10^7) only[go_sem,seval,↓gZ,VS,e1,e2]
 ·rw[Kk v1] at e1;have h:¬WB (Zb.mk qL qW qH qF) l:=fun h=>v1 h.1.1;rw[Kk h,Kd h];refine cE ?_;simp +contextual -implicitDefEqProofs (maxSteps:=10^7) only[go_sem,seval,↓gZ,VS,e1]
theorem Zgd (l:List Zc) (hl:l.length≤1000000):Ze Xs Ms Q5 [(.d (.sl (l.map Zc.enc)))] []=some (.own 0,[.row 5 (l.map Zc.enc) true false]):=by
 refine VH Xs Ms Zls ?_;unfold Zkv;simp only;rw[Ki ⟨by rw[ZuE];trivial,by rw[ZrO];trivial,by simp[ZR];omega,by simp[ZR];omega⟩]
theorem Zir {α β:Type} (f:α→β):∀ (l:List α) (i:Nat),(l.map f).eraseIdx i=(l.eraseIdx i).map f
 | [],_=>rfl
 | _ :: _,0=>rfl
 | x :: l,i+1=>by simp[Zir f l i]
theorem Zlk (l:List Zc) (i:Nat) (hi:i<l.length):Ze Xs Ms ZU [.own 0,(.d (J i)),(.d (J ((i:Int)+1)))] [.row 5 (l.map Zc.enc) true false]=some (.own 1,[.row 0 [] true false,.row 5 ((l.eraseIdx i).map Zc.enc) true false]):=by
 refine VH Xs Ms Zki ?_;unfold Zhq;simp only;rw[Ki ⟨rfl,by omega,rfl,by simp;omega,by rw[ZuE];trivial,by rw[ZrO];trivial,rfl,rfl⟩,KD,Zir]
theorem Zb9 (l:List Zc) (xW xH:Int) (xT:Bool) (xK xC:Int) (hl:l.length≤1000000) (hc:∀ y∈l,R64 (y.Count+xC)):Ze Xs Ms WO [(.d (.sl (l.map Zc.enc))),(.d (.agg [J xW,J xH,.bool xT,J xK,J xC]))] []=some (.own 0,[.row 5 ((YJ ⟨xW,xH,xT,xK⟩ xC l).map Zc.enc) true false]):=by
 have e1:=Zgd l hl;have e2:=ZdS l xW xH xT xK (by omega);have hr:(l.length+1)*40≤140737488355328∧l.length≤140737488355327:=by omega
 by_cases hf:Wx 0 l ⟨xW,xH,xT,xK⟩<0
 ·have hn:¬0≤Wx 0 l ⟨xW,xH,xT,xK⟩:=by omega
  rw[Zty _ _ _ (Zpm hf)];refine cE ?_;simp +contextual -implicitDefEqProofs (maxSteps:=10^7) only[go_sem,seval,↓gZ,ZdA,e1,e2,hn,hr];try (simp[Zc.enc];done)
 ·obtain⟨a,x,h1,h2,h3,h4⟩:=Zli (by omega:0≤Wx 0 l ⟨xW,xH,xT,xK⟩);rw[K2] at h1;rw[h1] at e2;rw[Ztx _ _ _ a x h2 h3 h4];have aa:=hc x (Kc h2);obtain⟨⟨W,H,T,K⟩,C⟩:=x;simp only[Pane.mk.injEq] at h3 aa;obtain⟨rfl,rfl,rfl,rfl⟩:=h3;have u0:=wi (C+xC) aa.1 aa.2;have ab:=(Kb.1 h2).1;have ha:(0:Int)≤(a:Int):=by omega
  refine cE ?_;simp +contextual -implicitDefEqProofs (maxSteps:=10^7) only[go_sem,seval,↓gZ,ZdA,e1,e2,ha,h2,ab,u0];try (simp[Zc.enc,L0];done)
def tkV (l:List Zc) (p:Pane) (c:Int):AV×List Zl:=
 if Xl p c false l=true then (.tup [.own 0,(.d (.bool true))],[.row 5 ((XZ l p c).map Zc.enc) true false]) else (.tup [.own 0,(.d (.bool false))],[.row 5 [] true false])
theorem Za7 (l:List Zc) (xW xH:Int) (xT:Bool) (xK xC:Int) (hl:l.length≤1000000) (hu:UL l) (hc:∀ y∈l,R64 (y.Count-xC)):Ze Xs Ms Ua [(.d (.sl (l.map Zc.enc))),(.d (.agg [J xW,J xH,.bool xT,J xK,J xC]))] []=some (tkV l ⟨xW,xH,xT,xK⟩ xC):=by
 have e1:=Zgd l hl;have e2:=ZdS l xW xH xT xK (by omega);by_cases hf:Wx 0 l ⟨xW,xH,xT,xK⟩<0
 ·have hn:=Zlj (c:=xC) (b:=false) (Zpm hf);have ek:tkV l ⟨xW,xH,xT,xK⟩ xC=(.tup [.own 0,(.d (.bool false))],[.row 5 [] true false]):=by unfold tkV;rw[hn,Kd (by simp)]
  rw[ek];refine cE ?_;simp +contextual -implicitDefEqProofs (maxSteps:=10^7) only[go_sem,seval,↓gZ,Uk,e1,e2,hf]
 ·obtain⟨a,x,h1,h2,h3,h4⟩:=Zli (by omega:0≤Wx 0 l ⟨xW,xH,xT,xK⟩);rw[K2] at h1;rw[h1] at e2;obtain⟨k1,k2⟩:=Zvv (c:=xC) hu h2 h3;have ad:=hc x (Kc h2);obtain⟨⟨W,H,T,K⟩,C⟩:=x;simp only[Pane.mk.injEq] at h3 ad k1 k2;obtain⟨rfl,rfl,rfl,rfl⟩:=h3;have u0:=wi (C-xC) ad.1 ad.2;have ab:=(Kb.1 h2).1;have ha:¬(a:Int)<0:=by omega
  have hw:=Zj (k:=a) (by omega);have e3:=Zlk (l.set a ⟨⟨W,H,T,K⟩,0⟩) a (by simpa using ab);by_cases ae:C<xC
  ·have hx:¬0≤C-xC:=by omega
   have ek:tkV l ⟨W,H,T,K⟩ xC=(.tup [.own 0,(.d (.bool false))],[.row 5 [] true false]):=by unfold tkV;rw[k1,Kk hx,Kd (by simp)]
   rw[ek];refine cE ?_;simp +contextual -implicitDefEqProofs (maxSteps:=10^7) only[go_sem,seval,↓gZ,Uk,e1,e2,ha,h2,ab,ae]
  ·have hx:0≤C-xC:=by omega
   by_cases hz:C-xC=0
   ·have ek:tkV l ⟨W,H,T,K⟩ xC=(.tup [.own 0,(.d (.bool true))],[.row 5 ((l.eraseIdx a).map Zc.enc) true false]):=by unfold tkV;rw[k1,Kh hx,Ki rfl,k2,Kd (by omega)]
    rw[ek];have es:(l.set a ⟨⟨W,H,T,K⟩,0⟩).eraseIdx a=l.eraseIdx a:=by simp[List.eraseIdx_set_eq]
    rw[es,L0] at e3;simp only[Zc.enc] at e3;have aa:((a:Int)+1)=((a+1:Nat):Int):=by omega
    rw[aa] at e3;rw[hz] at u0;refine cE ?_;simp +contextual -implicitDefEqProofs (maxSteps:=10^7) only[go_sem,seval,↓gZ,Uk,e1,e2,ha,h2,ab,ae,hz,u0,hw,e3,L0,LC,List.length_set]
   ·have ek:tkV l ⟨W,H,T,K⟩ xC=(.tup [.own 0,(.d (.bool true))],[.row 5 ((l.set a ⟨⟨W,H,T,K⟩,C-xC⟩).map Zc.enc) true false]):=by unfold tkV;rw[k1,Kh hx,Ki rfl,k2,Ki (by omega)]
    rw[ek];refine cE ?_;simp +contextual -implicitDefEqProofs (maxSteps:=10^7) only[go_sem,seval,↓gZ,Uk,e1,e2,ha,h2,ab,ae,hz,u0,L0,LC,List.length_set]
theorem Wa (sS:List Zb) (sO sD:List Zc) (sL sC:Int) (h:Jc (Zq.mk sS sO sD sL sC)):Ze Xs Ms J0 [(.d (.agg [.sl (sS.map Zb.enc),.sl (sO.map Zc.enc),.sl (sD.map Zc.enc),J sL,J sC]))] []=some (.agg [.own 0,.own 1,.own 2,(.d (J sL)),(.d (J sC))],[.deep 4 4 (sS.map Zb.enc) none,.row 5 (sO.map Zc.enc) true false,.row 5 (sD.map Zc.enc) true false]):=by
 obtain⟨h1,h2,h3,h4⟩:=h;simp only at h1 h2 h3 h4;have e1:=ZcS sS (by omega) (fun x hx=>by have:=(h2 x hx).1;omega);have r1:sO.length*40≤140737488355328∧sO.length≤140737488355328:=by omega
 have r2:sD.length*40≤140737488355328∧sD.length≤140737488355328:=by omega
 refine cE ?_;simp +contextual -implicitDefEqProofs (maxSteps:=10^7) only[go_sem,seval,↓gZ,ZfF,e1,r1,r2]
theorem U2 (xW xH:Int) (xT:Bool) (xK xC:Int):Ze Xs Ms Vo [(.d (.agg [J xW,J xH,.bool xT,J xK,J xC]))] []=some ((.d (.bool (decide (Wy ⟨⟨xW,xH,xT,xK⟩,xC⟩)))),[]):=by
 have e1:=ZcN xW xH xT xK;refine cE ?_;by_cases v1:VP ⟨xW,xH,xT,xK⟩
 ·rw[Kh v1] at e1;by_cases v2:1≤xC
  ·by_cases v3:xC≤24
   ·have h:Wy ⟨⟨xW,xH,xT,xK⟩,xC⟩:=⟨v1,v2,v3⟩
    simp +contextual -implicitDefEqProofs (maxSteps:=10^7) only[go_sem,seval,↓gZ,Vt,e1,v2,v3,h]
   ·have h:¬Wy ⟨⟨xW,xH,xT,xK⟩,xC⟩:=fun h=>v3 h.2.2;simp +contextual -implicitDefEqProofs (maxSteps:=10^7) only[go_sem,seval,↓gZ,Vt,e1,v2,v3,h]
  ·have h:¬Wy ⟨⟨xW,xH,xT,xK⟩,xC⟩:=fun h=>v2 h.2.1;simp +contextual -implicitDefEqProofs (maxSteps:=10^7) only[go_sem,seval,↓gZ,Vt,e1,v2,h]
 ·rw[Kk v1] at e1;have h:¬Wy ⟨⟨xW,xH,xT,xK⟩,xC⟩:=fun h=>v1 h.1;simp +contextual -implicitDefEqProofs (maxSteps:=10^7) only[go_sem,seval,↓gZ,Vt,e1,h]
theorem ZqC (sS:List Zb) (sO sD:List Zc) (sL sC:Int) (eK eL eX eY eW eH aa ab:Int) (ad:Bool) (ae eC eo ea ep:Int) (et:Bool) (ek:List Zf) (hl:sS.length≤100000) (hn:¬((WB ⟨eL,eW,eH,[]⟩ sS∧eX=0)∧eY=0)):Ze Xs Ms W9 [.ptr 0 0,(.d (.agg [J eK,J eL,J eX,J eY,J eW,J eH,J aa,J ab,.bool ad,J ae,J eC,J eo,J ea,J ep,.bool et,.sl (ek.map Zf.enc)]))] [.box [.own 1,.own 2,.own 3,(.d (J sL)),(.d (J sC))],.deep 4 4 (sS.map Zb.enc) none,.row 5 (sO.map Zc.enc) true false,.row 5 (sD.map Zc.enc) true false]=some ((.d (.bool false)),[.box [.own 1,.own 2,.own 3,(.d (J sL)),(.d (J sC))],.deep 4 4 (sS.map Zb.enc) none,.row 5 (sO.map Zc.enc) true false,.row 5 (sD.map Zc.enc) true false]):=by
 by_cases hx:eX=0
 ·by_cases hy:eY=0
  ·have ha:¬WB ⟨eL,eW,eH,[]⟩ sS:=fun h=>hn ⟨⟨h,hx⟩,hy⟩;have e1:=Ziq sS eL eW eH [] hl;rw[Kk ha,Kd ha] at e1;simp only[Ku] at e1;refine cE ?_;simp +contextual -implicitDefEqProofs (maxSteps:=10^7) only[go_sem,seval,↓gZ,Uh,hx,hy,e1]
  ·refine cE ?_;simp +contextual -implicitDefEqProofs (maxSteps:=10^7) only[go_sem,seval,↓gZ,Uh,hx,hy]
 ·refine cE ?_;simp +contextual -implicitDefEqProofs (maxSteps:=10^7) only[go_sem,seval,↓gZ,Uh,hx]
theorem Zpp (sS:List Zb) (sO sD:List Zc) (sL sC:Int) (eK eL eX eY eW eH aa ab:Int) (ad:Bool) (ae eC eo ea ep:Int) (et:Bool) (ek:List Zf) (hv:ZS (Zq.mk sS sO sD sL sC)) (ha:WB ⟨eL,eW,eH,[]⟩ sS) (hx:eX=0) (hy:eY=0):Ze Xs Ms W9 [.ptr 0 0,(.d (.agg [J eK,J eL,J eX,J eY,J eW,J eH,J aa,J ab,.bool ad,J ae,J eC,J eo,J ea,J ep,.bool et,.sl (ek.map Zf.enc)]))] [.box [.own 1,.own 2,.own 3,(.d (J sL)),(.d (J sC))],.deep 4 4 (sS.map Zb.enc) none,.row 5 (sO.map Zc.enc) true false,.row 5 (sD.map Zc.enc) true false] =
  some ((.d (.bool true)),[.box [.own 4,.own 2,.own 3,(.d (J sL)),(.d (J (sC+eW*eH)))],.deep 4 4 (sS.map Zb.enc) none,.row 5 (sO.map Zc.enc) true false,.row 5 (sD.map Zc.enc) true false,.row 4 ((Qz ⟨eL,eW,eH,[]⟩ sS).map Zb.enc) true false]):=by
 have af:=hv.1.1;simp only at af;have e1:=Ziq sS eL eW eH [] (by omega);rw[Kh ha,Ki ha] at e1;simp only[Ku] at e1;have hp:=ha.1.2.1;simp only at hp;subst hx hy;have hb:VB ⟨0,0,eW,eH⟩:=by simp only[VB];omega
 have e2:=Zj3 0 0 eW eH hb;have h3:=Zb5 hb;simp only at h3;have h4:=hv.2.2.2;simp only at h4;have u0:=wi (sC+eW*eH) (by omega) (by omega);generalize Qz ⟨eL,eW,eH,[]⟩ sS=Q at *;refine cE ?_;simp +contextual -implicitDefEqProofs (maxSteps:=10^7) only[go_sem,seval,↓gZ,Uh,e1,e2,u0]
theorem ZtF (sS:List Zb) (sO sD:List Zc) (sL sC:Int) (eK eL eX eY eW eH aa ab:Int) (ad:Bool) (ae eC eo ea ep:Int) (et:Bool) (ek:List Zf) (hl:sS.length≤100000) (hn:Qv 0 sS eL<0):Ze Xs Ms Jm [.ptr 0 0,(.d (.agg [J eK,J eL,J eX,J eY,J eW,J eH,J aa,J ab,.bool ad,J ae,J eC,J eo,J ea,J ep,.bool et,.sl (ek.map Zf.enc)]))] [.box [.own 1,.own 2,.own 3,(.d (J sL)),(.d (J sC))],.deep 4 4 (sS.map Zb.enc) none,.row 5 (sO.map Zc.enc) true false,.row 5 (sD.map Zc.enc) true false]=some ((.d (.bool false)),[.box [.own 1,.own 2,.own 3,(.d (J sL)),(.d (J sC))],.deep 4 4 (sS.map Zb.enc) none,.row 5 (sO.map Zc.enc) true false,.row 5 (sD.map Zc.enc) true false]):=by
 have e1:=Vf sS eL (by omega);refine cE ?_;simp +contextual -implicitDefEqProofs (maxSteps:=10^7) only[go_sem,seval,↓gZ,Zdy,e1,hn]
theorem ZqD (sS:List Zb) (sO sD:List Zc) (sL sC:Int) (eK eL eX eY eW eH aa ab:Int) (ad:Bool) (ae eC eo ea ep:Int) (et:Bool) (ek:List Zf) (hl:sS.length≤100000) (a:Nat) (ha:Qv 0 sS eL=(a:Int)) (xL xW xH:Int) (xF:List Box) (hx:sS[a]?=some (Zb.mk xL xW xH xF)) (hF:xF.length≤1000):Ze Xs Ms Jm [.ptr 0 0,(.d (.agg [J eK,J eL,J eX,J eY,J eW,J eH,J aa,J ab,.bool ad,J ae,J eC,J eo,J ea,J ep,.bool et,.sl (ek.map Zf.enc)]))] [.box [.own 1,.own 2,.own 3,(.d (J sL)),(.d (J sC))],.deep 4 4 (sS.map Zb.enc) none,.row 5 (sO.map Zc.enc) true false,.row 5 (sD.map Zc.enc) true false] =
  some ((.d (.bool true)),[.box [.own 1,.own 2,.own 3,(.d (J sL)),(.d (J sC))],.row 4 ((sS.set a ⟨xL,xW,xH,xF++[⟨eX,eY,eW,eH⟩]⟩).map Zb.enc) true false,.row 5 (sO.map Zc.enc) true false,.row 5 (sD.map Zc.enc) true false]):=by
 have e1:=Vf sS eL (by omega);rw[ha] at e1;have h0:¬(a:Int)<0:=by omega
 have af : (0:Int)≤(a:Int):=by omega
 have ag:=(Kb.1 hx).1;have hr:(xF.length+1)*32≤140737488355328∧xF.length≤140737488355327:=by omega
 have ah:=Zo7 xF;refine cE ?_;simp +contextual -implicitDefEqProofs (maxSteps:=10^7) only[go_sem,seval,↓gZ,Zdy,e1,h0,af,hx,ag,hr,ah];simp[Zb.enc,Box.enc,L0]
theorem Zmx (sS:List Zb) (sO sD:List Zc) (sL sC:Int) (eK eL eX eY eW eH aa ab:Int) (ad:Bool) (ae eC eo ea ep:Int) (et:Bool) (ek:List Zf) (hn:¬Wy ⟨⟨aa,ab,ad,ae⟩,eC⟩):Ze Xs Ms Vk [.ptr 0 0,(.d (.agg [J eK,J eL,J eX,J eY,J eW,J eH,J aa,J ab,.bool ad,J ae,J eC,J eo,J ea,J ep,.bool et,.sl (ek.map Zf.enc)]))] [.box [.own 1,.own 2,.own 3,(.d (J sL)),(.d (J sC))],.deep 4 4 (sS.map Zb.enc) none,.row 5 (sO.map Zc.enc) true false,.row 5 (sD.map Zc.enc) true false]=some ((.d (.bool false)),[.box [.own 1,.own 2,.own 3,(.d (J sL)),(.d (J sC))],.deep 4 4 (sS.map Zb.enc) none,.row 5 (sO.map Zc.enc) true false,.row 5 (sD.map Zc.enc) true false]):=by
 have e1:=U2 aa ab ad ae eC;rw[Kk hn] at e1;refine cE ?_;simp +contextual -implicitDefEqProofs (maxSteps:=10^7) only[go_sem,seval,↓gZ,Zam,e1]
theorem Zll (sS:List Zb) (sO sD:List Zc) (sL sC:Int) (eK eL eX eY eW eH aa ab:Int) (ad:Bool) (ae eC eo ea ep:Int) (et:Bool) (ek:List Zf) (hv:ZS (Zq.mk sS sO sD sL sC)) (hn:Wy ⟨⟨aa,ab,ad,ae⟩,eC⟩):Ze Xs Ms Vk [.ptr 0 0,(.d (.agg [J eK,J eL,J eX,J eY,J eW,J eH,J aa,J ab,.bool ad,J ae,J eC,J eo,J ea,J ep,.bool et,.sl (ek.map Zf.enc)]))] [.box [.own 1,.own 2,.own 3,(.d (J sL)),(.d (J sC))],.deep 4 4 (sS.map Zb.enc) none,.row 5 (sO.map Zc.enc) true false,.row 5 (sD.map Zc.enc) true false] =
  some ((.d (.bool true)),[.box [.own 1,.own 4,.own 3,(.d (J sL)),(.d (J sC))],.deep 4 4 (sS.map Zb.enc) none,.row 5 (sO.map Zc.enc) true false,.row 5 (sD.map Zc.enc) true false,.row 5 ((YJ ⟨aa,ab,ad,ae⟩ eC sO).map Zc.enc) true false]):=by
 have e1:=U2 aa ab ad ae eC;rw[Kh hn] at e1;have e2:=Zb9 sO aa ab ad ae eC (by have:=hv.2.1.1;simp only at this;omega) (fun x hx=>by have:=(XK hv.2.1 x hx).2;have:=hn.2;simp only at this;unfold R64;omega);refine cE ?_;simp +contextual -implicitDefEqProofs (maxSteps:=10^7) only[go_sem,seval,↓gZ,Zam,e1,e2]
theorem Zmy (sS:List Zb) (sO sD:List Zc) (sL sC:Int) (eK eL eX eY eW eH aa ab:Int) (ad:Bool) (ae eC eo ea ep:Int) (et:Bool) (ek:List Zf) (hv:ZS (Zq.mk sS sO sD sL sC)) (hn:¬(Wy ⟨⟨aa,ab,ad,ae⟩,eC⟩∧Xl ⟨aa,ab,ad,ae⟩ eC false sD=true)):Ze Xs Ms Vl [.ptr 0 0,(.d (.agg [J eK,J eL,J eX,J eY,J eW,J eH,J aa,J ab,.bool ad,J ae,J eC,J eo,J ea,J ep,.bool et,.sl (ek.map Zf.enc)]))] [.box [.own 1,.own 2,.own 3,(.d (J sL)),(.d (J sC))],.deep 4 4 (sS.map Zb.enc) none,.row 5 (sO.map Zc.enc) true false,.row 5 (sD.map Zc.enc) true false]=some ((.d (.bool false)),[.box [.own 1,.own 2,.own 3,(.d (J sL)),(.d (J sC))],.deep 4 4 (sS.map Zb.enc) none,.row 5 (sO.map Zc.enc) true false,.row 5 (sD.map Zc.enc) true false]):=by
 have e1:=U2 aa ab ad ae eC;by_cases hl:Wy ⟨⟨aa,ab,ad,ae⟩,eC⟩
 ·rw[Kh hl] at e1;have e2:=Za7 sD aa ab ad ae eC (by have:=hv.2.2.1.1;simp only at this;omega) (Zkd hv.2.2.1) (fun x hx=>by have:=(XK hv.2.2.1 x hx).2;have:=hl.2;simp only at this;unfold R64;omega);unfold tkV at e2;rw[Kd (fun h=>hn ⟨hl,h⟩)] at e2;refine cE ?_;simp +contextual -implicitDefEqProofs (maxSteps:=10^7) only[go_sem,seval,↓gZ,WX,e1,e2]
 ·rw[Kk hl] at e1;refine cE ?_;simp +contextual -implicitDefEqProofs (maxSteps:=10^7) only[go_sem,seval,↓gZ,WX,e1]
theorem Zlm (sS:List Zb) (sO sD:List Zc) (sL sC:Int) (eK eL eX eY eW eH aa ab:Int) (ad:Bool) (ae eC eo ea ep:Int) (et:Bool) (ek:List Zf) (hv:ZS (Zq.mk sS sO sD sL sC)) (hl:Wy ⟨⟨aa,ab,ad,ae⟩,eC⟩) (hk:Xl ⟨aa,ab,ad,ae⟩ eC false sD=true):Ze Xs Ms Vl [.ptr 0 0,(.d (.agg [J eK,J eL,J eX,J eY,J eW,J eH,J aa,J ab,.bool ad,J ae,J eC,J eo,J ea,J ep,.bool et,.sl (ek.map Zf.enc)]))] [.box [.own 1,.own 2,.own 3,(.d (J sL)),(.d (J sC))],.deep 4 4 (sS.map Zb.enc) none,.row 5 (sO.map Zc.enc) true false,.row 5 (sD.map Zc.enc) true false] =
  some ((.d (.bool true)),[.box [.own 1,.own 4,.own 5,(.d (J (sL+eC*aa*ab))),(.d (J sC))],.deep 4 4 (sS.map Zb.enc) none,.row 5 (sO.map Zc.enc) true false,.row 5 (sD.map Zc.enc) true false,.row 5 ((YJ ⟨aa,ab,ad,ae⟩ eC sO).map Zc.enc) true false,.row 5 ((XZ sD ⟨aa,ab,ad,ae⟩ eC).map Zc.enc) true false]):=by
 have e1:=U2 aa ab ad ae eC;rw[Kh hl] at e1;have e2:=Za7 sD aa ab ad ae eC (by have:=hv.2.2.1.1;simp only at this;omega) (Zkd hv.2.2.1) (fun x hx=>by have:=(XK hv.2.2.1 x hx).2;have:=hl.2;simp only at this;unfold R64;omega);unfold tkV at e2;rw[Ki hk] at e2;have e3:=Zb9 sO aa ab ad ae eC (by have:=hv.2.1.1;simp only at this;omega) (fun x hx=>by have:=(XK hv.2.1 x hx).2;have:=hl.2;simp only at this;unfold R64;omega);have af:=ZeL hl;have h6:=hv.2.2.2;simp only at af h6;have u0:=wi (eC*aa) (by omega) (by omega);have u1:=wi (eC*aa*ab) (by omega) (by omega);have u2:=wi (sL+eC*aa*ab) (by omega) (by omega)
 refine cE ?_;simp +contextual -implicitDefEqProofs (maxSteps:=10^7) only[go_sem,seval,↓gZ,WX,e1,e2,e3,u0,u1,u2]
theorem Zmz (sS:List Zb) (sO sD:List Zc) (sL sC:Int) (eK eL eX eY eW eH aa ab:Int) (ad:Bool) (ae eC eo ea ep:Int) (et:Bool) (ek:List Zf) (hn:Qv 0 sS eL<0):Ze Xs Ms Vm [.ptr 0 0,(.d (.agg [J eK,J eL,J eX,J eY,J eW,J eH,J aa,J ab,.bool ad,J ae,J eC,J eo,J ea,J ep,.bool et,.sl (ek.map Zf.enc)]))] [.box [.own 1,.own 2,.own 3,(.d (J sL)),(.d (J sC))],.deep 4 4 (sS.map Zb.enc) none,.row 5 (sO.map Zc.enc) true false,.row 5 (sD.map Zc.enc) true false]=some ((.d (.bool false)),[.box [.own 1,.own 2,.own 3,(.d (J sL)),(.d (J sC))],.deep 4 4 (sS.map Zb.enc) none,.row 5 (sO.map Zc.enc) true false,.row 5 (sD.map Zc.enc) true false]):=by
 have e1:=Zg0 sS eL (fun h=>by omega);refine cE ?_;simp +contextual -implicitDefEqProofs (maxSteps:=10^7) only[go_sem,seval,↓gZ,Zan,e1]
theorem Zln (sS:List Zb) (sO sD:List Zc) (sL sC:Int) (eK eL eX eY eW eH aa ab:Int) (ad:Bool) (ae eC eo ea ep:Int) (et:Bool) (ek:List Zf) (hv:ZS (Zq.mk sS sO sD sL sC)) (a:Nat) (ha:Qv 0 sS eL=(a:Int)) (xL xW xH:Int) (xF:List Box) (hx:sS[a]?=some (Zb.mk xL xW xH xF)):Ze Xs Ms Vm [.ptr 0 0,(.d (.agg [J eK,J eL,J eX,J eY,J eW,J eH,J aa,J ab,.bool ad,J ae,J eC,J eo,J ea,J ep,.bool et,.sl (ek.map Zf.enc)]))] [.box [.own 1,.own 2,.own 3,(.d (J sL)),(.d (J sC))],.deep 4 4 (sS.map Zb.enc) none,.row 5 (sO.map Zc.enc) true false,.row 5 (sD.map Zc.enc) true false] =
  some ((.d (.bool true)),[.box [.own 4,.own 2,.own 3,(.d (J (sL+xW*xH))),(.d (J sC))],.deep 4 4 (sS.map Zb.enc) none,.row 5 (sO.map Zc.enc) true false,.row 5 (sD.map Zc.enc) true false,.row 4 ((sS.eraseIdx a).map Zb.enc) true false]):=by
 have e1:=Zgb sS eL hv.1 a ha xL xW xH xF hx;have af:=(Ql hv.1.2 _ (Kc hx)).1;simp only at af;have h6:=hv.2.2.2;simp only at h6;have hb:VB ⟨0,0,xW,xH⟩:=by simp only[VB];omega
 have h3:=Zb5 hb;simp only at h3;have u0:=wi (xW*xH) (by omega) (by omega);have u1:=wi (sL+xW*xH) (by omega) (by omega);refine cE ?_;simp +contextual -implicitDefEqProofs (maxSteps:=10^7) only[go_sem,seval,↓gZ,Zan,e1,u0,u1]
theorem Zvy (kW kH:Int) (kP:List Pane) (p:Zf) (hv:Vx (ZF.mk kW kH kP) p=true):Ze Xs Ms Zc0 [(.d (.agg [J kW,J kH,.sl (kP.map Pane.enc)])),.d p.enc] []=some (.own 0,[.row 1 ((Zdv (ZF.mk kW kH kP) p).map Ys) true false]):=by
 have ev:=JR kW kH kP p;rw[hv] at ev;have e:=ZdT kW kH kP p;obtain⟨b,hb,ai,ae,aj,aa,ab⟩:=Xq hv;simp only at aa ab;have af:=ZcV (x:=0) (y:=0) aa;have an:kP.length≤24:=ae.2.2.2.2.1;have ak:(plc b 0 0 kW kH).length≤255:=by
  have:=Kl Xx (QH (ZF.mk kW kH kP) p);rw[ab,JH,V6] at this;omega
 unfold Zdv;rw[ab,V6] at e ⊢;generalize plc b 0 0 kW kH=L at e af ak ⊢;have al:(kP.length:Int)*((8:Nat):Int)≤((140737488355328:Nat):Int)∧kP.length≤140737488355328:=by omega
 have ad:(kP.length:Int)*8≤140737488355328∧(kP.length:Int)≤140737488355328:=by omega
 clear hv hb ai ae ab aa;obtain⟨o,a,q,t,ks⟩:=p;rw[Zf.enc_mk] at e ev ⊢;refine cE ?_;simp +contextual -implicitDefEqProofs (maxSteps:=10^7) only[go_sem,seval,↓gZ,Zi3,ev,e,rep_int,al,ad];refine LO (α:=Nat×List Int) (fun s=>[(20,.d (J (s.1:Int)))]) (fun s=>[(1,.row 1 (s.2.map Ys) true false)]) (fun s=>s.1≤L.length∧s.2.length=kP.length∧(∀ v∈s.2,0≤v∧v≤s.1)∧Zaw s.2 (L.drop s.1)=Zaw (List.replicate kP.length 0) L) (fun s=>L.length-s.1) (0,List.replicate kP.length 0) ⟨by simp,by simp,fun w hw=>by rw[LE hw];omega,by simp⟩ ?_;intro⟨i,u⟩ ⟨hi,hul,huv,hp⟩ ih;simp only at hi hul huv hp
 by_cases ag:i<L.length
 ·obtain⟨x,hx⟩:=Zr ag;have hw:=Zj (k:=i) (by omega);obtain⟨n,hn,am⟩:=af x (Kc hx);rw[Zpf hx,hn] at hp;obtain⟨q',t',⟨X,Y,W,H⟩⟩:=x;simp only at hn;subst hn;have ah:n<u.length:=by omega
  obtain⟨z,hz⟩:=Zr ah;have ao:=huv z (Kc hz);have u1:=wi (z+1) (by omega) (by omega);rw[KD,hz] at hp;simp +contextual -implicitDefEqProofs (maxSteps:=10^7) only[go_sem,seval,↓gZ,hx,ag,hw,am,ah,hz,u1,Znu,hul];refine ih (i+1,u.set n (z+1)) _ ⟨by simp only;omega,by simpa using hul,fun v hv=>?_,hp⟩ (by simp only;omega) ?_
  ·simp only;rcases List.mem_or_eq_of_mem_set hv with h1 | rfl
   ·have:=huv v h1;omega
   ·omega
  ·simp +contextual -implicitDefEqProofs (maxSteps:=10^7) only[go_sem,seval,↓gZ,List.headD_cons,Znu]
 ·have:i=L.length:=by omega
  subst this;rw[Zsr] at hp;simp +contextual -implicitDefEqProofs (maxSteps:=10^7) only[go_sem,seval,↓gZ,hp]
theorem ZeR:∀ (b:BT) (x y w h:Int),Zi0 b=false↔plc b x y w h=[]
 | .waste,x,y,w,h=>by simp[Zi0,plc]
 | .pane i t,x,y,w,h=>by simp[Zi0,plc]
 | .cut d a l r,x,y,w,h=>by
  cases d
  ·simp only[Zi0,plc,Abs.LT,Ka,Ko,LL,ZeR l x y w a,ZeR r x (y+a) w (h-a)]
  ·simp only[Zi0,plc,Abs.LT,Km,LL,ZeR l x y a h,ZeR r (x+a) y (w-a) h]
theorem Zpq:∀ (l:List L.Place) (u:List Int) (i:Nat) (v:Int),u[i]?=some v→∃ z,(Zaw u l)[i]?=some z∧v≤z
 | [],u,i,v,h=>⟨v,h,Int.le_refl _⟩
 | x :: l,u,i,v,h=>by
  rw[Zaw];by_cases hi:x.Pane.toNat=i
  ·obtain⟨z,h1,h2⟩:=Zpq l (u.set x.Pane.toNat (u[x.Pane.toNat]?.getD 0+1)) i (v+1) (by
    rw[hi,h,LC];have:=(Kb.1 h).1;simp[this])
   exact⟨z,h1,by omega⟩
  ·obtain⟨z,h1,h2⟩:=Zpq l (u.set x.Pane.toNat (u[x.Pane.toNat]?.getD 0+1)) i v (by
    rw[List.getElem?_set_ne hi,h])
   exact⟨z,h1,h2⟩
theorem Zy5 {l:List L.Place} {u:List Int} (hl:l≠[]) (hu:∀ v∈u,0≤v) (hn:∀ c∈l,∃ n:Nat,c.Pane=(n:Int)∧n<u.length):∃ v∈Zaw u l,v≠0:=by
 cases l with
 | nil=>exact absurd rfl hl
 | cons x l=>
  obtain⟨n,h1,h2⟩:=hn x (by simp);obtain⟨v,hv⟩:=Zr h2;have h0:=hu v (Kc hv);rw[Zaw,h1,KD,hv];obtain⟨z,h3,h4⟩:=Zpq l (u.set n (v+1)) n (v+1) (by rw[LC];simp[h2]);refine⟨z,Kc (by simpa using h3),by omega⟩
theorem Zy6 {k:ZF} {p:Zf} (hv:Vx k p=true) (hp:Zqy p=true):∃ v∈Zdv k p,v≠0:=by
 obtain⟨b,hb,ae,af,ab,aa,ad⟩:=Xq hv;unfold Zqy at hp;rw[hb] at hp;simp only at hp;unfold Zdv;rw[ad,V6];refine Zy5 (fun h=>?_) (fun v hv=>by rw[LE hv];omega) (fun c hc=>?_)
 ·rw[(ZeR b _ _ _ _).2 h] at hp;cases hp
 ·obtain⟨n,h1,h2⟩:=ZcV aa c hc;exact⟨n,h1,by simpa using h2⟩
theorem Zw2 {k:ZF} {p:Zf} (hv:Vx k p=true):(((QH k p).filterMap Xx).length=0)↔Zqy p=false:=by
 obtain⟨b,hb,ae,af,aa,ab,ad⟩:=Xq hv;unfold Zqy;rw[hb,ad,V6,List.length_eq_zero_iff];exact(ZeR b _ _ _ _).symm
def cpV (S:List Zb) (O D:List Zc) (L C:Int):Option Zq→AV×List Zl
 | some t=>((.d (.bool true)),[.box [.own 4,.own 5,.own 6,(.d (J (t.Lost))),(.d (J (t.Came)))],.deep 4 4 (S.map Zb.enc) none,.row 5 (O.map Zc.enc) true false,.row 5 (D.map Zc.enc) true false,.row 4 (t.Stock.map Zb.enc) true false,.row 5 (t.Opn.map Zc.enc) true false,.row 5 (t.Done.map Zc.enc) true false])
 | none=>((.d (.bool false)),[.box [.own 1,.own 2,.own 3,(.d (J L)),(.d (J C))],.deep 4 4 (S.map Zb.enc) none,.row 5 (O.map Zc.enc) true false,.row 5 (D.map Zc.enc) true false])
theorem ZqE (sS:List Zb) (sO sD:List Zc) (sL sC:Int) (eK eL eX eY eW eH ah ai:Int) (aj:Bool) (ak eC eo ea ep:Int) (et:Bool) (ek:List Zf) (hv:ZS (Zq.mk sS sO sD sL sC)):Ze Xs Ms J5 [.ptr 0 0,(.d (.agg [J eK,J eL,J eX,J eY,J eW,J eH,J ah,J ai,.bool aj,J ak,J eC,J eo,J ea,J ep,.bool et,.sl (ek.map Zf.enc)]))] [.box [.own 1,.own 2,.own 3,(.d (J sL)),(.d (J sC))],.deep 4 4 (sS.map Zb.enc) none,.row 5 (sO.map Zc.enc) true false,.row 5 (sD.map Zc.enc) true false]=some (cpV sS sO sD sL sC (ZeM (Zq.mk sS sO sD sL sC) (Zz.mk eK eL (Box.mk eX eY eW eH) (Zc.mk (Pane.mk ah ai aj ak) eC) (Zf.mk eo ea ep et ek)))):=by
 obtain⟨⟨h1,h2,h3,h4⟩,h5,h6,h7,h8,h9⟩:=Zle hv;simp only at h1 h2 h3 h4 h5 h6 h7 h8 h9;have hO:=hv.2.1;have hD:=hv.2.2.1;simp only at hO hD;have az:=hO.1;have a4:=hD.1;have e1:=ZtE sS sO sD sL sC eL;unfold ZAo at e1;rw[Ki hv] at e1;by_cases hf:Qv 0 sS eL<0
 ·have ec:ZeM (Zq.mk sS sO sD sL sC) (Zz.mk eK eL (Box.mk eX eY eW eH) (Zc.mk (Pane.mk ah ai aj ak) eC) (Zf.mk eo ea ep et ek))=none:=by
   unfold ZeM;simp only;split
   ·rfl
   ·rw[Zsv hf]
  rw[ec];simp only[ZeN hf] at e1;unfold wkV at e1;simp only at e1;unfold cpV;refine cE ?_;simp +contextual -implicitDefEqProofs (maxSteps:=10^7) only[go_sem,seval,↓gZ,Ui,e1]
 ·obtain⟨a,x,ha,hx⟩:=Zbk (by omega:0≤Qv 0 sS eL);simp only[ZeO ha hx] at e1;unfold wkV at e1;simp only at e1;have e3:=Zqt sS eL x.W x.H (sO.map Zc.Pane) (.mk eo ea ep et ek) 5;have aw:ZeM (Zq.mk sS sO sD sL sC) (Zz.mk eK eL (Box.mk eX eY eW eH) (Zc.mk (Pane.mk ah ai aj ak) eC) (Zf.mk eo ea ep et ek))=match ZcT sS eL ⟨x.W,x.H,sO.map Zc.Pane⟩ (.mk eo ea ep et ek) 5 with
   | none=>none
   | some R=>if Zqy (.mk eo ea ep et ek)=true then
     match UH (sO.map Zc.Pane) (Zdv ⟨x.W,x.H,sO.map Zc.Pane⟩ (.mk eo ea ep et ek)) sO sD with
     | none=>none
     | some (o,d)=>some ⟨R,o,d,sL+X4 (Zez ⟨x.W,x.H,sO.map Zc.Pane⟩ (.mk eo ea ep et ek) 5),sC⟩
    else none:=by
   unfold ZeM;simp only[ha,KD,hx];try rfl
  rw[aw];clear aw;obtain⟨xL,xW,xH,xF⟩:=x;simp only at e1 e3 ⊢;cases hcs:ZcT sS eL ⟨xW,xH,sO.map Zc.Pane⟩ (.mk eo ea ep et ek) 5 with
  | none=>
   rw[hcs] at e3;unfold Zgi at e3;simp only;unfold cpV;rw[Zf.enc_mk] at e3;refine cE ?_;simp +contextual -implicitDefEqProofs (maxSteps:=10^7) only[go_sem,seval,↓gZ,Ui,e1,e3]
  | some R=>
   obtain⟨ab,a5,_⟩:=Zpg hcs;rw[hcs] at e3;unfold Zgi at e3;simp only;have e4:=ZdT xW xH (sO.map Zc.Pane) (.mk eo ea ep et ek);have ad:=Zw2 ab;have e5:=Zqr xW xH (sO.map Zc.Pane) (.mk eo ea ep et ek) 5 ab (by omega) (by omega);have e6:=Zvy xW xH (sO.map Zc.Pane) (.mk eo ea ep et ek) ab;have hu:=Zmd ab;obtain⟨b,hb,a6,a7,aq,a0,a1⟩:=Xq ab;have a2:=ZgF (l:=Zez ⟨xW,xH,sO.map Zc.Pane⟩ (.mk eo ea ep et ek) 5) (fun c hc=>by
    obtain⟨z,hz,al⟩:=Lg.1 hc;unfold Jh at al;split at al
    ·cases al;exact ZeA ab c hz
    ·cases al)
   have a8:(Zez ⟨xW,xH,sO.map Zc.Pane⟩ (.mk eo ea ep et ek) 5).length≤255:=by
    refine Kx (Kl _ _) (Kx (Kl _ _) ?_);rw[a1,JH];exact aq
   have ax:=Zy6 ab;generalize X4 (Zez ⟨xW,xH,sO.map Zc.Pane⟩ (.mk eo ea ep et ek) 5)=A at e5 a2 ⊢;generalize Zdv ⟨xW,xH,sO.map Zc.Pane⟩ (.mk eo ea ep et ek)=us at e6 hu ax ⊢;generalize (QH ⟨xW,xH,sO.map Zc.Pane⟩ (.mk eo ea ep et ek)).filterMap Xx=pl at e4 ad;rw[Zf.enc_mk] at e3 e4 e5 e6;simp only[KL] at hu;have u1:=wi (sL+A) (by omega) (by omega);cases hhb:Zqy (.mk eo ea ep et ek) with
   | false=>
    have ar:((pl.length:Int)=0):=by have:=ad.2 hhb;omega
    rw[Kd (by simp)];unfold cpV;refine cE ?_;simp +contextual -implicitDefEqProofs (maxSteps:=10^7) only[go_sem,seval,↓gZ,Ui,e1,e3,e4,ar]
   | true=>
    have ar:¬((pl.length:Int)=0):=fun h=>by
     have h1:pl.length=0:=by omega
     rw[ad.1 h1] at hhb;cases hhb
    obtain⟨vz,a3,au⟩:=ax hhb;rw[Ki rfl];refine cE ?_;simp +contextual -implicitDefEqProofs (maxSteps:=10^7) only[go_sem,seval,↓gZ,Ui,e1,e3,e4,e6,ar];refine LO (α:=Nat) (fun s=>[(65,.d (J (s:Int)))]) (fun _=>[]) (fun i=>i≤us.length∧UH ((sO.map Zc.Pane).drop i) (us.drop i) sO sD=UH (sO.map Zc.Pane) us sO sD∧∀ v∈us.take i,v=0) (fun i=>us.length-i) 0 ⟨by omega,rfl,by simp⟩ ?_;intro i ⟨hi,hp,av⟩ ih;by_cases am:i<us.length
    ·obtain⟨c,hc⟩:=Zr am;have an:i<sO.length:=by omega
     obtain⟨y,hy⟩:=Zr an;have hw:=Zj (k:=i) (by omega);have ae:=hu.2 c (Kc hc);have af:(sO.map Zc.Pane)[i]?=some y.Pane:=by rw[KS,hy];rfl
     rw[Zi1 af hc] at hp;obtain⟨⟨W,H,T,K⟩,C⟩:=y;simp only at hp af;by_cases aa:c=0
     ·rw[Ki aa] at hp;simp +contextual -implicitDefEqProofs (maxSteps:=10^7) only[go_sem,seval,↓gZ,am,an,hy,hc,aa,hw];refine ih (i+1) _ ⟨by omega,hp,fun v hv=>?_⟩ (by omega) ?_
      ·rw[KU,hc,Kg] at hv;rcases hv with hv | hv
       ·exact av v hv
       ·simp at hv;omega
      ·simp +contextual -implicitDefEqProofs (maxSteps:=10^7) only[go_sem,seval,↓gZ]
     ·rw[Kd aa] at hp;have et:=Za7 sO W H T K c (by omega) (Zkd hO) (fun x hx=>by have:=(XK hO x hx).2;unfold R64;omega);have ea:=Zb9 sD W H T K c (by omega) (fun x hx=>by have:=(XK hD x hx).2;unfold R64;omega);unfold tkV at et;by_cases ag:Xl ⟨W,H,T,K⟩ c false sO=true
      ·rw[Ki ag] at hp et;simp +contextual -implicitDefEqProofs (maxSteps:=10^7) only[go_sem,seval,↓gZ,am,an,hy,hc,aa,hw,et,ea];refine Ze9 Xs Ms (st0:=?st1) (α:=Nat×List Zc×List Zc) (fun s=>[(65,.d (J (s.1:Int)))]) (fun s=>[(4,.row 5 (s.2.2.map Zc.enc) true false),(5,.row 5 (s.2.1.map Zc.enc) true false)]) (fun s=>s.1≤us.length∧UH ((sO.map Zc.Pane).drop s.1) (us.drop s.1) s.2.1 s.2.2=UH (sO.map Zc.Pane) us sO sD∧s.2.1.length≤8∧s.2.2.length≤8+s.1∧UL s.2.1∧UL s.2.2∧(∀ x∈s.2.1,0≤x.Count∧x.Count≤24)∧(∀ x∈s.2.2,0≤x.Count∧x.Count≤24+255*s.1)) (fun s=>us.length-s.1) (i+1,XZ sO ⟨W,H,T,K⟩ c,YJ ⟨W,H,T,K⟩ c sD) ?hc2 ⟨by simp only;omega,hp,Kx (Kl _ _) az,Kx (ZcU _ _ _) (by simp only;omega),Zvw (Zkd hO),ZxR (Zkd hD) (by omega),Zlf ae.1 (fun x hx=>(XK hO x hx).2.2),fun x hx=>by
        have:=Zka (hi:=24) ae.1 (by omega) (fun x hx=>by have:=(XK hD x hx).2;omega) x hx;simp only;omega⟩ ?h02 ?step2
       case hc2=>simp +contextual -implicitDefEqProofs (maxSteps:=10^7) only[go_sem,seval,↓gZ]<;>exact rfl
       case h02=>rfl
       case step2=>
        intro⟨j,o,d⟩ ⟨hj,hp,ho8,hd8,uo,ud,hoc,hdc⟩ ih;simp only at hj hp ho8 hd8 uo ud hoc hdc;by_cases ao:j<us.length
        ·obtain⟨c,hc⟩:=Zr ao;have ap:j<sO.length:=by omega
         obtain⟨y,hy⟩:=Zr ap;have hw:=Zj (k:=j) (by omega);have ae:=hu.2 c (Kc hc);have af:(sO.map Zc.Pane)[j]?=some y.Pane:=by rw[KS,hy];rfl
         rw[Zi1 af hc] at hp;obtain⟨⟨W,H,T,K⟩,C⟩:=y;simp only at hp af;by_cases aa:c=0
         ·rw[Ki aa] at hp;simp +contextual -implicitDefEqProofs (maxSteps:=10^7) only[go_sem,seval,↓gZ,ao,ap,hy,hc,aa,hw];refine ih (j+1,o,d) _ ⟨by simp only;omega,hp,ho8,by simp only;omega,uo,ud,hoc,fun x hx=>by have:=hdc x hx;simp only;omega⟩ (by simp only;omega) ?_;simp +contextual -implicitDefEqProofs (maxSteps:=10^7) only[go_sem,seval,↓gZ]
         ·rw[Kd aa] at hp;have et:=Za7 o W H T K c (by omega) uo (fun x hx=>by have:=hoc x hx;unfold R64;omega);have ea:=Zb9 d W H T K c (by omega) (fun x hx=>by have:=hdc x hx;unfold R64;omega);unfold tkV at et;by_cases ag:Xl ⟨W,H,T,K⟩ c false o=true
          ·rw[Ki ag] at hp et;simp +contextual -implicitDefEqProofs (maxSteps:=10^7) only[go_sem,seval,↓gZ,ao,ap,hy,hc,aa,hw,et,ea];refine ih (j+1,XZ o ⟨W,H,T,K⟩ c,YJ ⟨W,H,T,K⟩ c d) _ ⟨by simp only;omega,hp,Kx (Kl _ _) ho8,Kx (ZcU _ _ _) (by simp only;omega),Zvw uo,ZxR ud (by omega),Zlf ae.1 (fun x hx=>(hoc x hx).2),fun x hx=>?_⟩ (by simp only;omega) ?_
           ·have:=Zka ae.1 (by omega) hdc x hx;simp only;omega
           ·simp +contextual -implicitDefEqProofs (maxSteps:=10^7) only[go_sem,seval,↓gZ]
          ·rw[Kd ag] at hp et;simp +contextual -implicitDefEqProofs (maxSteps:=10^7) only[go_sem,seval,↓gZ,ao,ap,hy,hc,aa,hw,et];rw[← hp];rfl
        ·have:j=sO.length:=by omega
         subst this;have ay:=@Zsu (sO.map Zc.Pane) (us.drop sO.length) o d;rw[KL] at ay;rw[ay] at hp;rw[← hp];unfold cpV;simp +contextual -implicitDefEqProofs (maxSteps:=10^7) only[go_sem,seval,↓gZ,e5,u1]
      ·rw[Kd ag] at hp et;simp +contextual -implicitDefEqProofs (maxSteps:=10^7) only[go_sem,seval,↓gZ,am,an,hy,hc,aa,hw,et];rw[← hp];rfl
    ·have:us.take i=us:=KH (by omega);rw[this] at av;exact absurd (av vz a3) au
theorem Zsz {q x:Zb}:∀ {l:List Zb} {b:Int} {a:Nat},Xw b l→l[a]?=some x→q.Label=x.Label→Qz q (l.eraseIdx a)=l.set a q
 | [],b,a,_,h,_=>by simp at h
 | y :: l,b,0,hs,h,e=>by
  simp only[Lk,Option.some.injEq] at h;subst h;simp only[List.eraseIdx_cons_zero,List.set_cons_zero];cases l with
  | nil=>rfl
  | cons z l=>
   have:=hs.2.2.2.1;unfold Qz;rw[Ki (by omega)]
 | y :: l,b,a+1,hs,h,e=>by
  simp only[Ll] at h;have ih:=Zsz hs.2.2 h e;have:=ZhS hs.2.2 x (Kc h);simp only[List.eraseIdx_cons_succ,List.set_cons_succ];unfold Qz;rw[Kd (by omega),ih]
theorem Zy7 {s:Zq} {e:Zz} {a:Nat} {q:Zb} (hv:ZS s) (hk:e.kind=1) (ha:Qv 0 s.Stock e.label=(a:Int)) (hx:s.Stock[a]?=some q) :
  QZ s e=Y3 (some { s with Stock:=s.Stock.set a { q with Flaws:=q.Flaws++[e.box] } }):=by
 have h1:=Zsz (q := { q with Flaws:=q.Flaws++[e.box] }) hv.1.2 hx rfl;have h2:Xw 0 (s.Stock.eraseIdx a):=Zg1 a hv.1.2;unfold QZ evS;rw[Kd (by omega),Ki hk];simp only[ZeO ha hx];by_cases hr:WB { q with Flaws:=q.Flaws++[e.box] } (s.Stock.eraseIdx a)
 ·rw[Ki hr,h1]
 ·rw[Kd hr];unfold Y3;simp only;rw[Kd];intro hs;refine hr ⟨⟨⟨?_,h2⟩,?_⟩,?_⟩
  ·have:=hv.1.1;rw[List.length_eraseIdx];split<;>omega
  ·exact Ql hs.1.2 _ (Kc (i:=a) (by rw[LC];simp[(Kb.1 hx).1]))
  ·rw[h1];exact hs.1
theorem ZmA (sS:List Zb) (sO sD:List Zc) (sL sC:Int) (eK eL eX eY eW eH aa ab:Int) (ad:Bool) (ae eC eo ea ep:Int) (et:Bool) (ek:List Zf) (hv:ZS (Zq.mk sS sO sD sL sC)) (h0:eK=0) (ha:WB ⟨eL,eW,eH,[]⟩ sS) (hx:eX=0) (hy:eY=0):Ze Xs Ms ZD [.ptr 0 0,(.d (.agg [J eK,J eL,J eX,J eY,J eW,J eH,J aa,J ab,.bool ad,J ae,J eC,J eo,J ea,J ep,.bool et,.sl (ek.map Zf.enc)]))] [.box [.own 1,.own 2,.own 3,(.d (J sL)),(.d (J sC))],.deep 4 4 (sS.map Zb.enc) none,.row 5 (sO.map Zc.enc) true false,.row 5 (sD.map Zc.enc) true false]=some ((.d (.bool true)),[.box [.own 4,.own 2,.own 3,(.d (J sL)),(.d (J (sC+eW*eH)))],.deep 4 4 (sS.map Zb.enc) none,.row 5 (sO.map Zc.enc) true false,.row 5 (sD.map Zc.enc) true false,.row 4 ((Qz ⟨eL,eW,eH,[]⟩ sS).map Zb.enc) true false]):=by
 have e1:=Zpp sS sO sD sL sC eK eL eX eY eW eH aa ab ad ae eC eo ea ep et ek hv ha hx hy;subst h0;generalize Qz ⟨eL,eW,eH,[]⟩ sS=Q at *;refine cE ?_;simp +contextual -implicitDefEqProofs (maxSteps:=10^7) only[go_sem,seval,↓gZ,Z4,e1]
theorem ZmB (sS:List Zb) (sO sD:List Zc) (sL sC:Int) (eK eL eX eY eW eH aa ab:Int) (ad:Bool) (ae eC eo ea ep:Int) (et:Bool) (ek:List Zf) (hv:ZS (Zq.mk sS sO sD sL sC)) (h0:eK=0) (hl:sS.length≤100000) (hn:¬((WB ⟨eL,eW,eH,[]⟩ sS∧eX=0)∧eY=0)):Ze Xs Ms ZD [.ptr 0 0,(.d (.agg [J eK,J eL,J eX,J eY,J eW,J eH,J aa,J ab,.bool ad,J ae,J eC,J eo,J ea,J ep,.bool et,.sl (ek.map Zf.enc)]))] [.box [.own 1,.own 2,.own 3,(.d (J sL)),(.d (J sC))],.deep 4 4 (sS.map Zb.enc) none,.row 5 (sO.map Zc.enc) true false,.row 5 (sD.map Zc.enc) true false]=some ((.d (.bool false)),[.box [.own 1,.own 2,.own 3,(.d (J sL)),(.d (J sC))],.deep 4 4 (sS.map Zb.enc) none,.row 5 (sO.map Zc.enc) true false,.row 5 (sD.map Zc.enc) true false]):=by
 have e1:=ZqC sS sO sD sL sC eK eL eX eY eW eH aa ab ad ae eC eo ea ep et ek hl hn;subst h0;refine cE ?_;simp +contextual -implicitDefEqProofs (maxSteps:=10^7) only[go_sem,seval,↓gZ,Z4,e1]
theorem ZmC (sS:List Zb) (sO sD:List Zc) (sL sC:Int) (eK eL eX eY eW eH aa ab:Int) (ad:Bool) (ae eC eo ea ep:Int) (et:Bool) (ek:List Zf) (hv:ZS (Zq.mk sS sO sD sL sC)) (h0:eK=1) (hl:sS.length≤100000) (a:Nat) (ha:Qv 0 sS eL=(a:Int)) (xL xW xH:Int) (xF:List Box) (hx:sS[a]?=some (Zb.mk xL xW xH xF)) (hF:xF.length≤1000):Ze Xs Ms ZD [.ptr 0 0,(.d (.agg [J eK,J eL,J eX,J eY,J eW,J eH,J aa,J ab,.bool ad,J ae,J eC,J eo,J ea,J ep,.bool et,.sl (ek.map Zf.enc)]))] [.box [.own 1,.own 2,.own 3,(.d (J sL)),(.d (J sC))],.deep 4 4 (sS.map Zb.enc) none,.row 5 (sO.map Zc.enc) true false,.row 5 (sD.map Zc.enc) true false]=some ((.d (.bool true)),[.box [.own 1,.own 2,.own 3,(.d (J sL)),(.d (J sC))],.row 4 ((sS.set a ⟨xL,xW,xH,xF++[⟨eX,eY,eW,eH⟩]⟩).map Zb.enc) true false,.row 5 (sO.map Zc.enc) true false,.row 5 (sD.map Zc.enc) true false]):=by
 have e1:=ZqD sS sO sD sL sC eK eL eX eY eW eH aa ab ad ae eC eo ea ep et ek hl a ha xL xW xH xF hx hF;subst h0;generalize sS.set a ⟨xL,xW,xH,xF++[⟨eX,eY,eW,eH⟩]⟩=Q at *;refine cE ?_;simp +contextual -implicitDefEqProofs (maxSteps:=10^7) only[go_sem,seval,↓gZ,Z4,e1]
theorem ZmD (sS:List Zb) (sO sD:List Zc) (sL sC:Int) (eK eL eX eY eW eH aa ab:Int) (ad:Bool) (ae eC eo ea ep:Int) (et:Bool) (ek:List Zf) (hv:ZS (Zq.mk sS sO sD sL sC)) (h0:eK=1) (hl:sS.length≤100000) (hn:Qv 0 sS eL<0):Ze Xs Ms ZD [.ptr 0 0,(.d (.agg [J eK,J eL,J eX,J eY,J eW,J eH,J aa,J ab,.bool ad,J ae,J eC,J eo,J ea,J ep,.bool et,.sl (ek.map Zf.enc)]))] [.box [.own 1,.own 2,.own 3,(.d (J sL)),(.d (J sC))],.deep 4 4 (sS.map Zb.enc) none,.row 5 (sO.map Zc.enc) true false,.row 5 (sD.map Zc.enc) true false]=some ((.d (.bool false)),[.box [.own 1,.own 2,.own 3,(.d (J sL)),(.d (J sC))],.deep 4 4 (sS.map Zb.enc) none,.row 5 (sO.map Zc.enc) true false,.row 5 (sD.map Zc.enc) true false]):=by
 have e1:=ZtF sS sO sD sL sC eK eL eX eY eW eH aa ab ad ae eC eo ea ep et ek hl hn;subst h0;refine cE ?_;simp +contextual -implicitDefEqProofs (maxSteps:=10^7) only[go_sem,seval,↓gZ,Z4,e1]
theorem ZmE (sS:List Zb) (sO sD:List Zc) (sL sC:Int) (eK eL eX eY eW eH aa ab:Int) (ad:Bool) (ae eC eo ea ep:Int) (et:Bool) (ek:List Zf) (hv:ZS (Zq.mk sS sO sD sL sC)) (h0:eK=2) (hn:Wy ⟨⟨aa,ab,ad,ae⟩,eC⟩):Ze Xs Ms ZD [.ptr 0 0,(.d (.agg [J eK,J eL,J eX,J eY,J eW,J eH,J aa,J ab,.bool ad,J ae,J eC,J eo,J ea,J ep,.bool et,.sl (ek.map Zf.enc)]))] [.box [.own 1,.own 2,.own 3,(.d (J sL)),(.d (J sC))],.deep 4 4 (sS.map Zb.enc) none,.row 5 (sO.map Zc.enc) true false,.row 5 (sD.map Zc.enc) true false]=some ((.d (.bool true)),[.box [.own 1,.own 4,.own 3,(.d (J sL)),(.d (J sC))],.deep 4 4 (sS.map Zb.enc) none,.row 5 (sO.map Zc.enc) true false,.row 5 (sD.map Zc.enc) true false,.row 5 ((YJ ⟨aa,ab,ad,ae⟩ eC sO).map Zc.enc) true false]):=by
 have e1:=Zll sS sO sD sL sC eK eL eX eY eW eH aa ab ad ae eC eo ea ep et ek hv hn;subst h0;generalize YJ ⟨aa,ab,ad,ae⟩ eC sO=Q at *;refine cE ?_;simp +contextual -implicitDefEqProofs (maxSteps:=10^7) only[go_sem,seval,↓gZ,Z4,e1]
theorem ZmF (sS:List Zb) (sO sD:List Zc) (sL sC:Int) (eK eL eX eY eW eH aa ab:Int) (ad:Bool) (ae eC eo ea ep:Int) (et:Bool) (ek:List Zf) (hv:ZS (Zq.mk sS sO sD sL sC)) (h0:eK=2) (hn:¬Wy ⟨⟨aa,ab,ad,ae⟩,eC⟩):Ze Xs Ms ZD [.ptr 0 0,(.d (.agg [J eK,J eL,J eX,J eY,J eW,J eH,J aa,J ab,.bool ad,J ae,J eC,J eo,J ea,J ep,.bool et,.sl (ek.map Zf.enc)]))] [.box [.own 1,.own 2,.own 3,(.d (J sL)),(.d (J sC))],.deep 4 4 (sS.map Zb.enc) none,.row 5 (sO.map Zc.enc) true false,.row 5 (sD.map Zc.enc) true false]=some ((.d (.bool false)),[.box [.own 1,.own 2,.own 3,(.d (J sL)),(.d (J sC))],.deep 4 4 (sS.map Zb.enc) none,.row 5 (sO.map Zc.enc) true false,.row 5 (sD.map Zc.enc) true false]):=by
 have e1:=Zmx sS sO sD sL sC eK eL eX eY eW eH aa ab ad ae eC eo ea ep et ek hn;subst h0;refine cE ?_;simp +contextual -implicitDefEqProofs (maxSteps:=10^7) only[go_sem,seval,↓gZ,Z4,e1]
theorem ZmG (sS:List Zb) (sO sD:List Zc) (sL sC:Int) (eK eL eX eY eW eH aa ab:Int) (ad:Bool) (ae eC eo ea ep:Int) (et:Bool) (ek:List Zf) (hv:ZS (Zq.mk sS sO sD sL sC)) (h0:eK=4) (hl:Wy ⟨⟨aa,ab,ad,ae⟩,eC⟩) (hk:Xl ⟨aa,ab,ad,ae⟩ eC false sD=true):Ze Xs Ms ZD [.ptr 0 0,(.d (.agg [J eK,J eL,J eX,J eY,J eW,J eH,J aa,J ab,.bool ad,J ae,J eC,J eo,J ea,J ep,.bool et,.sl (ek.map Zf.enc)]))] [.box [.own 1,.own 2,.own 3,(.d (J sL)),(.d (J sC))],.deep 4 4 (sS.map Zb.enc) none,.row 5 (sO.map Zc.enc) true false,.row 5 (sD.map Zc.enc) true false]=some ((.d (.bool true)),[.box [.own 1,.own 4,.own 5,(.d (J (sL+eC*aa*ab))),(.d (J sC))],.deep 4 4 (sS.map Zb.enc) none,.row 5 (sO.map Zc.enc) true false,.row 5 (sD.map Zc.enc) true false,.row 5 ((YJ ⟨aa,ab,ad,ae⟩ eC sO).map Zc.enc) true false,.row 5 ((XZ sD ⟨aa,ab,ad,ae⟩ eC).map Zc.enc) true false]):=by
 have e1:=Zlm sS sO sD sL sC eK eL eX eY eW eH aa ab ad ae eC eo ea ep et ek hv hl hk;subst h0;generalize YJ ⟨aa,ab,ad,ae⟩ eC sO=Q at *;generalize XZ sD ⟨aa,ab,ad,ae⟩ eC=Q2 at *;refine cE ?_;simp +contextual -implicitDefEqProofs (maxSteps:=10^7) only[go_sem,seval,↓gZ,Z4,e1]
theorem ZmH (sS:List Zb) (sO sD:List Zc) (sL sC:Int) (eK eL eX eY eW eH aa ab:Int) (ad:Bool) (ae eC eo ea ep:Int) (et:Bool) (ek:List Zf) (hv:ZS (Zq.mk sS sO sD sL sC)) (h0:eK=4) (hn:¬(Wy ⟨⟨aa,ab,ad,ae⟩,eC⟩∧Xl ⟨aa,ab,ad,ae⟩ eC false sD=true)):Ze Xs Ms ZD [.ptr 0 0,(.d (.agg [J eK,J eL,J eX,J eY,J eW,J eH,J aa,J ab,.bool ad,J ae,J eC,J eo,J ea,J ep,.bool et,.sl (ek.map Zf.enc)]))] [.box [.own 1,.own 2,.own 3,(.d (J sL)),(.d (J sC))],.deep 4 4 (sS.map Zb.enc) none,.row 5 (sO.map Zc.enc) true false,.row 5 (sD.map Zc.enc) true false]=some ((.d (.bool false)),[.box [.own 1,.own 2,.own 3,(.d (J sL)),(.d (J sC))],.deep 4 4 (sS.map Zb.enc) none,.row 5 (sO.map Zc.enc) true false,.row 5 (sD.map Zc.enc) true false]):=by
 have e1:=Zmy sS sO sD sL sC eK eL eX eY eW eH aa ab ad ae eC eo ea ep et ek hv hn;subst h0;refine cE ?_;simp +contextual -implicitDefEqProofs (maxSteps:=10^7) only[go_sem,seval,↓gZ,Z4,e1]
theorem ZmI (sS:List Zb) (sO sD:List Zc) (sL sC:Int) (eK eL eX eY eW eH aa ab:Int) (ad:Bool) (ae eC eo ea ep:Int) (et:Bool) (ek:List Zf) (hv:ZS (Zq.mk sS sO sD sL sC)) (h0:eK=5) (a:Nat) (ha:Qv 0 sS eL=(a:Int)) (xL xW xH:Int) (xF:List Box) (hx:sS[a]?=some (Zb.mk xL xW xH xF)):Ze Xs Ms ZD [.ptr 0 0,(.d (.agg [J eK,J eL,J eX,J eY,J eW,J eH,J aa,J ab,.bool ad,J ae,J eC,J eo,J ea,J ep,.bool et,.sl (ek.map Zf.enc)]))] [.box [.own 1,.own 2,.own 3,(.d (J sL)),(.d (J sC))],.deep 4 4 (sS.map Zb.enc) none,.row 5 (sO.map Zc.enc) true false,.row 5 (sD.map Zc.enc) true false]=some ((.d (.bool true)),[.box [.own 4,.own 2,.own 3,(.d (J (sL+xW*xH))),(.d (J sC))],.deep 4 4 (sS.map Zb.enc) none,.row 5 (sO.map Zc.enc) true false,.row 5 (sD.map Zc.enc) true false,.row 4 ((sS.eraseIdx a).map Zb.enc) true false]):=by
 have e1:=Zln sS sO sD sL sC eK eL eX eY eW eH aa ab ad ae eC eo ea ep et ek hv a ha xL xW xH xF hx;subst h0;generalize sS.eraseIdx a=Q at *;refine cE ?_;simp +contextual -implicitDefEqProofs (maxSteps:=10^7) only[go_sem,seval,↓gZ,Z4,e1]
theorem ZmJ (sS:List Zb) (sO sD:List Zc) (sL sC:Int) (eK eL eX eY eW eH aa ab:Int) (ad:Bool) (ae eC eo ea ep:Int) (et:Bool) (ek:List Zf) (hv:ZS (Zq.mk sS sO sD sL sC)) (h0:eK=5) (hn:Qv 0 sS eL<0):Ze Xs Ms ZD [.ptr 0 0,(.d (.agg [J eK,J eL,J eX,J eY,J eW,J eH,J aa,J ab,.bool ad,J ae,J eC,J eo,J ea,J ep,.bool et,.sl (ek.map Zf.enc)]))] [.box [.own 1,.own 2,.own 3,(.d (J sL)),(.d (J sC))],.deep 4 4 (sS.map Zb.enc) none,.row 5 (sO.map Zc.enc) true false,.row 5 (sD.map Zc.enc) true false]=some ((.d (.bool false)),[.box [.own 1,.own 2,.own 3,(.d (J sL)),(.d (J sC))],.deep 4 4 (sS.map Zb.enc) none,.row 5 (sO.map Zc.enc) true false,.row 5 (sD.map Zc.enc) true false]):=by
 have e1:=Zmz sS sO sD sL sC eK eL eX eY eW eH aa ab ad ae eC eo ea ep et ek hn;subst h0;refine cE ?_;simp +contextual -implicitDefEqProofs (maxSteps:=10^7) only[go_sem,seval,↓gZ,Z4,e1]
theorem Zpr (sS:List Zb) (sO sD:List Zc) (sL sC:Int) (eK eL eX eY eW eH aa ab:Int) (ad:Bool) (ae eC eo ea ep:Int) (et:Bool) (ek:List Zf) (hv:ZS (Zq.mk sS sO sD sL sC)) (h0:eK=3):Ze Xs Ms ZD [.ptr 0 0,(.d (.agg [J eK,J eL,J eX,J eY,J eW,J eH,J aa,J ab,.bool ad,J ae,J eC,J eo,J ea,J ep,.bool et,.sl (ek.map Zf.enc)]))] [.box [.own 1,.own 2,.own 3,(.d (J sL)),(.d (J sC))],.deep 4 4 (sS.map Zb.enc) none,.row 5 (sO.map Zc.enc) true false,.row 5 (sD.map Zc.enc) true false]=some (cpV sS sO sD sL sC (ZeM (Zq.mk sS sO sD sL sC) (Zz.mk eK eL (Box.mk eX eY eW eH) (Zc.mk (Pane.mk aa ab ad ae) eC) (Zf.mk eo ea ep et ek)))):=by
 have e1:=ZqE sS sO sD sL sC eK eL eX eY eW eH aa ab ad ae eC eo ea ep et ek hv;subst h0;generalize ZeM (Zq.mk sS sO sD sL sC) (Zz.mk 3 eL (Box.mk eX eY eW eH) (Zc.mk (Pane.mk aa ab ad ae) eC) (Zf.mk eo ea ep et ek))=t at *;cases t with
 | none=>
  unfold cpV at e1 ⊢;refine cE ?_;simp +contextual -implicitDefEqProofs (maxSteps:=10^7) only[go_sem,seval,↓gZ,Z4,e1]
 | some t=>
  unfold cpV at e1 ⊢;obtain⟨a,b,c,d,f⟩:=t;simp only at e1 ⊢;refine cE ?_;simp +contextual -implicitDefEqProofs (maxSteps:=10^7) only[go_sem,seval,↓gZ,Z4,e1]
theorem Zps (sS:List Zb) (sO sD:List Zc) (sL sC:Int) (eK eL eX eY eW eH aa ab:Int) (ad:Bool) (ae eC eo ea ep:Int) (et:Bool) (ek:List Zf) (h0:¬eK=0) (h1:¬eK=1) (h2:¬eK=2) (h3:¬eK=3) (h4:¬eK=4) (h5:¬eK=5):Ze Xs Ms ZD [.ptr 0 0,(.d (.agg [J eK,J eL,J eX,J eY,J eW,J eH,J aa,J ab,.bool ad,J ae,J eC,J eo,J ea,J ep,.bool et,.sl (ek.map Zf.enc)]))] [.box [.own 1,.own 2,.own 3,(.d (J sL)),(.d (J sC))],.deep 4 4 (sS.map Zb.enc) none,.row 5 (sO.map Zc.enc) true false,.row 5 (sD.map Zc.enc) true false]=some ((.d (.bool false)),[.box [.own 1,.own 2,.own 3,(.d (J sL)),(.d (J sC))],.deep 4 4 (sS.map Zb.enc) none,.row 5 (sO.map Zc.enc) true false,.row 5 (sD.map Zc.enc) true false]):=by
 refine cE ?_;simp +contextual -implicitDefEqProofs (maxSteps:=10^7) only[go_sem,seval,↓gZ,Z4,h0,h1,h2,h3,h4,h5]
theorem Zlo (sS:List Zb) (sO sD:List Zc) (sL sC:Int) (eK eL eX eY eW eH aa ab:Int) (ad:Bool) (ae eC eo ea ep:Int) (et:Bool) (ek:List Zf) (hv:¬ZS (Zq.mk sS sO sD sL sC)):Ze Xs Ms Qf [(.d (.agg [.sl (sS.map Zb.enc),.sl (sO.map Zc.enc),.sl (sD.map Zc.enc),J sL,J sC])),(.d (.agg [J eK,J eL,J eX,J eY,J eW,J eH,J aa,J ab,.bool ad,J ae,J eC,J eo,J ea,J ep,.bool et,.sl (ek.map Zf.enc)]))] []=some (shV none):=by
 have e1:=Qe sS sO sD sL sC;rw[Kk hv] at e1;unfold shV;refine cE ?_;simp +contextual -implicitDefEqProofs (maxSteps:=10^7) only[go_sem,seval,↓gZ,Z6,e1]
theorem X1 (sS:List Zb) (sO sD:List Zc) (sL sC:Int) (eK eL eX eY eW eH aa ab:Int) (ad:Bool) (ae eC eo ea ep:Int) (et:Bool) (ek:List Zf) (hv:ZS (Zq.mk sS sO sD sL sC)) (hc:Ze Xs Ms ZD [.ptr 0 0,(.d (.agg [J eK,J eL,J eX,J eY,J eW,J eH,J aa,J ab,.bool ad,J ae,J eC,J eo,J ea,J ep,.bool et,.sl (ek.map Zf.enc)]))] [.box [.own 1,.own 2,.own 3,(.d (J sL)),(.d (J sC))],.deep 4 4 (sS.map Zb.enc) none,.row 5 (sO.map Zc.enc) true false,.row 5 (sD.map Zc.enc) true false]=some ((.d (.bool false)),[.box [.own 1,.own 2,.own 3,(.d (J sL)),(.d (J sC))],.deep 4 4 (sS.map Zb.enc) none,.row 5 (sO.map Zc.enc) true false,.row 5 (sD.map Zc.enc) true false])):Ze Xs Ms Qf [(.d (.agg [.sl (sS.map Zb.enc),.sl (sO.map Zc.enc),.sl (sD.map Zc.enc),J sL,J sC])),(.d (.agg [J eK,J eL,J eX,J eY,J eW,J eH,J aa,J ab,.bool ad,J ae,J eC,J eo,J ea,J ep,.bool et,.sl (ek.map Zf.enc)]))] []=some (shV none):=by
 have e1:=Qe sS sO sD sL sC;rw[Kh hv] at e1;have e2:=Wa sS sO sD sL sC (JV hv);unfold shV;refine cE ?_;simp +contextual -implicitDefEqProofs (maxSteps:=10^7) only[go_sem,seval,↓gZ,Z6,e1,e2,hc]
theorem Zge (sS:List Zb) (sO sD:List Zc) (sL sC:Int) (eK eL eX eY eW eH ab ad:Int) (ae:Bool) (af eC eo ea ep:Int) (et:Bool) (ek:List Zf) (hv:ZS (Zq.mk sS sO sD sL sC)) (tS:List Zb) (tO tD:List Zc) (tL tC:Int) (hc:Ze Xs Ms ZD [.ptr 0 0,(.d (.agg [J eK,J eL,J eX,J eY,J eW,J eH,J ab,J ad,.bool ae,J af,J eC,J eo,J ea,J ep,.bool et,.sl (ek.map Zf.enc)]))] [.box [.own 1,.own 2,.own 3,(.d (J sL)),(.d (J sC))],.deep 4 4 (sS.map Zb.enc) none,.row 5 (sO.map Zc.enc) true false,.row 5 (sD.map Zc.enc) true false]=some ((.d (.bool true)),[.box [.own 4,.own 2,.own 3,(.d (J tL)),(.d (J tC))],.deep 4 4 (sS.map Zb.enc) none,.row 5 (sO.map Zc.enc) true false,.row 5 (sD.map Zc.enc) true false,.row 4 (tS.map Zb.enc) true false])):Ze Xs Ms Qf [(.d (.agg [.sl (sS.map Zb.enc),.sl (sO.map Zc.enc),.sl (sD.map Zc.enc),J sL,J sC])),(.d (.agg [J eK,J eL,J eX,J eY,J eW,J eH,J ab,J ad,.bool ae,J af,J eC,J eo,J ea,J ep,.bool et,.sl (ek.map Zf.enc)]))] []=some (shV (Y3 (some ⟨tS,sO,sD,tL,tC⟩))):=by
 have e1:=Qe sS sO sD sL sC;rw[Kh hv] at e1;have e2:=Wa sS sO sD sL sC (JV hv);have e3:=Qe tS sO sD tL tC;unfold Y3;by_cases aa:ZS ⟨tS,sO,sD,tL,tC⟩
 ·rw[Kh aa] at e3;simp only[Ki aa];unfold shV;refine cE ?_;simp +contextual -implicitDefEqProofs (maxSteps:=10^7) only[go_sem,seval,↓gZ,Z6,e1,e2,hc,e3]
 ·rw[Kk aa] at e3;simp only[Kd aa];unfold shV;refine cE ?_;simp +contextual -implicitDefEqProofs (maxSteps:=10^7) only[go_sem,seval,↓gZ,Z6,e1,e2,hc,e3]
theorem ZmK (sS:List Zb) (sO sD:List Zc) (sL sC:Int) (eK eL eX eY eW eH ab ad:Int) (ae:Bool) (af eC eo ea ep:Int) (et:Bool) (ek:List Zf) (hv:ZS (Zq.mk sS sO sD sL sC)) (tS:List Zb) (tO tD:List Zc) (tL tC:Int) (hc:Ze Xs Ms ZD [.ptr 0 0,(.d (.agg [J eK,J eL,J eX,J eY,J eW,J eH,J ab,J ad,.bool ae,J af,J eC,J eo,J ea,J ep,.bool et,.sl (ek.map Zf.enc)]))] [.box [.own 1,.own 2,.own 3,(.d (J sL)),(.d (J sC))],.deep 4 4 (sS.map Zb.enc) none,.row 5 (sO.map Zc.enc) true false,.row 5 (sD.map Zc.enc) true false]=some ((.d (.bool true)),[.box [.own 1,.own 2,.own 3,(.d (J tL)),(.d (J tC))],.row 4 (tS.map Zb.enc) true false,.row 5 (sO.map Zc.enc) true false,.row 5 (sD.map Zc.enc) true false])):Ze Xs Ms Qf [(.d (.agg [.sl (sS.map Zb.enc),.sl (sO.map Zc.enc),.sl (sD.map Zc.enc),J sL,J sC])),(.d (.agg [J eK,J eL,J eX,J eY,J eW,J eH,J ab,J ad,.bool ae,J af,J eC,J eo,J ea,J ep,.bool et,.sl (ek.map Zf.enc)]))] []=some (shV (Y3 (some ⟨tS,sO,sD,tL,tC⟩))):=by
 have e1:=Qe sS sO sD sL sC;rw[Kh hv] at e1;have e2:=Wa sS sO sD sL sC (JV hv);have e3:=Qe tS sO sD tL tC;unfold Y3;by_cases aa:ZS ⟨tS,sO,sD,tL,tC⟩
 ·rw[Kh aa] at e3;simp only[Ki aa];unfold shV;refine cE ?_;simp +contextual -implicitDefEqProofs (maxSteps:=10^7) only[go_sem,seval,↓gZ,Z6,e1,e2,hc,e3]
 ·rw[Kk aa] at e3;simp only[Kd aa];unfold shV;refine cE ?_;simp +contextual -implicitDefEqProofs (maxSteps:=10^7) only[go_sem,seval,↓gZ,Z6,e1,e2,hc,e3]
theorem ZmL (sS:List Zb) (sO sD:List Zc) (sL sC:Int) (eK eL eX eY eW eH ab ad:Int) (ae:Bool) (af eC eo ea ep:Int) (et:Bool) (ek:List Zf) (hv:ZS (Zq.mk sS sO sD sL sC)) (tS:List Zb) (tO tD:List Zc) (tL tC:Int) (hc:Ze Xs Ms ZD [.ptr 0 0,(.d (.agg [J eK,J eL,J eX,J eY,J eW,J eH,J ab,J ad,.bool ae,J af,J eC,J eo,J ea,J ep,.bool et,.sl (ek.map Zf.enc)]))] [.box [.own 1,.own 2,.own 3,(.d (J sL)),(.d (J sC))],.deep 4 4 (sS.map Zb.enc) none,.row 5 (sO.map Zc.enc) true false,.row 5 (sD.map Zc.enc) true false]=some ((.d (.bool true)),[.box [.own 1,.own 4,.own 3,(.d (J tL)),(.d (J tC))],.deep 4 4 (sS.map Zb.enc) none,.row 5 (sO.map Zc.enc) true false,.row 5 (sD.map Zc.enc) true false,.row 5 (tO.map Zc.enc) true false])):Ze Xs Ms Qf [(.d (.agg [.sl (sS.map Zb.enc),.sl (sO.map Zc.enc),.sl (sD.map Zc.enc),J sL,J sC])),(.d (.agg [J eK,J eL,J eX,J eY,J eW,J eH,J ab,J ad,.bool ae,J af,J eC,J eo,J ea,J ep,.bool et,.sl (ek.map Zf.enc)]))] []=some (shV (Y3 (some ⟨sS,tO,sD,tL,tC⟩))):=by
 have e1:=Qe sS sO sD sL sC;rw[Kh hv] at e1;have e2:=Wa sS sO sD sL sC (JV hv);have e3:=Qe sS tO sD tL tC;unfold Y3;by_cases aa:ZS ⟨sS,tO,sD,tL,tC⟩
 ·rw[Kh aa] at e3;simp only[Ki aa];unfold shV;refine cE ?_;simp +contextual -implicitDefEqProofs (maxSteps:=10^7) only[go_sem,seval,↓gZ,Z6,e1,e2,hc,e3]
 ·rw[Kk aa] at e3;simp only[Kd aa];unfold shV;refine cE ?_;simp +contextual -implicitDefEqProofs (maxSteps:=10^7) only[go_sem,seval,↓gZ,Z6,e1,e2,hc,e3]
theorem ZmM (sS:List Zb) (sO sD:List Zc) (sL sC:Int) (eK eL eX eY eW eH ab ad:Int) (ae:Bool) (af eC eo ea ep:Int) (et:Bool) (ek:List Zf) (hv:ZS (Zq.mk sS sO sD sL sC)) (tS:List Zb) (tO tD:List Zc) (tL tC:Int) (hc:Ze Xs Ms ZD [.ptr 0 0,(.d (.agg [J eK,J eL,J eX,J eY,J eW,J eH,J ab,J ad,.bool ae,J af,J eC,J eo,J ea,J ep,.bool et,.sl (ek.map Zf.enc)]))] [.box [.own 1,.own 2,.own 3,(.d (J sL)),(.d (J sC))],.deep 4 4 (sS.map Zb.enc) none,.row 5 (sO.map Zc.enc) true false,.row 5 (sD.map Zc.enc) true false]=some ((.d (.bool true)),[.box [.own 1,.own 4,.own 5,(.d (J tL)),(.d (J tC))],.deep 4 4 (sS.map Zb.enc) none,.row 5 (sO.map Zc.enc) true false,.row 5 (sD.map Zc.enc) true false,.row 5 (tO.map Zc.enc) true false,.row 5 (tD.map Zc.enc) true false])):Ze Xs Ms Qf [(.d (.agg [.sl (sS.map Zb.enc),.sl (sO.map Zc.enc),.sl (sD.map Zc.enc),J sL,J sC])),(.d (.agg [J eK,J eL,J eX,J eY,J eW,J eH,J ab,J ad,.bool ae,J af,J eC,J eo,J ea,J ep,.bool et,.sl (ek.map Zf.enc)]))] []=some (shV (Y3 (some ⟨sS,tO,tD,tL,tC⟩))):=by
 have e1:=Qe sS sO sD sL sC;rw[Kh hv] at e1;have e2:=Wa sS sO sD sL sC (JV hv);have e3:=Qe sS tO tD tL tC;unfold Y3;by_cases aa:ZS ⟨sS,tO,tD,tL,tC⟩
 ·rw[Kh aa] at e3;simp only[Ki aa];unfold shV;refine cE ?_;simp +contextual -implicitDefEqProofs (maxSteps:=10^7) only[go_sem,seval,↓gZ,Z6,e1,e2,hc,e3]
 ·rw[Kk aa] at e3;simp only[Kd aa];unfold shV;refine cE ?_;simp +contextual -implicitDefEqProofs (maxSteps:=10^7) only[go_sem,seval,↓gZ,Z6,e1,e2,hc,e3]
theorem ZmN (sS:List Zb) (sO sD:List Zc) (sL sC:Int) (eK eL eX eY eW eH ab ad:Int) (ae:Bool) (af eC eo ea ep:Int) (et:Bool) (ek:List Zf) (hv:ZS (Zq.mk sS sO sD sL sC)) (tS:List Zb) (tO tD:List Zc) (tL tC:Int) (hc:Ze Xs Ms ZD [.ptr 0 0,(.d (.agg [J eK,J eL,J eX,J eY,J eW,J eH,J ab,J ad,.bool ae,J af,J eC,J eo,J ea,J ep,.bool et,.sl (ek.map Zf.enc)]))] [.box [.own 1,.own 2,.own 3,(.d (J sL)),(.d (J sC))],.deep 4 4 (sS.map Zb.enc) none,.row 5 (sO.map Zc.enc) true false,.row 5 (sD.map Zc.enc) true false]=some ((.d (.bool true)),[.box [.own 4,.own 5,.own 6,(.d (J tL)),(.d (J tC))],.deep 4 4 (sS.map Zb.enc) none,.row 5 (sO.map Zc.enc) true false,.row 5 (sD.map Zc.enc) true false,.row 4 (tS.map Zb.enc) true false,.row 5 (tO.map Zc.enc) true false,.row 5 (tD.map Zc.enc) true false])):Ze Xs Ms Qf [(.d (.agg [.sl (sS.map Zb.enc),.sl (sO.map Zc.enc),.sl (sD.map Zc.enc),J sL,J sC])),(.d (.agg [J eK,J eL,J eX,J eY,J eW,J eH,J ab,J ad,.bool ae,J af,J eC,J eo,J ea,J ep,.bool et,.sl (ek.map Zf.enc)]))] []=some (shV (Y3 (some ⟨tS,tO,tD,tL,tC⟩))):=by
 have e1:=Qe sS sO sD sL sC;rw[Kh hv] at e1;have e2:=Wa sS sO sD sL sC (JV hv);have e3:=Qe tS tO tD tL tC;unfold Y3;by_cases aa:ZS ⟨tS,tO,tD,tL,tC⟩
 ·rw[Kh aa] at e3;simp only[Ki aa];unfold shV;refine cE ?_;simp +contextual -implicitDefEqProofs (maxSteps:=10^7) only[go_sem,seval,↓gZ,Z6,e1,e2,hc,e3]
 ·rw[Kk aa] at e3;simp only[Kd aa];unfold shV;refine cE ?_;simp +contextual -implicitDefEqProofs (maxSteps:=10^7) only[go_sem,seval,↓gZ,Z6,e1,e2,hc,e3]
theorem Zgf (sS:List Zb) (sO sD:List Zc) (sL sC:Int) (eK eL eX eY eW eH aa ab:Int) (ad:Bool) (ae eC eo ea ep:Int) (et:Bool) (ek:List Zf):Ze Xs Ms Qf [(.d (.agg [.sl (sS.map Zb.enc),.sl (sO.map Zc.enc),.sl (sD.map Zc.enc),J sL,J sC])),(.d (.agg [J eK,J eL,J eX,J eY,J eW,J eH,J aa,J ab,.bool ad,J ae,J eC,J eo,J ea,J ep,.bool et,.sl (ek.map Zf.enc)]))] []=some (shV (if ZS (Zq.mk sS sO sD sL sC) then QZ (Zq.mk sS sO sD sL sC) (Zz.mk eK eL (Box.mk eX eY eW eH) (Zc.mk (Pane.mk aa ab ad ae) eC) (Zf.mk eo ea ep et ek)) else none)):=by
 by_cases hv:ZS (Zq.mk sS sO sD sL sC)
 ·rw[Ki hv];have af:sS.length≤100000:=by have:=hv.1.1;simp only at this;omega
  by_cases k0:eK=0
  ·by_cases hr:(WB ⟨eL,eW,eH,[]⟩ sS∧eX=0)∧eY=0
   ·have ee:QZ (Zq.mk sS sO sD sL sC) (Zz.mk eK eL (Box.mk eX eY eW eH) (Zc.mk (Pane.mk aa ab ad ae) eC) (Zf.mk eo ea ep et ek))=Y3 (some (Zq.mk (Qz ⟨eL,eW,eH,[]⟩ sS) sO sD sL (sC+eW*eH))):=by unfold QZ evS;simp only[k0,hr,Km,and_self]
    rw[ee];exact Zge sS sO sD sL sC eK eL eX eY eW eH aa ab ad ae eC eo ea ep et ek hv _ sO sD _ _ (ZmA sS sO sD sL sC eK eL eX eY eW eH aa ab ad ae eC eo ea ep et ek hv k0 hr.1.1 hr.1.2 hr.2)
   ·have ee:QZ (Zq.mk sS sO sD sL sC) (Zz.mk eK eL (Box.mk eX eY eW eH) (Zc.mk (Pane.mk aa ab ad ae) eC) (Zf.mk eo ea ep et ek))=none:=by unfold QZ evS;simp only[k0,Km];rw[Kd hr];rfl
    rw[ee];exact X1 sS sO sD sL sC eK eL eX eY eW eH aa ab ad ae eC eo ea ep et ek hv (ZmB sS sO sD sL sC eK eL eX eY eW eH aa ab ad ae eC eo ea ep et ek hv k0 af hr)
  ·by_cases k1:eK=1
   ·by_cases hf:Qv 0 sS eL<0
    ·have ee:QZ (Zq.mk sS sO sD sL sC) (Zz.mk eK eL (Box.mk eX eY eW eH) (Zc.mk (Pane.mk aa ab ad ae) eC) (Zf.mk eo ea ep et ek))=none:=by unfold QZ evS;simp[k1,ZeN hf,Y3]
     rw[ee];exact X1 sS sO sD sL sC eK eL eX eY eW eH aa ab ad ae eC eo ea ep et ek hv (ZmD sS sO sD sL sC eK eL eX eY eW eH aa ab ad ae eC eo ea ep et ek hv k1 af hf)
    ·obtain⟨a,x,ha,hx⟩:=Zbk (by omega:0≤Qv 0 sS eL);have ag:=(Ql hv.1.2 x (Kc hx)).1;obtain⟨xL,xW,xH,xF⟩:=x;simp only at ag;rw[Zy7 hv k1 ha hx];exact ZmK sS sO sD sL sC eK eL eX eY eW eH aa ab ad ae eC eo ea ep et ek hv _ sO sD _ _ (ZmC sS sO sD sL sC eK eL eX eY eW eH aa ab ad ae eC eo ea ep et ek hv k1 af a ha xL xW xH xF hx (by omega))
   ·by_cases k5:eK=5
    ·by_cases hf:Qv 0 sS eL<0
     ·have ee:QZ (Zq.mk sS sO sD sL sC) (Zz.mk eK eL (Box.mk eX eY eW eH) (Zc.mk (Pane.mk aa ab ad ae) eC) (Zf.mk eo ea ep et ek))=none:=by unfold QZ evS;simp[k5,ZeN hf,Y3]
      rw[ee];exact X1 sS sO sD sL sC eK eL eX eY eW eH aa ab ad ae eC eo ea ep et ek hv (ZmJ sS sO sD sL sC eK eL eX eY eW eH aa ab ad ae eC eo ea ep et ek hv k5 hf)
     ·obtain⟨a,x,ha,hx⟩:=Zbk (by omega:0≤Qv 0 sS eL);obtain⟨xL,xW,xH,xF⟩:=x;have ee:QZ (Zq.mk sS sO sD sL sC) (Zz.mk eK eL (Box.mk eX eY eW eH) (Zc.mk (Pane.mk aa ab ad ae) eC) (Zf.mk eo ea ep et ek))=Y3 (some (Zq.mk (sS.eraseIdx a) sO sD (sL+xW*xH) sC)):=by unfold QZ evS;simp[k5,ZeO ha hx]
      rw[ee];exact Zge sS sO sD sL sC eK eL eX eY eW eH aa ab ad ae eC eo ea ep et ek hv _ sO sD _ _ (ZmI sS sO sD sL sC eK eL eX eY eW eH aa ab ad ae eC eo ea ep et ek hv k5 a ha xL xW xH xF hx)
    ·by_cases k2:eK=2
     ·by_cases hl:Wy ⟨⟨aa,ab,ad,ae⟩,eC⟩
      ·have ee:QZ (Zq.mk sS sO sD sL sC) (Zz.mk eK eL (Box.mk eX eY eW eH) (Zc.mk (Pane.mk aa ab ad ae) eC) (Zf.mk eo ea ep et ek))=Y3 (some (Zq.mk sS (YJ ⟨aa,ab,ad,ae⟩ eC sO) sD sL sC)):=by unfold QZ evS;simp[k2,hl]
       rw[ee];exact ZmL sS sO sD sL sC eK eL eX eY eW eH aa ab ad ae eC eo ea ep et ek hv sS _ sD _ _ (ZmE sS sO sD sL sC eK eL eX eY eW eH aa ab ad ae eC eo ea ep et ek hv k2 hl)
      ·have ee:QZ (Zq.mk sS sO sD sL sC) (Zz.mk eK eL (Box.mk eX eY eW eH) (Zc.mk (Pane.mk aa ab ad ae) eC) (Zf.mk eo ea ep et ek))=none:=by unfold QZ evS;simp[k2,hl,Y3]
       rw[ee];exact X1 sS sO sD sL sC eK eL eX eY eW eH aa ab ad ae eC eo ea ep et ek hv (ZmF sS sO sD sL sC eK eL eX eY eW eH aa ab ad ae eC eo ea ep et ek hv k2 hl)
     ·by_cases k4:eK=4
      ·by_cases hl:Wy ⟨⟨aa,ab,ad,ae⟩,eC⟩∧Xl ⟨aa,ab,ad,ae⟩ eC false sD=true
       ·have ee:QZ (Zq.mk sS sO sD sL sC) (Zz.mk eK eL (Box.mk eX eY eW eH) (Zc.mk (Pane.mk aa ab ad ae) eC) (Zf.mk eo ea ep et ek))=Y3 (some (Zq.mk sS (YJ ⟨aa,ab,ad,ae⟩ eC sO) (XZ sD ⟨aa,ab,ad,ae⟩ eC) (sL+eC*aa*ab) sC)):=by unfold QZ evS;simp[k4,hl]
        rw[ee];exact ZmM sS sO sD sL sC eK eL eX eY eW eH aa ab ad ae eC eo ea ep et ek hv sS _ _ _ _ (ZmG sS sO sD sL sC eK eL eX eY eW eH aa ab ad ae eC eo ea ep et ek hv k4 hl.1 hl.2)
       ·have ee:QZ (Zq.mk sS sO sD sL sC) (Zz.mk eK eL (Box.mk eX eY eW eH) (Zc.mk (Pane.mk aa ab ad ae) eC) (Zf.mk eo ea ep et ek))=none:=by unfold QZ evS;simp only[k4];simp[hl,Y3]
        rw[ee];exact X1 sS sO sD sL sC eK eL eX eY eW eH aa ab ad ae eC eo ea ep et ek hv (ZmH sS sO sD sL sC eK eL eX eY eW eH aa ab ad ae eC eo ea ep et ek hv k4 hl)
      ·by_cases k3:eK=3
       ·have hc:=Zpr sS sO sD sL sC eK eL eX eY eW eH aa ab ad ae eC eo ea ep et ek hv k3;have ee:QZ (Zq.mk sS sO sD sL sC) (Zz.mk eK eL (Box.mk eX eY eW eH) (Zc.mk (Pane.mk aa ab ad ae) eC) (Zf.mk eo ea ep et ek))=Y3 (ZeM (Zq.mk sS sO sD sL sC) (Zz.mk eK eL (Box.mk eX eY eW eH) (Zc.mk (Pane.mk aa ab ad ae) eC) (Zf.mk eo ea ep et ek))):=by unfold QZ evS;simp[k3]
        rw[ee];generalize ZeM (Zq.mk sS sO sD sL sC) (Zz.mk eK eL (Box.mk eX eY eW eH) (Zc.mk (Pane.mk aa ab ad ae) eC) (Zf.mk eo ea ep et ek))=t at hc;cases t with
        | none=>exact X1 sS sO sD sL sC eK eL eX eY eW eH aa ab ad ae eC eo ea ep et ek hv hc
        | some t=>
         obtain⟨a,b,c,d,f⟩:=t;exact ZmN sS sO sD sL sC eK eL eX eY eW eH aa ab ad ae eC eo ea ep et ek hv a b c d f hc
       ·have ee:QZ (Zq.mk sS sO sD sL sC) (Zz.mk eK eL (Box.mk eX eY eW eH) (Zc.mk (Pane.mk aa ab ad ae) eC) (Zf.mk eo ea ep et ek))=none:=by unfold QZ evS;simp[k0,k1,k2,k3,k4,k5,Y3]
        rw[ee];exact X1 sS sO sD sL sC eK eL eX eY eW eH aa ab ad ae eC eo ea ep et ek hv (Zps sS sO sD sL sC eK eL eX eY eW eH aa ab ad ae eC eo ea ep et ek k0 k1 k2 k3 k4 k5)
 ·rw[Kd hv];exact Zlo sS sO sD sL sC eK eL eX eY eW eH aa ab ad ae eC eo ea ep et ek hv
end Go.Proofs.YtcefneehgbiebaaGreatDoor
