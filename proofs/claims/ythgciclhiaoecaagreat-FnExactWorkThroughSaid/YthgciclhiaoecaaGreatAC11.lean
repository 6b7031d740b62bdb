/- Own text. -/
import Derived.Test.YthgciclhiaoecaaGreatACode
import Derived.Test.YthgciclhiaoecaaGreatAbsParts
import Derived.Test.YthgciclhiaoecaaGreatAC6
import Derived.Test.YthgciclhiaoecaaGreatAbsOkD
namespace Go.Proofs.YthgciclhiaoecaaGreat
open Go Go.Abs Go.Abs.E Go.Abs.L
open Nat (reduceMul reduceSub reduceLeDiff reduceEqDiff)
open Int (reduceLE reduceEq reduceToNat reduceNeg)
set_option linter.unusedSimpArgs false
set_option linter.unusedVariables false
set_option maxRecDepth 20000
set_option maxHeartbeats 4000000
def UL (l:List Zc):Prop:=(l.map Zc.Pane).Nodup∧∀ x∈l,1≤x.Count
theorem ZpH:∀ {l:List Zc} {q:List Pane},Zkg q l→(l.map Zc.Pane).Nodup∧∀ p∈l.map Zc.Pane,p∉q
 | [],_,_=>by simp
 | x :: l,q,h=>by
  obtain⟨h1,h2,h3,h4,h5⟩:=h;obtain⟨a,b⟩:=ZpH h5;refine⟨?_,?_⟩
  ·rw[Ko,Lg];exact⟨fun hm=>b _ hm (by simp),a⟩
  ·intro p hp;rw[Ko,Kf] at hp;rcases hp with rfl | hp
   ·exact h2
   ·exact fun hq=>b p hp (by simp[hq])
theorem ZeR {l:List Zc} (h:Zan l):UL l:=⟨(ZpH h.2.1).1,fun x hx=>(Q3 h x hx).2.1⟩
theorem Zio:∀ {l:List Zc} {k:Nat} {p:Pane},0≤Vb k l p→∃ a x,Vb k l p=((k+a:Nat):Int)∧l[a]?=some x∧x.Pane=p∧p∉(l.take a).map Zc.Pane
 | [],k,p,h=>by simp[Vb] at h
 | x :: l,k,p,h=>by
  unfold Vb at h ⊢;split
  ·rename_i e;exact⟨0,x,by simp,by simp,e,by simp⟩
  ·rename_i e;rw[Kg e] at h;obtain⟨a,y,h1,h2,h3,h4⟩:=Zio h;refine⟨a+1,y,by rw[h1];congr 1;omega,by simpa using h2,h3,?_⟩;simp only[L7,Ko,Kf,not_or];exact⟨fun e'=>e e'.symm,h4⟩
theorem Zk6:∀ {l:List Zc} {k:Nat} {p:Pane},Vb k l p<0→p∉l.map Zc.Pane
 | [],k,p,h=>by simp
 | x :: l,k,p,h=>by
  unfold Vb at h;split at h
  ·omega
  ·rename_i e;simp only[Ko,Kf,not_or];exact⟨fun e'=>e e'.symm,Zk6 h⟩
theorem Zip {p:Pane} {c:Int}:∀ {l:List Zc} {b:Bool},p∉l.map Zc.Pane→Xl p c b l=b
 | [],b,_=>rfl
 | x :: l,b,h=>by
  simp only[Ko,Kf,not_or] at h;rw[Xl,Kg (fun e=>h.1 e.symm),Zip h.2]
theorem Zvm {p:Pane} {c:Int}:∀ {l:List Zc},p∉l.map Zc.Pane→(∀ x∈l,1≤x.Count)→Yd l p c=l
 | [],_,_=>rfl
 | x :: l,h,hc=>by
  simp only[Ko,Kf,not_or] at h;have h0:=hc x (by simp);have ih:=Zvm (p:=p) (c:=c) h.2 (fun y hy=>hc y (by simp[hy]));unfold Yd at ih ⊢;rw[Lq,ZgP,Kg (fun e=>h.1 e.symm),Kj (by omega),ih]
theorem ZpI {p:Pane} {c:Int}:∀ {l:List Zc} {a:Nat} {x:Zc},UL l→l[a]?=some x→x.Pane=p→Xl p c false l=decide (0≤x.Count-c)∧Yd l p c=if 0<x.Count-c then l.set a ⟨p,x.Count-c⟩ else l.eraseIdx a
 | [],a,x,_,h,_=>by simp at h
 | y :: l,0,x,hu,h,e=>by
  simp only[KL,Option.some.injEq] at h;subst h;obtain⟨h1,h2⟩:=hu;rw[Ko,Lg,e] at h1;have hl:=Zvm (p:=p) (c:=c) h1.1 (fun z hz=>h2 z (by simp[hz]));refine⟨by rw[Xl,Kj e,Zip h1.1],?_⟩;unfold Yd at hl ⊢;rw[Lq,ZgP,Kj e];by_cases hc:0<y.Count-c
  ·rw[Kj hc,Kj hc,hl,e];rfl
  ·rw[Kg hc,Kg hc,hl];rfl
 | y :: l,a+1,x,hu,h,e=>by
  simp only[KH] at h;obtain⟨h1,h2⟩:=hu;rw[Ko,Lg] at h1;have aa:y.Pane≠p:=fun e'=>h1.1 (by rw[e',← e];exact Kav (Kb h));obtain⟨i1,i2⟩:=ZpI (p:=p) (c:=c) (l:=l) ⟨h1.2,fun z hz=>h2 z (by simp[hz])⟩ h e;refine⟨by rw[Xl,Kg aa,i1],?_⟩;have h0:=h2 y (by simp);unfold Yd at i2 ⊢;rw[Lq,ZgP,Kg aa,Kj (by omega),i2];by_cases hc:0<x.Count-c
  ·rw[Kj hc,Kj hc];rfl
  ·rw[Kg hc,Kg hc];rfl
theorem ZpJ {l:List Zc} {p:Pane} {c:Int} (h:UL l):UL (Yd l p c):=by
 have hs:∀ (l:List Zc),((Yd l p c).map Zc.Pane).Sublist (l.map Zc.Pane):=by
  intro l
  induction l with
  | nil=>simp[Yd]
  | cons x l ih=>
   unfold Yd at ih ⊢;rw[Lq];unfold ZgP at ih ⊢;split
   ·exact ih.trans (by simp)
   ·rename_i y hy;split at hy
    ·split at hy
     ·cases hy;simpa using ih
     ·cases hy
    ·split at hy
     ·cases hy;simpa using ih
     ·cases hy
 refine⟨List.Nodup.sublist (hs l) h.1,fun y hy=>?_⟩;obtain⟨x,hx,e⟩:=Lu.1 hy;have:=h.2 x hx;unfold ZgP at e;split at e
 ·split at e
  ·cases e;simp only;omega
  ·cases e
 ·split at e
  ·cases e;omega
  ·cases e
theorem ZpK (p:Pane) (c:Int):∀ (l:List Zc),(Vi p c l).map Zc.Pane=if p∈l.map Zc.Pane then l.map Zc.Pane else l.map Zc.Pane++[p]
 | []=>by simp[Vi]
 | x :: l=>by
  unfold Vi;by_cases e:x.Pane=p
  ·simp[e]
  ·have ih:=ZpK p c l;have e' : ¬p=x.Pane:=fun h=>e h.symm;simp only[Kg e,Ko,Kf,e',false_or,ih];split<;>simp
theorem Zyp {l:List Zc} {p:Pane} {c:Int} (h:UL l) (hc:1≤c):UL (Vi p c l):=by
 refine⟨?_,?_⟩
 ·rw[ZpK];split
  ·exact h.1
  ·rename_i hn;refine L3.2 ⟨h.1,by simp,fun a ha b hb=>?_⟩;simp only[KP] at hb;subst hb;exact fun e=>hn (e ▸ ha)
 ·have aa:∀ (l:List Zc),(∀ x∈l,1≤x.Count)→∀ x∈Vi p c l,1≤x.Count:=by
   intro l
   induction l with
   | nil=>intro _ x hx;simp[Vi] at hx;subst hx;exact hc
   | cons y l ih=>
    intro h x hx;have hy:=h y (by simp);unfold Vi at hx;split at hx
    ·rcases Kf.1 hx with rfl | hx
     ·simp only;omega
     ·exact h x (by simp[hx])
    ·rcases Kf.1 hx with rfl | hx
     ·exact hy
     ·exact ih (fun z hz=>h z (by simp[hz])) x hx
  exact aa l h.2
theorem Ziq : ∀ {l:List Zb} {b:Int},Xp b l→∀ x∈l,b<x.Label
 | [],_,_,x,hx=>by simp at hx
 | y :: l,b,h,x,hx=>by
  rcases Kf.1 hx with rfl | hx
  ·exact h.2.1
  ·have:=Ziq h.2.2 x hx;have:=h.2.1;omega
theorem ZpL (q:Zb):∀ (l:List Zb),q∈YP q l
 | []=>by simp[YP]
 | x :: l=>by
  unfold YP;split
  ·simp
  ·exact Kv _ (ZpL q l)
theorem ZnR {q:Zb} (hq:VPc q):∀ {l:List Zb} {b:Int},Xp b l→b<q.Label→(Xp b (YP q l)↔q.Label∉l.map Zb.Label)
 | [],b,h,hb=>by simp[YP,Xp,hq,hb]
 | x :: l,b,h,hb=>by
  obtain⟨h1,h2,h3⟩:=h;unfold YP;by_cases aa:q.Label<x.Label
  ·rw[Kj aa];refine⟨fun _ hm=>?_,fun _=>⟨hq,hb,h1,aa,h3⟩⟩;rw[Ko,Kf] at hm;rcases hm with hm | hm
   ·omega
   ·obtain⟨y,hy,e⟩:=Li.1 hm;have:=Ziq h3 y hy;omega
  ·rw[Kg aa];by_cases he:x.Label=q.Label
   ·constructor
    ·intro hs;have:=Ziq hs.2.2 q (ZpL q l);omega
    ·intro hn;exact absurd (by simp[he]) hn
   ·have ih:=ZnR hq h3 (by omega:x.Label<q.Label);rw[Ko,Kf,not_or,Xp,ih];exact⟨fun h=>⟨fun e=>he e.symm,h.2.2⟩,fun h=>⟨h1,h2,h.2⟩⟩
theorem Zvn:∀ {l:List Zb} {k:Nat} {n:Int},QI k l n<0↔n∉l.map Zb.Label
 | [],k,n=>by simp[QI]
 | x :: l,k,n=>by
  unfold QI;have ih:=Zvn (l:=l) (k:=k+1) (n:=n);by_cases he:x.Label=n
  ·rw[Kj he];simp only[Ko,Kf,he,true_or,not_true,iff_false];omega
  ·rw[Kg he,ih,Ko,Kf,not_or];exact⟨fun h=>⟨fun e=>he e.symm,h⟩,fun h=>h.2⟩
theorem ZAv {q:Zb} {l:List Zb} (h1:VSt l) (h2:VPc q):ZdH q l↔l.length≠20∧QI 0 l q.Label<0:=by
 have h3:=ZnR h2 h1.2 (by have:=h2.1.1;omega:0<q.Label);have h4:=h1.1;unfold ZdH;rw[Zvn,← h3];simp only[VSt,ZsZ];constructor
 ·rintro ⟨_,a,b⟩;exact⟨by omega,b⟩
 ·rintro ⟨a,b⟩;exact⟨⟨⟨h4,h1.2⟩,h2⟩,by omega,b⟩
theorem Zi4 (l:List Zb) (qL qW qH:Int) (qF:List Box) (hl:l.length≤100000):Zd Xs Ms JB [(.d (.sl (l.map Zb.enc))),(.d (.agg [J qL,J qW,J qH,.sl (qF.map Box.enc)]))] [] =
  some (.tup [.own 0,(.d (.bool (decide (ZdH (Zb.mk qL qW qH qF) l))))],[if ZdH (Zb.mk qL qW qH qF) l then .tree 4 4 ((YP (Zb.mk qL qW qH qF) l).map Zb.enc) none else .row 4 [] true false]):=by
 have e1:=Yo l;have e2:=QR qL qW qH qF;have e3:=Yc l qL (by omega);by_cases v1:VSt l
 ·rw[Kh v1] at e1;by_cases v2:VPc (Zb.mk qL qW qH qF)
  ·rw[Kh v2] at e2;have hA:=ZAv v1 v2;simp only at hA;have hF:=(ZbU v1).2;have ah:qF.length≤1048576:=by have:=v2.1.2.2.2.2.2.2;simp only at this;omega
   by_cases v3:l.length=20
   ·have h:¬ZdH (Zb.mk qL qW qH qF) l:=fun h=>(hA.1 h).1 v3;have ab : ((l.length:Int)=20):=by omega
    rw[Ki h,Kg h];refine cE ?_;simp +contextual -implicitDefEqProofs (maxSteps:=10^7) only[go_sem,seval,↓gZ,Vr,e1,e2,ab]
   ·have ab : ¬((l.length:Int)=20):=by omega
    by_cases v4:QI 0 l qL<0
    ·have h:ZdH (Zb.mk qL qW qH qF) l:=hA.2 ⟨v3,v4⟩;have aa : ¬(0≤QI 0 l qL):=by omega
     have eq:=Jg qL qW qH qF ah;rw[Kh h,Kj h];generalize QI 0 l qL=fl at e3 aa;have aj:=v1.1;refine cE ?_;simp +contextual -implicitDefEqProofs (maxSteps:=10^7) only[go_sem,seval,↓gZ,Vr,e1,e2,ab,e3,aa];refine LO (α:=Nat×Bool×List Zb) (fun s=>[(32,.d (J (s.1:Int))),(7,.d (.bool s.2.1))]) (fun s=>[(0,.tree 4 4 (s.2.2.map Zb.enc) none)]) (fun s=>s.1≤l.length∧s.2.2++(if s.2.1 then l.drop s.1 else YP (Zb.mk qL qW qH qF) (l.drop s.1))=YP (Zb.mk qL qW qH qF) l∧s.2.2.length≤s.1+s.2.1.toNat) (fun s=>l.length-s.1) (0,false,[]) ⟨by simp,by simp,by simp⟩ ?_;intro⟨i,b,o⟩ ⟨hi,hp,ho⟩ ih;simp only at hi hp ho
     have hb:=Bool.toNat_le b;by_cases ad:i<l.length
     ·obtain⟨x,hx⟩:=Zo ad;have hw:=Zh (k:=i) (by omega);have hr:(o.length+1)*48≤140737488355328∧o.length≤140737488355327:=by omega
      have ae:∀ n:Nat,n=o.length+1→(n+1)*48≤140737488355328∧n≤140737488355327:=fun n hn=>by omega
      have ae:=ae _ rfl;have ai:o.length≤140737488355326:=by omega
      have e:=Jg x.Label x.W x.H x.Flaws (hF x (Kb hx));rw[Zw7 hx] at hp;have hd:l.drop i=x :: l.drop (i+1):=by
       obtain⟨h1,h2⟩:=Kc.1 hx;rw[Ks h1,h2]
      obtain⟨L,W,H,F⟩:=x;simp only at e hp;have af:=Zb9 F;have ag:=Zb9 qF;cases b with
      | true=>
       simp only[Bool.toNat_true] at ho;rw[Kj rfl] at hp;simp +contextual -implicitDefEqProofs (maxSteps:=10^7) only[go_sem,seval,↓gZ,hx,ad,hw,e,hr,af];refine ih (i+1,true,o++[⟨L,W,H,F⟩]) _ ⟨by simp only;omega,?_,by simp;omega⟩ (by simp only;omega) ?_
       ·rw[← hp,hd];simp
       ·simp +contextual -implicitDefEqProofs (maxSteps:=10^7) only[go_sem,seval,↓gZ];try (simp[Zb.enc];done)
      | false=>
       simp only[Bool.toNat_false] at ho;rw[Kg (by simp)] at hp;by_cases hc:qL<L
       ·rw[Kj hc] at hp;simp +contextual -implicitDefEqProofs (maxSteps:=10^7) only[go_sem,seval,↓gZ,hx,ad,hw,e,eq,hc,hr,ae,ai,af,ag];refine ih (i+1,true,o++[(Zb.mk qL qW qH qF),⟨L,W,H,F⟩]) _ ⟨by simp only;omega,?_,by simp;omega⟩ (by simp only;omega) ?_
        ·rw[← hp,hd];simp
        ·simp +contextual -implicitDefEqProofs (maxSteps:=10^7) only[go_sem,seval,↓gZ];try (simp[Zb.enc];done)
       ·rw[Kg hc] at hp;simp +contextual -implicitDefEqProofs (maxSteps:=10^7) only[go_sem,seval,↓gZ,hx,ad,hw,e,hc,hr,af];refine ih (i+1,false,o++[⟨L,W,H,F⟩]) _ ⟨by simp only;omega,?_,by simp;omega⟩ (by simp only;omega) ?_
        ·rw[← hp];simp
        ·simp +contextual -implicitDefEqProofs (maxSteps:=10^7) only[go_sem,seval,↓gZ];try (simp[Zb.enc];done)
     ·have:i=l.length:=by omega
      subst this;have hr:(o.length+1)*48≤140737488355328∧o.length≤140737488355327:=by omega
      cases b with
      | true=>
       simp at hp;simp +contextual -implicitDefEqProofs (maxSteps:=10^7) only[go_sem,seval,↓gZ];rw[hp]
      | false=>
       simp[YP] at hp;have ag:=Zb9 qF;simp +contextual -implicitDefEqProofs (maxSteps:=10^7) only[go_sem,seval,↓gZ,eq,hr,ag];rw[← hp];try (simp[Zb.enc];done)
    ·have h:¬ZdH (Zb.mk qL qW qH qF) l:=fun h=>v4 (hA.1 h).2;have aa : 0≤QI 0 l qL:=by omega
     rw[Ki h,Kg h];generalize QI 0 l qL=fl at e3 aa;refine cE ?_;simp +contextual -implicitDefEqProofs (maxSteps:=10^7) only[go_sem,seval,↓gZ,Vr,e1,e2,ab,e3,aa]
  ·rw[Ki v2] at e2;have h:¬ZdH (Zb.mk qL qW qH qF) l:=fun h=>v2 h.1.2;rw[Ki h,Kg h];refine cE ?_;simp +contextual -implicitDefEqProofs (maxSteps:=10^7) only[go_sem,seval,↓gZ,Vr,e1,e2]
 ·rw[Ki v1] at e1;have h:¬ZdH (Zb.mk qL qW qH qF) l:=fun h=>v1 h.1.1;rw[Ki h,Kg h];refine cE ?_;simp +contextual -implicitDefEqProofs (maxSteps:=10^7) only[go_sem,seval,↓gZ,Vr,e1]
theorem Zf1 (l:List Zc) (hl:l.length≤1048576):Zd Xs Ms Xm [(.d (.sl (l.map Zc.enc)))] []=some (.own 0,[.row 5 (l.map Zc.enc) true false]):=by
 refine ZrP Xs Ms Zm6 ?_;unfold ZqT;simp only;rw[Kj ⟨by rw[Zwt];trivial,by rw[ZtG];trivial,by simp[ZK];omega,by simp[ZK];omega⟩]
theorem Zi5 {α β:Type} (f:α→β):∀ (l:List α) (i:Nat),(l.map f).eraseIdx i=(l.eraseIdx i).map f
 | [],_=>rfl
 | _ :: _,0=>rfl
 | x :: l,i+1=>by simp[Zi5 f l i]
theorem ZmM (l:List Zc) (i:Nat) (hi:i<l.length):Zd Xs Ms ZO [.own 0,(.d (J i)),(.d (J ((i:Int)+1)))] [.row 5 (l.map Zc.enc) true false]=some (.own 1,[.gone,.row 5 ((l.eraseIdx i).map Zc.enc) true false]):=by
 refine ZrP Xs Ms Zlv ?_;unfold Zl1;simp only;rw[Kj ⟨rfl,by omega,rfl,by simp;omega,by rw[Zwt];trivial,by rw[ZtG];trivial,rfl,rfl⟩,Kz,Zi5]
theorem ZbD (l:List Zc) (xW xH:Int) (xT:Bool) (xK xC:Int) (hl:l.length≤1048576) (hc:∀ y∈l,R64 (y.Count+xC)):Zd Xs Ms Wk [(.d (.sl (l.map Zc.enc))),(.d (.agg [J xW,J xH,.bool xT,J xK,J xC]))] []=some (.own 0,[.row 5 ((Vi ⟨xW,xH,xT,xK⟩ xC l).map Zc.enc) true false]):=by
 have e1:=Zf1 l hl;have e2:=ZdG l xW xH xT xK (by omega);have hr:(l.length+1)*40≤140737488355328∧l.length≤140737488355327:=by omega
 by_cases hf:Vb 0 l ⟨xW,xH,xT,xK⟩<0
 ·have hn:¬0≤Vb 0 l ⟨xW,xH,xT,xK⟩:=by omega
  rw[Zup _ _ _ (Zk6 hf)];refine cE ?_;simp +contextual -implicitDefEqProofs (maxSteps:=10^7) only[go_sem,seval,↓gZ,Zdm,e1,e2,hn,hr];try (simp[Zc.enc];done)
 ·obtain⟨a,x,h1,h2,h3,h4⟩:=Zio (by omega:0≤Vb 0 l ⟨xW,xH,xT,xK⟩);rw[LH] at h1;rw[h1] at e2;rw[Zuo _ _ _ a x h2 h3 h4];have aa:=hc x (Kb h2);obtain⟨⟨W,H,T,K⟩,C⟩:=x;simp only[Pane.mk.injEq] at h3 aa;obtain⟨rfl,rfl,rfl,rfl⟩:=h3;have u0:=wi (C+xC) aa.1 aa.2;have ab:=(Kc.1 h2).1;have ha:(0:Int)≤(a:Int):=by omega
  refine cE ?_;simp +contextual -implicitDefEqProofs (maxSteps:=10^7) only[go_sem,seval,↓gZ,Zdm,e1,e2,ha,h2,ab,u0];try (simp[Zc.enc,L0];done)
def tkV (l:List Zc) (p:Pane) (c:Int):AV×List Zn:=
 if Xl p c false l=true then (.tup [.own 0,(.d (.bool true))],[.row 5 ((Yd l p c).map Zc.enc) true false]) else (.tup [.own 0,(.d (.bool false))],[.row 5 [] true false])
theorem ZaL (l:List Zc) (xW xH:Int) (xT:Bool) (xK xC:Int) (hl:l.length≤1048576) (hu:UL l) (hc:∀ y∈l,R64 (y.Count-xC)):Zd Xs Ms WM [(.d (.sl (l.map Zc.enc))),(.d (.agg [J xW,J xH,.bool xT,J xK,J xC]))] []=some (tkV l ⟨xW,xH,xT,xK⟩ xC):=by
 have e1:=Zf1 l hl;have e2:=ZdG l xW xH xT xK (by omega);by_cases hf:Vb 0 l ⟨xW,xH,xT,xK⟩<0
 ·have hn:=Zip (c:=xC) (b:=false) (Zk6 hf);have ek:tkV l ⟨xW,xH,xT,xK⟩ xC=(.tup [.own 0,(.d (.bool false))],[.row 5 [] true false]):=by unfold tkV;rw[hn,Kg (by simp)]
  rw[ek];refine cE ?_;simp +contextual -implicitDefEqProofs (maxSteps:=10^7) only[go_sem,seval,↓gZ,WS,e1,e2,hf]
 ·obtain⟨a,x,h1,h2,h3,h4⟩:=Zio (by omega:0≤Vb 0 l ⟨xW,xH,xT,xK⟩);rw[LH] at h1;rw[h1] at e2;obtain⟨k1,k2⟩:=ZpI (c:=xC) hu h2 h3;have ad:=hc x (Kb h2);obtain⟨⟨W,H,T,K⟩,C⟩:=x;simp only[Pane.mk.injEq] at h3 ad k1 k2;obtain⟨rfl,rfl,rfl,rfl⟩:=h3;have u0:=wi (C-xC) ad.1 ad.2;have ab:=(Kc.1 h2).1;have ha:¬(a:Int)<0:=by omega
  have hw:=Zh (k:=a) (by omega);have e3:=ZmM (l.set a ⟨⟨W,H,T,K⟩,0⟩) a (by simpa using ab);by_cases ae:C<xC
  ·have hx:¬0≤C-xC:=by omega
   have ek:tkV l ⟨W,H,T,K⟩ xC=(.tup [.own 0,(.d (.bool false))],[.row 5 [] true false]):=by unfold tkV;rw[k1,Ki hx,Kg (by simp)]
   rw[ek];refine cE ?_;simp +contextual -implicitDefEqProofs (maxSteps:=10^7) only[go_sem,seval,↓gZ,WS,e1,e2,ha,h2,ab,ae]
  ·have hx:0≤C-xC:=by omega
   by_cases hz:C-xC=0
   ·have ek:tkV l ⟨W,H,T,K⟩ xC=(.tup [.own 0,(.d (.bool true))],[.row 5 ((l.eraseIdx a).map Zc.enc) true false]):=by unfold tkV;rw[k1,Kh hx,Kj rfl,k2,Kg (by omega)]
    rw[ek];have es:(l.set a ⟨⟨W,H,T,K⟩,0⟩).eraseIdx a=l.eraseIdx a:=by simp[List.eraseIdx_set_eq]
    rw[es,L0] at e3;simp only[Zc.enc] at e3;have aa:((a:Int)+1)=((a+1:Nat):Int):=by omega
    rw[aa] at e3;rw[hz] at u0;refine cE ?_;simp +contextual -implicitDefEqProofs (maxSteps:=10^7) only[go_sem,seval,↓gZ,WS,e1,e2,ha,h2,ab,ae,hz,u0,hw,e3,L0,LQ,LR]
   ·have ek:tkV l ⟨W,H,T,K⟩ xC=(.tup [.own 0,(.d (.bool true))],[.row 5 ((l.set a ⟨⟨W,H,T,K⟩,C-xC⟩).map Zc.enc) true false]):=by unfold tkV;rw[k1,Kh hx,Kj rfl,k2,Kj (by omega)]
    rw[ek];refine cE ?_;simp +contextual -implicitDefEqProofs (maxSteps:=10^7) only[go_sem,seval,↓gZ,WS,e1,e2,ha,h2,ab,ae,hz,u0,L0,LQ,LR]
theorem YF (sS:List Zb) (sO sD:List Zc) (sL sC:Int) (h:Zcc (Zq.mk sS sO sD sL sC)):Zd Xs Ms WI [(.d (.agg [.sl (sS.map Zb.enc),.sl (sO.map Zc.enc),.sl (sD.map Zc.enc),J sL,J sC]))] []=some (.agg [.own 0,.own 1,.own 2,(.d (J sL)),(.d (J sC))],[.tree 4 4 (sS.map Zb.enc) none,.row 5 (sO.map Zc.enc) true false,.row 5 (sD.map Zc.enc) true false]):=by
 obtain⟨h1,h2,h3,h4⟩:=h;simp only at h1 h2 h3 h4;have e1:=Zca sS (by omega) (fun x hx=>by have:=(h2 x hx).1;omega);have r1:sO.length*40≤140737488355328∧sO.length≤140737488355328:=by omega
 have r2:sD.length*40≤140737488355328∧sD.length≤140737488355328:=by omega
 refine cE ?_;simp +contextual -implicitDefEqProofs (maxSteps:=10^7) only[go_sem,seval,↓gZ,Ze3,e1,r1,r2]
theorem Uy (xW xH:Int) (xT:Bool) (xK xC:Int):Zd Xs Ms Y3 [(.d (.agg [J xW,J xH,.bool xT,J xK,J xC]))] []=some ((.d (.bool (decide (Uc ⟨⟨xW,xH,xT,xK⟩,xC⟩)))),[]):=by
 have e1:=U9 xW xH xT xK;refine cE ?_;by_cases v1:VP ⟨xW,xH,xT,xK⟩
 ·rw[Kh v1] at e1;by_cases v2:1≤xC
  ·by_cases v3:xC≤24
   ·have h:Uc ⟨⟨xW,xH,xT,xK⟩,xC⟩:=⟨v1,v2,v3⟩
    simp +contextual -implicitDefEqProofs (maxSteps:=10^7) only[go_sem,seval,↓gZ,Y4,e1,v2,v3,h]
   ·have h:¬Uc ⟨⟨xW,xH,xT,xK⟩,xC⟩:=fun h=>v3 h.2.2;simp +contextual -implicitDefEqProofs (maxSteps:=10^7) only[go_sem,seval,↓gZ,Y4,e1,v2,v3,h]
  ·have h:¬Uc ⟨⟨xW,xH,xT,xK⟩,xC⟩:=fun h=>v2 h.2.1;simp +contextual -implicitDefEqProofs (maxSteps:=10^7) only[go_sem,seval,↓gZ,Y4,e1,v2,h]
 ·rw[Ki v1] at e1;have h:¬Uc ⟨⟨xW,xH,xT,xK⟩,xC⟩:=fun h=>v1 h.1;simp +contextual -implicitDefEqProofs (maxSteps:=10^7) only[go_sem,seval,↓gZ,Y4,e1,h]
theorem Zsc (sS:List Zb) (sO sD:List Zc) (sL sC:Int) (eK eL eX eY eW eH aa ab:Int) (ad:Bool) (ae eC eo ea ep:Int) (et:Bool) (ek:List Ze) (hl:sS.length≤100000) (hn:¬((ZdH ⟨eL,eW,eH,[]⟩ sS∧eX=0)∧eY=0)):Zd Xs Ms WJ [.ptr 0 0,(.d (.agg [J eK,J eL,J eX,J eY,J eW,J eH,J aa,J ab,.bool ad,J ae,J eC,J eo,J ea,J ep,.bool et,.sl (ek.map Ze.enc)]))] [.box [.own 1,.own 2,.own 3,(.d (J sL)),(.d (J sC))],.tree 4 4 (sS.map Zb.enc) none,.row 5 (sO.map Zc.enc) true false,.row 5 (sD.map Zc.enc) true false]=some ((.d (.bool false)),[.box [.own 1,.own 2,.own 3,(.d (J sL)),(.d (J sC))],.tree 4 4 (sS.map Zb.enc) none,.row 5 (sO.map Zc.enc) true false,.row 5 (sD.map Zc.enc) true false]):=by
 by_cases hx:eX=0
 ·by_cases hy:eY=0
  ·have ha:¬ZdH ⟨eL,eW,eH,[]⟩ sS:=fun h=>hn ⟨⟨h,hx⟩,hy⟩;have e1:=Zi4 sS eL eW eH [] hl;rw[Ki ha,Kg ha] at e1;simp only[KM] at e1;refine cE ?_;simp +contextual -implicitDefEqProofs (maxSteps:=10^7) only[go_sem,seval,↓gZ,WP,hx,hy,e1]
  ·refine cE ?_;simp +contextual -implicitDefEqProofs (maxSteps:=10^7) only[go_sem,seval,↓gZ,WP,hx,hy]
 ·refine cE ?_;simp +contextual -implicitDefEqProofs (maxSteps:=10^7) only[go_sem,seval,↓gZ,WP,hx]
theorem ZpM (sS:List Zb) (sO sD:List Zc) (sL sC:Int) (eK eL eX eY eW eH aa ab:Int) (ad:Bool) (ae eC eo ea ep:Int) (et:Bool) (ek:List Ze) (hv:ZF (Zq.mk sS sO sD sL sC)) (ha:ZdH ⟨eL,eW,eH,[]⟩ sS) (hx:eX=0) (hy:eY=0):Zd Xs Ms WJ [.ptr 0 0,(.d (.agg [J eK,J eL,J eX,J eY,J eW,J eH,J aa,J ab,.bool ad,J ae,J eC,J eo,J ea,J ep,.bool et,.sl (ek.map Ze.enc)]))] [.box [.own 1,.own 2,.own 3,(.d (J sL)),(.d (J sC))],.tree 4 4 (sS.map Zb.enc) none,.row 5 (sO.map Zc.enc) true false,.row 5 (sD.map Zc.enc) true false] =
  some ((.d (.bool true)),[.box [.own 4,.own 2,.own 3,(.d (J sL)),(.d (J (sC+eW*eH)))],.tree 4 4 (sS.map Zb.enc) none,.row 5 (sO.map Zc.enc) true false,.row 5 (sD.map Zc.enc) true false,.tree 4 4 ((YP ⟨eL,eW,eH,[]⟩ sS).map Zb.enc) none]):=by
 have af:=hv.1.1;simp only at af;have e1:=Zi4 sS eL eW eH [] (by omega);rw[Kh ha,Kj ha] at e1;simp only[KM] at e1;have hp:=ha.1.2.1;simp only at hp;subst hx hy;have hb:VB ⟨0,0,eW,eH⟩:=by simp only[VB];omega
 have e2:=Zli 0 0 eW eH hb;have h3:=J4 hb;simp only at h3;have h4:=hv.2.2.2;simp only at h4;have u0:=wi (sC+eW*eH) (by omega) (by omega);generalize YP ⟨eL,eW,eH,[]⟩ sS=Q at *;refine cE ?_;simp +contextual -implicitDefEqProofs (maxSteps:=10^7) only[go_sem,seval,↓gZ,WP,e1,e2,u0]
theorem Zt9 (sS:List Zb) (sO sD:List Zc) (sL sC:Int) (eK eL eX eY eW eH aa ab:Int) (ad:Bool) (ae eC eo ea ep:Int) (et:Bool) (ek:List Ze) (hl:sS.length≤100000) (hn:QI 0 sS eL<0):Zd Xs Ms UX [.ptr 0 0,(.d (.agg [J eK,J eL,J eX,J eY,J eW,J eH,J aa,J ab,.bool ad,J ae,J eC,J eo,J ea,J ep,.bool et,.sl (ek.map Ze.enc)]))] [.box [.own 1,.own 2,.own 3,(.d (J sL)),(.d (J sC))],.tree 4 4 (sS.map Zb.enc) none,.row 5 (sO.map Zc.enc) true false,.row 5 (sD.map Zc.enc) true false]=some ((.d (.bool false)),[.box [.own 1,.own 2,.own 3,(.d (J sL)),(.d (J sC))],.tree 4 4 (sS.map Zb.enc) none,.row 5 (sO.map Zc.enc) true false,.row 5 (sD.map Zc.enc) true false]):=by
 have e1:=Yc sS eL (by omega);refine cE ?_;simp +contextual -implicitDefEqProofs (maxSteps:=10^7) only[go_sem,seval,↓gZ,Zdl,e1,hn]
theorem Zsd (sS:List Zb) (sO sD:List Zc) (sL sC:Int) (eK eL eX eY eW eH ab ad:Int) (ae:Bool) (af eC eo ea ep:Int) (et:Bool) (ek:List Ze) (hl:sS.length≤100000) (a:Nat) (ha:QI 0 sS eL=(a:Int)) (xL xW xH:Int) (xF:List Box) (hx:sS[a]?=some (Zb.mk xL xW xH xF)) (hF:xF.length≤1000):Zd Xs Ms UX [.ptr 0 0,(.d (.agg [J eK,J eL,J eX,J eY,J eW,J eH,J ab,J ad,.bool ae,J af,J eC,J eo,J ea,J ep,.bool et,.sl (ek.map Ze.enc)]))] [.box [.own 1,.own 2,.own 3,(.d (J sL)),(.d (J sC))],.tree 4 4 (sS.map Zb.enc) none,.row 5 (sO.map Zc.enc) true false,.row 5 (sD.map Zc.enc) true false] =
  some ((.d (.bool true)),[.box [.own 1,.own 2,.own 3,(.d (J sL)),(.d (J sC))],.tree 4 4 ((sS.set a ⟨xL,xW,xH,xF++[⟨eX,eY,eW,eH⟩]⟩).map Zb.enc) none,.row 5 (sO.map Zc.enc) true false,.row 5 (sD.map Zc.enc) true false]):=by
 have e1:=Yc sS eL (by omega);rw[ha] at e1;have h0:¬(a:Int)<0:=by omega
 have ag : (0:Int)≤(a:Int):=by omega
 have ah:=(Kc.1 hx).1;have hr:(xF.length+1)*32≤140737488355328∧xF.length≤140737488355327:=by omega
 have ai:=Zb9 xF;have aa:=Zb9 (xF++[⟨eX,eY,eW,eH⟩]);rw[KU] at aa;simp only[Ko,KM,Box.enc] at aa;refine cE ?_;simp +contextual -implicitDefEqProofs (maxSteps:=10^7) only[go_sem,seval,↓gZ,Zdl,e1,h0,ag,hx,ah,hr,ai,aa,LR,KW,Kaz];simp[Zb.enc,Box.enc,L0]
theorem Zo1 (sS:List Zb) (sO sD:List Zc) (sL sC:Int) (eK eL eX eY eW eH aa ab:Int) (ad:Bool) (ae eC eo ea ep:Int) (et:Bool) (ek:List Ze) (hn:¬Uc ⟨⟨aa,ab,ad,ae⟩,eC⟩):Zd Xs Ms YZ [.ptr 0 0,(.d (.agg [J eK,J eL,J eX,J eY,J eW,J eH,J aa,J ab,.bool ad,J ae,J eC,J eo,J ea,J ep,.bool et,.sl (ek.map Ze.enc)]))] [.box [.own 1,.own 2,.own 3,(.d (J sL)),(.d (J sC))],.tree 4 4 (sS.map Zb.enc) none,.row 5 (sO.map Zc.enc) true false,.row 5 (sD.map Zc.enc) true false]=some ((.d (.bool false)),[.box [.own 1,.own 2,.own 3,(.d (J sL)),(.d (J sC))],.tree 4 4 (sS.map Zb.enc) none,.row 5 (sO.map Zc.enc) true false,.row 5 (sD.map Zc.enc) true false]):=by
 have e1:=Uy aa ab ad ae eC;rw[Ki hn] at e1;refine cE ?_;simp +contextual -implicitDefEqProofs (maxSteps:=10^7) only[go_sem,seval,↓gZ,JN,e1]
theorem ZmN (sS:List Zb) (sO sD:List Zc) (sL sC:Int) (eK eL eX eY eW eH aa ab:Int) (ad:Bool) (ae eC eo ea ep:Int) (et:Bool) (ek:List Ze) (hv:ZF (Zq.mk sS sO sD sL sC)) (hn:Uc ⟨⟨aa,ab,ad,ae⟩,eC⟩):Zd Xs Ms YZ [.ptr 0 0,(.d (.agg [J eK,J eL,J eX,J eY,J eW,J eH,J aa,J ab,.bool ad,J ae,J eC,J eo,J ea,J ep,.bool et,.sl (ek.map Ze.enc)]))] [.box [.own 1,.own 2,.own 3,(.d (J sL)),(.d (J sC))],.tree 4 4 (sS.map Zb.enc) none,.row 5 (sO.map Zc.enc) true false,.row 5 (sD.map Zc.enc) true false] =
  some ((.d (.bool true)),[.box [.own 1,.own 4,.own 3,(.d (J sL)),(.d (J sC))],.tree 4 4 (sS.map Zb.enc) none,.row 5 (sO.map Zc.enc) true false,.row 5 (sD.map Zc.enc) true false,.row 5 ((Vi ⟨aa,ab,ad,ae⟩ eC sO).map Zc.enc) true false]):=by
 have e1:=Uy aa ab ad ae eC;rw[Kh hn] at e1;have e2:=ZbD sO aa ab ad ae eC (by have:=hv.2.1.1;simp only at this;omega) (fun x hx=>by have:=(Q3 hv.2.1 x hx).2;have:=hn.2;simp only at this;unfold R64;omega);refine cE ?_;simp +contextual -implicitDefEqProofs (maxSteps:=10^7) only[go_sem,seval,↓gZ,JN,e1,e2]
theorem Zo2 (sS:List Zb) (sO sD:List Zc) (sL sC:Int) (eK eL eX eY eW eH aa ab:Int) (ad:Bool) (ae eC eo ea ep:Int) (et:Bool) (ek:List Ze) (hv:ZF (Zq.mk sS sO sD sL sC)) (hn:¬(Uc ⟨⟨aa,ab,ad,ae⟩,eC⟩∧Xl ⟨aa,ab,ad,ae⟩ eC false sD=true)):Zd Xs Ms Y0 [.ptr 0 0,(.d (.agg [J eK,J eL,J eX,J eY,J eW,J eH,J aa,J ab,.bool ad,J ae,J eC,J eo,J ea,J ep,.bool et,.sl (ek.map Ze.enc)]))] [.box [.own 1,.own 2,.own 3,(.d (J sL)),(.d (J sC))],.tree 4 4 (sS.map Zb.enc) none,.row 5 (sO.map Zc.enc) true false,.row 5 (sD.map Zc.enc) true false]=some ((.d (.bool false)),[.box [.own 1,.own 2,.own 3,(.d (J sL)),(.d (J sC))],.tree 4 4 (sS.map Zb.enc) none,.row 5 (sO.map Zc.enc) true false,.row 5 (sD.map Zc.enc) true false]):=by
 have e1:=Uy aa ab ad ae eC;by_cases hl:Uc ⟨⟨aa,ab,ad,ae⟩,eC⟩
 ·rw[Kh hl] at e1;have e2:=ZaL sD aa ab ad ae eC (by have:=hv.2.2.1.1;simp only at this;omega) (ZeR hv.2.2.1) (fun x hx=>by have:=(Q3 hv.2.2.1 x hx).2;have:=hl.2;simp only at this;unfold R64;omega);unfold tkV at e2;rw[Kg (fun h=>hn ⟨hl,h⟩)] at e2;refine cE ?_;simp +contextual -implicitDefEqProofs (maxSteps:=10^7) only[go_sem,seval,↓gZ,Wr,e1,e2]
 ·rw[Ki hl] at e1;refine cE ?_;simp +contextual -implicitDefEqProofs (maxSteps:=10^7) only[go_sem,seval,↓gZ,Wr,e1]
theorem ZmO (sS:List Zb) (sO sD:List Zc) (sL sC:Int) (eK eL eX eY eW eH aa ab:Int) (ad:Bool) (ae eC eo ea ep:Int) (et:Bool) (ek:List Ze) (hv:ZF (Zq.mk sS sO sD sL sC)) (hl:Uc ⟨⟨aa,ab,ad,ae⟩,eC⟩) (hk:Xl ⟨aa,ab,ad,ae⟩ eC false sD=true):Zd Xs Ms Y0 [.ptr 0 0,(.d (.agg [J eK,J eL,J eX,J eY,J eW,J eH,J aa,J ab,.bool ad,J ae,J eC,J eo,J ea,J ep,.bool et,.sl (ek.map Ze.enc)]))] [.box [.own 1,.own 2,.own 3,(.d (J sL)),(.d (J sC))],.tree 4 4 (sS.map Zb.enc) none,.row 5 (sO.map Zc.enc) true false,.row 5 (sD.map Zc.enc) true false] =
  some ((.d (.bool true)),[.box [.own 1,.own 4,.own 5,(.d (J (sL+eC*aa*ab))),(.d (J sC))],.tree 4 4 (sS.map Zb.enc) none,.row 5 (sO.map Zc.enc) true false,.row 5 (sD.map Zc.enc) true false,.row 5 ((Vi ⟨aa,ab,ad,ae⟩ eC sO).map Zc.enc) true false,.row 5 ((Yd sD ⟨aa,ab,ad,ae⟩ eC).map Zc.enc) true false]):=by
 have e1:=Uy aa ab ad ae eC;rw[Kh hl] at e1;have e2:=ZaL sD aa ab ad ae eC (by have:=hv.2.2.1.1;simp only at this;omega) (ZeR hv.2.2.1) (fun x hx=>by have:=(Q3 hv.2.2.1 x hx).2;have:=hl.2;simp only at this;unfold R64;omega);unfold tkV at e2;rw[Kj hk] at e2;have e3:=ZbD sO aa ab ad ae eC (by have:=hv.2.1.1;simp only at this;omega) (fun x hx=>by have:=(Q3 hv.2.1 x hx).2;have:=hl.2;simp only at this;unfold R64;omega);have af:=Zel hl;have h6:=hv.2.2.2;simp only at af h6;have u0:=wi (eC*aa) (by omega) (by omega);have u1:=wi (eC*aa*ab) (by omega) (by omega);have u2:=wi (sL+eC*aa*ab) (by omega) (by omega)
 refine cE ?_;simp +contextual -implicitDefEqProofs (maxSteps:=10^7) only[go_sem,seval,↓gZ,Wr,e1,e2,e3,u0,u1,u2]
theorem Zo3 (sS:List Zb) (sO sD:List Zc) (sL sC:Int) (eK eL eX eY eW eH aa ab:Int) (ad:Bool) (ae eC eo ea ep:Int) (et:Bool) (ek:List Ze) (hn:QI 0 sS eL<0):Zd Xs Ms Y1 [.ptr 0 0,(.d (.agg [J eK,J eL,J eX,J eY,J eW,J eH,J aa,J ab,.bool ad,J ae,J eC,J eo,J ea,J ep,.bool et,.sl (ek.map Ze.enc)]))] [.box [.own 1,.own 2,.own 3,(.d (J sL)),(.d (J sC))],.tree 4 4 (sS.map Zb.enc) none,.row 5 (sO.map Zc.enc) true false,.row 5 (sD.map Zc.enc) true false]=some ((.d (.bool false)),[.box [.own 1,.own 2,.own 3,(.d (J sL)),(.d (J sC))],.tree 4 4 (sS.map Zb.enc) none,.row 5 (sO.map Zc.enc) true false,.row 5 (sD.map Zc.enc) true false]):=by
 have e1:=ZgN sS eL (fun h=>by omega);refine cE ?_;simp +contextual -implicitDefEqProofs (maxSteps:=10^7) only[go_sem,seval,↓gZ,JO,e1]
theorem ZmP (sS:List Zb) (sO sD:List Zc) (sL sC:Int) (eK eL eX eY eW eH aa ab:Int) (ad:Bool) (ae eC eo ea ep:Int) (et:Bool) (ek:List Ze) (hv:ZF (Zq.mk sS sO sD sL sC)) (a:Nat) (ha:QI 0 sS eL=(a:Int)) (xL xW xH:Int) (xF:List Box) (hx:sS[a]?=some (Zb.mk xL xW xH xF)):Zd Xs Ms Y1 [.ptr 0 0,(.d (.agg [J eK,J eL,J eX,J eY,J eW,J eH,J aa,J ab,.bool ad,J ae,J eC,J eo,J ea,J ep,.bool et,.sl (ek.map Ze.enc)]))] [.box [.own 1,.own 2,.own 3,(.d (J sL)),(.d (J sC))],.tree 4 4 (sS.map Zb.enc) none,.row 5 (sO.map Zc.enc) true false,.row 5 (sD.map Zc.enc) true false] =
  some ((.d (.bool true)),[.box [.own 4,.own 2,.own 3,(.d (J (sL+xW*xH))),(.d (J sC))],.tree 4 4 (sS.map Zb.enc) none,.row 5 (sO.map Zc.enc) true false,.row 5 (sD.map Zc.enc) true false,.tree 4 4 ((sS.eraseIdx a).map Zb.enc) none]):=by
 have e1:=Zf8 sS eL hv.1 a ha xL xW xH xF hx;have af:=(Z0 hv.1.2 _ (Kb hx)).1;simp only at af;have h6:=hv.2.2.2;simp only at h6;have hb:VB ⟨0,0,xW,xH⟩:=by simp only[VB];omega
 have h3:=J4 hb;simp only at h3;have u0:=wi (xW*xH) (by omega) (by omega);have u1:=wi (sL+xW*xH) (by omega) (by omega);refine cE ?_;simp +contextual -implicitDefEqProofs (maxSteps:=10^7) only[go_sem,seval,↓gZ,JO,e1,u0,u1]
end Go.Proofs.YthgciclhiaoecaaGreat
