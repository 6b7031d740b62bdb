/- Own text. -/
import Derived.Test.YtcefneehgbiebaaGreatDoorACode
import Derived.Test.YtcefneehgbiebaaGreatDoorAbsParts
import Derived.Test.YtcefneehgbiebaaGreatDoorAC6
namespace Go.Proofs.YtcefneehgbiebaaGreatDoor
open Go Go.Abs Go.Abs.E Go.Abs.L
open Nat (reduceMul reduceSub reduceLeDiff reduceEqDiff)
open Int (reduceLE reduceEq reduceToNat reduceNeg)
set_option linter.unusedSimpArgs false
set_option linter.unusedVariables false
set_option maxRecDepth 20000
set_option maxHeartbeats 4000000
def UL (l:List Zc):Prop:=(l.map Zc.Pane).Nodup∧∀ x∈l,1≤x.Count
theorem ZqE:∀ {l:List Zc} {q:List Pane},Zli q l→(l.map Zc.Pane).Nodup∧∀ p∈l.map Zc.Pane,p∉q
 | [],_,_=>by simp
 | x :: l,q,h=>by
  obtain⟨h1,h2,h3,h4,h5⟩:=h;obtain⟨a,b⟩:=ZqE h5;refine⟨?_,?_⟩
  ·rw[Kk,L7];exact⟨fun hm=>b _ hm (by simp),a⟩
  ·intro p hp;rw[Kk,Ke] at hp;rcases hp with rfl | hp
   ·exact h2
   ·exact fun hq=>b p hp (by simp[hq])
theorem Zmh {l:List Zc} (h:Za9 l):UL l:=⟨(ZqE h.2.1).1,fun x hx=>(XO h x hx).2.1⟩
theorem ZnG:∀ {l:List Zc} {k:Nat} {p:Pane},0≤WM k l p→∃ a x,WM k l p=((k+a:Nat):Int)∧l[a]?=some x∧x.Pane=p∧p∉(l.take a).map Zc.Pane
 | [],k,p,h=>by simp[WM] at h
 | x :: l,k,p,h=>by
  unfold WM at h ⊢;split
  ·rename_i e;exact⟨0,x,by simp,by simp,e,by simp⟩
  ·rename_i e;rw[Kd e] at h;obtain⟨a,y,h1,h2,h3,h4⟩:=ZnG h;refine⟨a+1,y,by rw[h1];congr 1;omega,by simpa using h2,h3,?_⟩;simp only[LK,Kk,Ke,not_or];exact⟨fun e'=>e e'.symm,h4⟩
theorem ZqF:∀ {l:List Zc} {k:Nat} {p:Pane},WM k l p<0→p∉l.map Zc.Pane
 | [],k,p,h=>by simp
 | x :: l,k,p,h=>by
  unfold WM at h;split at h
  ·omega
  ·rename_i e;simp only[Kk,Ke,not_or];exact⟨fun e'=>e e'.symm,ZqF h⟩
theorem ZnH {p:Pane} {c:Int}:∀ {l:List Zc} {b:Bool},p∉l.map Zc.Pane→Xo p c b l=b
 | [],b,_=>rfl
 | x :: l,b,h=>by
  simp only[Kk,Ke,not_or] at h;rw[Xo,Kd (fun e=>h.1 e.symm),ZnH h.2]
theorem ZvI {p:Pane} {c:Int}:∀ {l:List Zc},p∉l.map Zc.Pane→(∀ x∈l,1≤x.Count)→X0 l p c=l
 | [],_,_=>rfl
 | x :: l,h,hc=>by
  simp only[Kk,Ke,not_or] at h;have h0:=hc x (by simp);have ih:=ZvI (p:=p) (c:=c) h.2 (fun y hy=>hc y (by simp[hy]));unfold X0 at ih ⊢;rw[Le,Zh9,Kd (fun e=>h.1 e.symm),Kh (by omega),ih]
theorem ZvJ {p:Pane} {c:Int}:∀ {l:List Zc} {a:Nat} {x:Zc},UL l→l[a]?=some x→x.Pane=p→Xo p c false l=decide (0≤x.Count-c)∧X0 l p c=if 0<x.Count-c then l.set a ⟨p,x.Count-c⟩ else l.eraseIdx a
 | [],a,x,_,h,_=>by simp at h
 | y :: l,0,x,hu,h,e=>by
  simp only[Lm,Option.some.injEq] at h;subst h;obtain⟨h1,h2⟩:=hu;rw[Kk,L7,e] at h1;have hl:=ZvI (p:=p) (c:=c) h1.1 (fun z hz=>h2 z (by simp[hz]));refine⟨by rw[Xo,Kh e,ZnH h1.1],?_⟩;unfold X0 at hl ⊢;rw[Le,Zh9,Kh e];by_cases hc:0<y.Count-c
  ·rw[Kh hc,Kh hc,hl,e];rfl
  ·rw[Kd hc,Kd hc,hl];rfl
 | y :: l,a+1,x,hu,h,e=>by
  simp only[Ln] at h;obtain⟨h1,h2⟩:=hu;rw[Kk,L7] at h1;have aa:y.Pane≠p:=fun e'=>h1.1 (by rw[e',← e];exact L5 (Kc h));obtain⟨i1,i2⟩:=ZvJ (p:=p) (c:=c) (l:=l) ⟨h1.2,fun z hz=>h2 z (by simp[hz])⟩ h e;refine⟨by rw[Xo,Kd aa,i1],?_⟩;have h0:=h2 y (by simp);unfold X0 at i2 ⊢;rw[Le,Zh9,Kd aa,Kh (by omega),i2];by_cases hc:0<x.Count-c
  ·rw[Kh hc,Kh hc];rfl
  ·rw[Kd hc,Kd hc];rfl
theorem ZvK {l:List Zc} {p:Pane} {c:Int} (h:UL l):UL (X0 l p c):=by
 have hs:∀ (l:List Zc),((X0 l p c).map Zc.Pane).Sublist (l.map Zc.Pane):=by
  intro l
  induction l with
  | nil=>simp[X0]
  | cons x l ih=>
   unfold X0 at ih ⊢;rw[Le];unfold Zh9 at ih ⊢;split
   ·exact ih.trans (by simp)
   ·rename_i y hy;split at hy
    ·split at hy
     ·cases hy;simpa using ih
     ·cases hy
    ·split at hy
     ·cases hy;simpa using ih
     ·cases hy
 refine⟨List.Nodup.sublist (hs l) h.1,fun y hy=>?_⟩;obtain⟨x,hx,e⟩:=Lk.1 hy;have:=h.2 x hx;unfold Zh9 at e;split at e
 ·split at e
  ·cases e;simp only;omega
  ·cases e
 ·split at e
  ·cases e;omega
  ·cases e
theorem ZqG (p:Pane) (c:Int):∀ (l:List Zc),(YR p c l).map Zc.Pane=if p∈l.map Zc.Pane then l.map Zc.Pane else l.map Zc.Pane++[p]
 | []=>by simp[YR]
 | x :: l=>by
  unfold YR;by_cases e:x.Pane=p
  ·simp[e]
  ·have ih:=ZqG p c l;have e' : ¬p=x.Pane:=fun h=>e h.symm;simp only[Kd e,Kk,Ke,e',false_or,ih];split<;>simp
theorem ZyF {l:List Zc} {p:Pane} {c:Int} (h:UL l) (hc:1≤c):UL (YR p c l):=by
 refine⟨?_,?_⟩
 ·rw[ZqG];split
  ·exact h.1
  ·rename_i hn;refine List.nodup_append.2 ⟨h.1,by simp,fun a ha b hb=>?_⟩;simp only[KA] at hb;subst hb;exact fun e=>hn (e ▸ ha)
 ·have aa:∀ (l:List Zc),(∀ x∈l,1≤x.Count)→∀ x∈YR p c l,1≤x.Count:=by
   intro l
   induction l with
   | nil=>intro _ x hx;simp[YR] at hx;subst hx;exact hc
   | cons y l ih=>
    intro h x hx;have hy:=h y (by simp);unfold YR at hx;split at hx
    ·rcases Ke.1 hx with rfl | hx
     ·simp only;omega
     ·exact h x (by simp[hx])
    ·rcases Ke.1 hx with rfl | hx
     ·exact hy
     ·exact ih (fun z hz=>h z (by simp[hz])) x hx
  exact aa l h.2
theorem ZjF : ∀ {l:List Zb} {b:Int},XB b l→∀ x∈l,b<x.Label
 | [],_,_,x,hx=>by simp at hx
 | y :: l,b,h,x,hx=>by
  rcases Ke.1 hx with rfl | hx
  ·exact h.2.1
  ·have:=ZjF h.2.2 x hx;have:=h.2.1;omega
theorem ZqH (q:Zb):∀ (l:List Zb),q∈QC q l
 | []=>by simp[QC]
 | x :: l=>by
  unfold QC;split
  ·simp
  ·exact KB _ (ZqH q l)
theorem ZoB {q:Zb} (hq:VPc q):∀ {l:List Zb} {b:Int},XB b l→b<q.Label→(XB b (QC q l)↔q.Label∉l.map Zb.Label)
 | [],b,h,hb=>by simp[QC,XB,hq,hb]
 | x :: l,b,h,hb=>by
  obtain⟨h1,h2,h3⟩:=h;unfold QC;by_cases aa:q.Label<x.Label
  ·rw[Kh aa];refine⟨fun _ hm=>?_,fun _=>⟨hq,hb,h1,aa,h3⟩⟩;rw[Kk,Ke] at hm;rcases hm with hm | hm
   ·omega
   ·obtain⟨y,hy,e⟩:=La.1 hm;have:=ZjF h3 y hy;omega
  ·rw[Kd aa];by_cases he:x.Label=q.Label
   ·constructor
    ·intro hs;have:=ZjF hs.2.2 q (ZqH q l);omega
    ·intro hn;exact absurd (by simp[he]) hn
   ·have ih:=ZoB hq h3 (by omega:x.Label<q.Label);rw[Kk,Ke,not_or,XB,ih];exact⟨fun h=>⟨fun e=>he e.symm,h.2.2⟩,fun h=>⟨h1,h2,h.2⟩⟩
theorem ZvL:∀ {l:List Zb} {k:Nat} {n:Int},QA k l n<0↔n∉l.map Zb.Label
 | [],k,n=>by simp[QA]
 | x :: l,k,n=>by
  unfold QA;have ih:=ZvL (l:=l) (k:=k+1) (n:=n);by_cases he:x.Label=n
  ·rw[Kh he];simp only[Kk,Ke,he,true_or,not_true,iff_false];omega
  ·rw[Kd he,ih,Kk,Ke,not_or];exact⟨fun h=>⟨fun e=>he e.symm,h⟩,fun h=>h.2⟩
theorem ZAK {q:Zb} {l:List Zb} (h1:VSt l) (h2:VPc q):WX q l↔l.length≠20∧QA 0 l q.Label<0:=by
 have h3:=ZoB h2 h1.2 (by have:=h2.1.1;omega:0<q.Label);have h4:=h1.1;unfold WX;rw[ZvL,← h3];simp only[VSt,ZnB];constructor
 ·rintro ⟨_,a,b⟩;exact⟨by omega,b⟩
 ·rintro ⟨a,b⟩;exact⟨⟨⟨h4,h1.2⟩,h2⟩,by omega,b⟩
theorem Zkl (l:List Zb) (qL qW qH:Int) (qF:List Box) (hl:l.length≤100000):Ze Xs Ms Zam [(.d (.sl (l.map Zb.enc))),(.d (.agg [J qL,J qW,J qH,.sl (qF.map Box.enc)]))] [] =
  some (.tup [.own 0,(.d (.bool (decide (WX (Zb.mk qL qW qH qF) l))))],[.row 4 ((if WX (Zb.mk qL qW qH qF) l then QC (Zb.mk qL qW qH qF) l else []).map Zb.enc) true false]):=by
 have e1:=Wg l;have e2:=Xl qL qW qH qF;have e3:=Vp l qL (by omega);by_cases v1:VSt l
 ·rw[Ki v1] at e1;by_cases v2:VPc (Zb.mk qL qW qH qF)
  ·rw[Ki v2] at e2;have hA:=ZAK v1 v2;simp only at hA;have hF:=(ZcY v1).2;have af:qF.length≤1000000:=by have:=v2.1.2.2.2.2.2.2;simp only at this;omega
   by_cases v3:l.length=20
   ·have h:¬WX (Zb.mk qL qW qH qF) l:=fun h=>(hA.1 h).1 v3;have ab : ((l.length:Int)=20):=by omega
    rw[Kj h,Kd h];refine cE ?_;simp +contextual -implicitDefEqProofs (maxSteps:=10^7) only[go_sem,seval,↓gZ,V7,e1,e2,ab]
   ·have ab : ¬((l.length:Int)=20):=by omega
    by_cases v4:QA 0 l qL<0
    ·have h:WX (Zb.mk qL qW qH qF) l:=hA.2 ⟨v3,v4⟩;have aa : ¬(0≤QA 0 l qL):=by omega
     have eq:=J7 qL qW qH qF af;rw[Ki h,Kh h];generalize QA 0 l qL=fl at e3 aa;have ah:=v1.1;refine cE ?_;simp +contextual -implicitDefEqProofs (maxSteps:=10^7) only[go_sem,seval,↓gZ,V7,e1,e2,ab,e3,aa];refine LO (α:=Nat×Bool×List Zb) (fun s=>[(32,.d (J (s.1:Int))),(7,.d (.bool s.2.1))]) (fun s=>[(0,.row 4 (s.2.2.map Zb.enc) true false)]) (fun s=>s.1≤l.length∧s.2.2++(if s.2.1 then l.drop s.1 else QC (Zb.mk qL qW qH qF) (l.drop s.1))=QC (Zb.mk qL qW qH qF) l∧s.2.2.length≤s.1+s.2.1.toNat) (fun s=>l.length-s.1) (0,false,[]) ⟨by simp,by simp,by simp⟩ ?_;intro⟨i,b,o⟩ ⟨hi,hp,ho⟩ ih;simp only at hi hp ho
     have hb:=Bool.toNat_le b;by_cases ad:i<l.length
     ·obtain⟨x,hx⟩:=Zq ad;have hw:=Zj (k:=i) (by omega);have hr:(o.length+1)*48≤140737488355328∧o.length≤140737488355327:=by omega
      have ae:∀ n:Nat,n=o.length+1→(n+1)*48≤140737488355328∧n≤140737488355327:=fun n hn=>by omega
      have ae:=ae _ rfl;have ag:o.length≤140737488355326:=by omega
      have e:=J7 x.Label x.W x.H x.Flaws (hF x (Kc hx));rw[Zqw hx] at hp;have hd:l.drop i=x :: l.drop (i+1):=by
       obtain⟨h1,h2⟩:=Kb.1 hx;rw[Kx h1,h2]
      obtain⟨L,W,H,F⟩:=x;simp only at e hp;cases b with
      | true=>
       simp only[Bool.toNat_true] at ho;rw[Kh rfl] at hp;simp +contextual -implicitDefEqProofs (maxSteps:=10^7) only[go_sem,seval,↓gZ,hx,ad,hw,e,hr];refine ih (i+1,true,o++[⟨L,W,H,F⟩]) _ ⟨by simp only;omega,?_,by simp;omega⟩ (by simp only;omega) ?_
       ·rw[← hp,hd];simp
       ·simp +contextual -implicitDefEqProofs (maxSteps:=10^7) only[go_sem,seval,↓gZ];try (simp[Zb.enc];done)
      | false=>
       simp only[Bool.toNat_false] at ho;rw[Kd (by simp)] at hp;by_cases hc:qL<L
       ·rw[Kh hc] at hp;simp +contextual -implicitDefEqProofs (maxSteps:=10^7) only[go_sem,seval,↓gZ,hx,ad,hw,e,eq,hc,hr,ae,ag];refine ih (i+1,true,o++[(Zb.mk qL qW qH qF),⟨L,W,H,F⟩]) _ ⟨by simp only;omega,?_,by simp;omega⟩ (by simp only;omega) ?_
        ·rw[← hp,hd];simp
        ·simp +contextual -implicitDefEqProofs (maxSteps:=10^7) only[go_sem,seval,↓gZ];try (simp[Zb.enc];done)
       ·rw[Kd hc] at hp;simp +contextual -implicitDefEqProofs (maxSteps:=10^7) only[go_sem,seval,↓gZ,hx,ad,hw,e,hc,hr];refine ih (i+1,false,o++[⟨L,W,H,F⟩]) _ ⟨by simp only;omega,?_,by simp;omega⟩ (by simp only;omega) ?_
        ·rw[← hp];simp
        ·simp +contextual -implicitDefEqProofs (maxSteps:=10^7) only[go_sem,seval,↓gZ];try (simp[Zb.enc];done)
     ·have:i=l.length:=by omega
      subst this;have hr:(o.length+1)*48≤140737488355328∧o.length≤140737488355327:=by omega
      cases b with
      | true=>
       simp at hp;simp +contextual -implicitDefEqProofs (maxSteps:=10^7) only[go_sem,seval,↓gZ];rw[hp]
      | false=>
       simp[QC] at hp;simp +contextual -implicitDefEqProofs (maxSteps:=10^7) only[go_sem,seval,↓gZ,eq,hr];rw[← hp];try (simp[Zb.enc];done)
    ·have h:¬WX (Zb.mk qL qW qH qF) l:=fun h=>v4 (hA.1 h).2;have aa : 0≤QA 0 l qL:=by omega
     rw[Kj h,Kd h];generalize QA 0 l qL=fl at e3 aa;refine cE ?_;simp +contextual -implicitDefEqProofs (maxSteps:=10^7) only[go_sem,seval,↓gZ,V7,e1,e2,ab,e3,aa]
  ·rw[Kj v2] at e2;have h:¬WX (Zb.mk qL qW qH qF) l:=fun h=>v2 h.1.2;rw[Kj h,Kd h];refine cE ?_;simp +contextual -implicitDefEqProofs (maxSteps:=10^7) only[go_sem,seval,↓gZ,V7,e1,e2]
 ·rw[Kj v1] at e1;have h:¬WX (Zb.mk qL qW qH qF) l:=fun h=>v1 h.1.1;rw[Kj h,Kd h];refine cE ?_;simp +contextual -implicitDefEqProofs (maxSteps:=10^7) only[go_sem,seval,↓gZ,V7,e1]
theorem Zhl (l:List Zc) (hl:l.length≤1000000):Ze Xs Ms QJ [(.d (.sl (l.map Zc.enc)))] []=some (.own 0,[.row 5 (l.map Zc.enc) true false]):=by
 refine We Xs Ms ZnR ?_;unfold Zlw;simp only;rw[Kh ⟨by rw[Zwt];trivial,by rw[ZtR];trivial,by simp[ZV];omega,by simp[ZV];omega⟩]
theorem Zkm {α β:Type} (f:α→β):∀ (l:List α) (i:Nat),(l.map f).eraseIdx i=(l.eraseIdx i).map f
 | [],_=>rfl
 | _ :: _,0=>rfl
 | x :: l,i+1=>by simp[Zkm f l i]
theorem ZnI (l:List Zc) (i:Nat) (hi:i<l.length):Ze Xs Ms ZQ [.own 0,(.d (J i)),(.d (J ((i:Int)+1)))] [.row 5 (l.map Zc.enc) true false]=some (.own 1,[.row 0 [] true false,.row 5 ((l.eraseIdx i).map Zc.enc) true false]):=by
 refine We Xs Ms Zmk ?_;unfold ZgP;simp only;rw[Kh ⟨rfl,by omega,rfl,by simp;omega,by rw[Zwt];trivial,by rw[ZtR];trivial,rfl,rfl⟩,KF,Zkm]
theorem ZcE (l:List Zc) (xW xH:Int) (xT:Bool) (xK xC:Int) (hl:l.length≤1000000) (hc:∀ y∈l,R64 (y.Count+xC)):Ze Xs Ms W7 [(.d (.sl (l.map Zc.enc))),(.d (.agg [J xW,J xH,.bool xT,J xK,J xC]))] []=some (.own 0,[.row 5 ((YR ⟨xW,xH,xT,xK⟩ xC l).map Zc.enc) true false]):=by
 have e1:=Zhl l hl;have e2:=Zew l xW xH xT xK (by omega);have hr:(l.length+1)*40≤140737488355328∧l.length≤140737488355327:=by omega
 by_cases hf:WM 0 l ⟨xW,xH,xT,xK⟩<0
 ·have hn:¬0≤WM 0 l ⟨xW,xH,xT,xK⟩:=by omega
  rw[Zul _ _ _ (ZqF hf)];refine cE ?_;simp +contextual -implicitDefEqProofs (maxSteps:=10^7) only[go_sem,seval,↓gZ,Zeb,e1,e2,hn,hr];try (simp[Zc.enc];done)
 ·obtain⟨a,x,h1,h2,h3,h4⟩:=ZnG (by omega:0≤WM 0 l ⟨xW,xH,xT,xK⟩);rw[K5] at h1;rw[h1] at e2;rw[Zuk _ _ _ a x h2 h3 h4];have aa:=hc x (Kc h2);obtain⟨⟨W,H,T,K⟩,C⟩:=x;simp only[Pane.mk.injEq] at h3 aa;obtain⟨rfl,rfl,rfl,rfl⟩:=h3;have u0:=wi (C+xC) aa.1 aa.2;have ab:=(Kb.1 h2).1;have ha:(0:Int)≤(a:Int):=by omega
  refine cE ?_;simp +contextual -implicitDefEqProofs (maxSteps:=10^7) only[go_sem,seval,↓gZ,Zeb,e1,e2,ha,h2,ab,u0];try (simp[Zc.enc,LF];done)
def tkV (l:List Zc) (p:Pane) (c:Int):AV×List Zm:=
 if Xo p c false l=true then (.tup [.own 0,(.d (.bool true))],[.row 5 ((X0 l p c).map Zc.enc) true false]) else (.tup [.own 0,(.d (.bool false))],[.row 5 [] true false])
theorem Zbz (l:List Zc) (xW xH:Int) (xT:Bool) (xK xC:Int) (hl:l.length≤1000000) (hu:UL l) (hc:∀ y∈l,R64 (y.Count-xC)):Ze Xs Ms Uv [(.d (.sl (l.map Zc.enc))),(.d (.agg [J xW,J xH,.bool xT,J xK,J xC]))] []=some (tkV l ⟨xW,xH,xT,xK⟩ xC):=by
 have e1:=Zhl l hl;have e2:=Zew l xW xH xT xK (by omega);by_cases hf:WM 0 l ⟨xW,xH,xT,xK⟩<0
 ·have hn:=ZnH (c:=xC) (b:=false) (ZqF hf);have ek:tkV l ⟨xW,xH,xT,xK⟩ xC=(.tup [.own 0,(.d (.bool false))],[.row 5 [] true false]):=by unfold tkV;rw[hn,Kd (by simp)]
  rw[ek];refine cE ?_;simp +contextual -implicitDefEqProofs (maxSteps:=10^7) only[go_sem,seval,↓gZ,UF,e1,e2,hf]
 ·obtain⟨a,x,h1,h2,h3,h4⟩:=ZnG (by omega:0≤WM 0 l ⟨xW,xH,xT,xK⟩);rw[K5] at h1;rw[h1] at e2;obtain⟨k1,k2⟩:=ZvJ (c:=xC) hu h2 h3;have ad:=hc x (Kc h2);obtain⟨⟨W,H,T,K⟩,C⟩:=x;simp only[Pane.mk.injEq] at h3 ad k1 k2;obtain⟨rfl,rfl,rfl,rfl⟩:=h3;have u0:=wi (C-xC) ad.1 ad.2;have ab:=(Kb.1 h2).1;have ha:¬(a:Int)<0:=by omega
  have hw:=Zj (k:=a) (by omega);have e3:=ZnI (l.set a ⟨⟨W,H,T,K⟩,0⟩) a (by simpa using ab);by_cases ae:C<xC
  ·have hx:¬0≤C-xC:=by omega
   have ek:tkV l ⟨W,H,T,K⟩ xC=(.tup [.own 0,(.d (.bool false))],[.row 5 [] true false]):=by unfold tkV;rw[k1,Kj hx,Kd (by simp)]
   rw[ek];refine cE ?_;simp +contextual -implicitDefEqProofs (maxSteps:=10^7) only[go_sem,seval,↓gZ,UF,e1,e2,ha,h2,ab,ae]
  ·have hx:0≤C-xC:=by omega
   by_cases hz:C-xC=0
   ·have ek:tkV l ⟨W,H,T,K⟩ xC=(.tup [.own 0,(.d (.bool true))],[.row 5 ((l.eraseIdx a).map Zc.enc) true false]):=by unfold tkV;rw[k1,Ki hx,Kh rfl,k2,Kd (by omega)]
    rw[ek];have es:(l.set a ⟨⟨W,H,T,K⟩,0⟩).eraseIdx a=l.eraseIdx a:=by simp[List.eraseIdx_set_eq]
    rw[es,LF] at e3;simp only[Zc.enc] at e3;have aa:((a:Int)+1)=((a+1:Nat):Int):=by omega
    rw[aa] at e3;rw[hz] at u0;refine cE ?_;simp +contextual -implicitDefEqProofs (maxSteps:=10^7) only[go_sem,seval,↓gZ,UF,e1,e2,ha,h2,ab,ae,hz,u0,hw,e3,LF,Ly,List.length_set]
   ·have ek:tkV l ⟨W,H,T,K⟩ xC=(.tup [.own 0,(.d (.bool true))],[.row 5 ((l.set a ⟨⟨W,H,T,K⟩,C-xC⟩).map Zc.enc) true false]):=by unfold tkV;rw[k1,Ki hx,Kh rfl,k2,Kh (by omega)]
    rw[ek];refine cE ?_;simp +contextual -implicitDefEqProofs (maxSteps:=10^7) only[go_sem,seval,↓gZ,UF,e1,e2,ha,h2,ab,ae,hz,u0,LF,Ly,List.length_set]
theorem Wt (sS:List Zb) (sO sD:List Zc) (sL sC:Int) (h:J8 (Zs.mk sS sO sD sL sC)):Ze Xs Ms Zad [(.d (.agg [.sl (sS.map Zb.enc),.sl (sO.map Zc.enc),.sl (sD.map Zc.enc),J sL,J sC]))] []=some (.agg [.own 0,.own 1,.own 2,(.d (J sL)),(.d (J sC))],[.deep 4 4 (sS.map Zb.enc) none,.row 5 (sO.map Zc.enc) true false,.row 5 (sD.map Zc.enc) true false]):=by
 obtain⟨h1,h2,h3,h4⟩:=h;simp only at h1 h2 h3 h4;have e1:=Zdb sS (by omega) (fun x hx=>by have:=(h2 x hx).1;omega);have r1:sO.length*40≤140737488355328∧sO.length≤140737488355328:=by omega
 have r2:sD.length*40≤140737488355328∧sD.length≤140737488355328:=by omega
 refine cE ?_;simp +contextual -implicitDefEqProofs (maxSteps:=10^7) only[go_sem,seval,↓gZ,Zgk,e1,r1,r2]
theorem Jv (xW xH:Int) (xT:Bool) (xK xC:Int):Ze Xs Ms VA [(.d (.agg [J xW,J xH,.bool xT,J xK,J xC]))] []=some ((.d (.bool (decide (WN ⟨⟨xW,xH,xT,xK⟩,xC⟩)))),[]):=by
 have e1:=Zc5 xW xH xT xK;refine cE ?_;by_cases v1:VP ⟨xW,xH,xT,xK⟩
 ·rw[Ki v1] at e1;by_cases v2:1≤xC
  ·by_cases v3:xC≤24
   ·have h:WN ⟨⟨xW,xH,xT,xK⟩,xC⟩:=⟨v1,v2,v3⟩
    simp +contextual -implicitDefEqProofs (maxSteps:=10^7) only[go_sem,seval,↓gZ,VG,e1,v2,v3,h]
   ·have h:¬WN ⟨⟨xW,xH,xT,xK⟩,xC⟩:=fun h=>v3 h.2.2;simp +contextual -implicitDefEqProofs (maxSteps:=10^7) only[go_sem,seval,↓gZ,VG,e1,v2,v3,h]
  ·have h:¬WN ⟨⟨xW,xH,xT,xK⟩,xC⟩:=fun h=>v2 h.2.1;simp +contextual -implicitDefEqProofs (maxSteps:=10^7) only[go_sem,seval,↓gZ,VG,e1,v2,h]
 ·rw[Kj v1] at e1;have h:¬WN ⟨⟨xW,xH,xT,xK⟩,xC⟩:=fun h=>v1 h.1;simp +contextual -implicitDefEqProofs (maxSteps:=10^7) only[go_sem,seval,↓gZ,VG,e1,h]
theorem ZsD (sS:List Zb) (sO sD:List Zc) (sL sC:Int) (eK eL eX eY eW eH aa ab:Int) (ad:Bool) (ae eC eo ea ep:Int) (et:Bool) (ek:List Zf) (hl:sS.length≤100000) (hn:¬((WX ⟨eL,eW,eH,[]⟩ sS∧eX=0)∧eY=0)):Ze Xs Ms Uu [.ptr 0 0,(.d (.agg [J eK,J eL,J eX,J eY,J eW,J eH,J aa,J ab,.bool ad,J ae,J eC,J eo,J ea,J ep,.bool et,.sl (ek.map Zf.enc)]))] [.box [.own 1,.own 2,.own 3,(.d (J sL)),(.d (J sC))],.deep 4 4 (sS.map Zb.enc) none,.row 5 (sO.map Zc.enc) true false,.row 5 (sD.map Zc.enc) true false]=some ((.d (.bool false)),[.box [.own 1,.own 2,.own 3,(.d (J sL)),(.d (J sC))],.deep 4 4 (sS.map Zb.enc) none,.row 5 (sO.map Zc.enc) true false,.row 5 (sD.map Zc.enc) true false]):=by
 by_cases hx:eX=0
 ·by_cases hy:eY=0
  ·have ha:¬WX ⟨eL,eW,eH,[]⟩ sS:=fun h=>hn ⟨⟨h,hx⟩,hy⟩;have e1:=Zkl sS eL eW eH [] hl;rw[Kj ha,Kd ha] at e1;simp only[Kw] at e1;refine cE ?_;simp +contextual -implicitDefEqProofs (maxSteps:=10^7) only[go_sem,seval,↓gZ,UC,hx,hy,e1]
  ·refine cE ?_;simp +contextual -implicitDefEqProofs (maxSteps:=10^7) only[go_sem,seval,↓gZ,UC,hx,hy]
 ·refine cE ?_;simp +contextual -implicitDefEqProofs (maxSteps:=10^7) only[go_sem,seval,↓gZ,UC,hx]
theorem ZqI (sS:List Zb) (sO sD:List Zc) (sL sC:Int) (eK eL eX eY eW eH aa ab:Int) (ad:Bool) (ae eC eo ea ep:Int) (et:Bool) (ek:List Zf) (hv:ZY (Zs.mk sS sO sD sL sC)) (ha:WX ⟨eL,eW,eH,[]⟩ sS) (hx:eX=0) (hy:eY=0):Ze Xs Ms Uu [.ptr 0 0,(.d (.agg [J eK,J eL,J eX,J eY,J eW,J eH,J aa,J ab,.bool ad,J ae,J eC,J eo,J ea,J ep,.bool et,.sl (ek.map Zf.enc)]))] [.box [.own 1,.own 2,.own 3,(.d (J sL)),(.d (J sC))],.deep 4 4 (sS.map Zb.enc) none,.row 5 (sO.map Zc.enc) true false,.row 5 (sD.map Zc.enc) true false] =
  some ((.d (.bool true)),[.box [.own 4,.own 2,.own 3,(.d (J sL)),(.d (J (sC+eW*eH)))],.deep 4 4 (sS.map Zb.enc) none,.row 5 (sO.map Zc.enc) true false,.row 5 (sD.map Zc.enc) true false,.row 4 ((QC ⟨eL,eW,eH,[]⟩ sS).map Zb.enc) true false]):=by
 have af:=hv.1.1;simp only at af;have e1:=Zkl sS eL eW eH [] (by omega);rw[Ki ha,Kh ha] at e1;simp only[Kw] at e1;have hp:=ha.1.2.1;simp only at hp;subst hx hy;have hb:VB ⟨0,0,eW,eH⟩:=by simp only[VB];omega
 have e2:=Zl7 0 0 eW eH hb;have h3:=ZcT hb;simp only at h3;have h4:=hv.2.2.2;simp only at h4;have u0:=wi (sC+eW*eH) (by omega) (by omega);generalize QC ⟨eL,eW,eH,[]⟩ sS=Q at *;refine cE ?_;simp +contextual -implicitDefEqProofs (maxSteps:=10^7) only[go_sem,seval,↓gZ,UC,e1,e2,u0]
theorem Zup (sS:List Zb) (sO sD:List Zc) (sL sC:Int) (eK eL eX eY eW eH aa ab:Int) (ad:Bool) (ae eC eo ea ep:Int) (et:Bool) (ek:List Zf) (hl:sS.length≤100000) (hn:QA 0 sS eL<0):Ze Xs Ms JS [.ptr 0 0,(.d (.agg [J eK,J eL,J eX,J eY,J eW,J eH,J aa,J ab,.bool ad,J ae,J eC,J eo,J ea,J ep,.bool et,.sl (ek.map Zf.enc)]))] [.box [.own 1,.own 2,.own 3,(.d (J sL)),(.d (J sC))],.deep 4 4 (sS.map Zb.enc) none,.row 5 (sO.map Zc.enc) true false,.row 5 (sD.map Zc.enc) true false]=some ((.d (.bool false)),[.box [.own 1,.own 2,.own 3,(.d (J sL)),(.d (J sC))],.deep 4 4 (sS.map Zb.enc) none,.row 5 (sO.map Zc.enc) true false,.row 5 (sD.map Zc.enc) true false]):=by
 have e1:=Vp sS eL (by omega);refine cE ?_;simp +contextual -implicitDefEqProofs (maxSteps:=10^7) only[go_sem,seval,↓gZ,Zd9,e1,hn]
theorem ZsE (sS:List Zb) (sO sD:List Zc) (sL sC:Int) (eK eL eX eY eW eH aa ab:Int) (ad:Bool) (ae eC eo ea ep:Int) (et:Bool) (ek:List Zf) (hl:sS.length≤100000) (a:Nat) (ha:QA 0 sS eL=(a:Int)) (xL xW xH:Int) (xF:List Box) (hx:sS[a]?=some (Zb.mk xL xW xH xF)) (hF:xF.length≤1000):Ze Xs Ms JS [.ptr 0 0,(.d (.agg [J eK,J eL,J eX,J eY,J eW,J eH,J aa,J ab,.bool ad,J ae,J eC,J eo,J ea,J ep,.bool et,.sl (ek.map Zf.enc)]))] [.box [.own 1,.own 2,.own 3,(.d (J sL)),(.d (J sC))],.deep 4 4 (sS.map Zb.enc) none,.row 5 (sO.map Zc.enc) true false,.row 5 (sD.map Zc.enc) true false] =
  some ((.d (.bool true)),[.box [.own 1,.own 2,.own 3,(.d (J sL)),(.d (J sC))],.row 4 ((sS.set a ⟨xL,xW,xH,xF++[⟨eX,eY,eW,eH⟩]⟩).map Zb.enc) true false,.row 5 (sO.map Zc.enc) true false,.row 5 (sD.map Zc.enc) true false]):=by
 have e1:=Vp sS eL (by omega);rw[ha] at e1;have h0:¬(a:Int)<0:=by omega
 have af : (0:Int)≤(a:Int):=by omega
 have ag:=(Kb.1 hx).1;have hr:(xF.length+1)*32≤140737488355328∧xF.length≤140737488355327:=by omega
 have ah:=Zqr xF;refine cE ?_;simp +contextual -implicitDefEqProofs (maxSteps:=10^7) only[go_sem,seval,↓gZ,Zd9,e1,h0,af,hx,ag,hr,ah];simp[Zb.enc,Box.enc,LF]
theorem Zpt (sS:List Zb) (sO sD:List Zc) (sL sC:Int) (eK eL eX eY eW eH aa ab:Int) (ad:Bool) (ae eC eo ea ep:Int) (et:Bool) (ek:List Zf) (hn:¬WN ⟨⟨aa,ab,ad,ae⟩,eC⟩):Ze Xs Ms Vw [.ptr 0 0,(.d (.agg [J eK,J eL,J eX,J eY,J eW,J eH,J aa,J ab,.bool ad,J ae,J eC,J eo,J ea,J ep,.bool et,.sl (ek.map Zf.enc)]))] [.box [.own 1,.own 2,.own 3,(.d (J sL)),(.d (J sC))],.deep 4 4 (sS.map Zb.enc) none,.row 5 (sO.map Zc.enc) true false,.row 5 (sD.map Zc.enc) true false]=some ((.d (.bool false)),[.box [.own 1,.own 2,.own 3,(.d (J sL)),(.d (J sC))],.deep 4 4 (sS.map Zb.enc) none,.row 5 (sO.map Zc.enc) true false,.row 5 (sD.map Zc.enc) true false]):=by
 have e1:=Jv aa ab ad ae eC;rw[Kj hn] at e1;refine cE ?_;simp +contextual -implicitDefEqProofs (maxSteps:=10^7) only[go_sem,seval,↓gZ,ZaC,e1]
theorem ZnJ (sS:List Zb) (sO sD:List Zc) (sL sC:Int) (eK eL eX eY eW eH aa ab:Int) (ad:Bool) (ae eC eo ea ep:Int) (et:Bool) (ek:List Zf) (hv:ZY (Zs.mk sS sO sD sL sC)) (hn:WN ⟨⟨aa,ab,ad,ae⟩,eC⟩):Ze Xs Ms Vw [.ptr 0 0,(.d (.agg [J eK,J eL,J eX,J eY,J eW,J eH,J aa,J ab,.bool ad,J ae,J eC,J eo,J ea,J ep,.bool et,.sl (ek.map Zf.enc)]))] [.box [.own 1,.own 2,.own 3,(.d (J sL)),(.d (J sC))],.deep 4 4 (sS.map Zb.enc) none,.row 5 (sO.map Zc.enc) true false,.row 5 (sD.map Zc.enc) true false] =
  some ((.d (.bool true)),[.box [.own 1,.own 4,.own 3,(.d (J sL)),(.d (J sC))],.deep 4 4 (sS.map Zb.enc) none,.row 5 (sO.map Zc.enc) true false,.row 5 (sD.map Zc.enc) true false,.row 5 ((YR ⟨aa,ab,ad,ae⟩ eC sO).map Zc.enc) true false]):=by
 have e1:=Jv aa ab ad ae eC;rw[Ki hn] at e1;have e2:=ZcE sO aa ab ad ae eC (by have:=hv.2.1.1;simp only at this;omega) (fun x hx=>by have:=(XO hv.2.1 x hx).2;have:=hn.2;simp only at this;unfold R64;omega);refine cE ?_;simp +contextual -implicitDefEqProofs (maxSteps:=10^7) only[go_sem,seval,↓gZ,ZaC,e1,e2]
theorem Zpu (sS:List Zb) (sO sD:List Zc) (sL sC:Int) (eK eL eX eY eW eH aa ab:Int) (ad:Bool) (ae eC eo ea ep:Int) (et:Bool) (ek:List Zf) (hv:ZY (Zs.mk sS sO sD sL sC)) (hn:¬(WN ⟨⟨aa,ab,ad,ae⟩,eC⟩∧Xo ⟨aa,ab,ad,ae⟩ eC false sD=true)):Ze Xs Ms Vx [.ptr 0 0,(.d (.agg [J eK,J eL,J eX,J eY,J eW,J eH,J aa,J ab,.bool ad,J ae,J eC,J eo,J ea,J ep,.bool et,.sl (ek.map Zf.enc)]))] [.box [.own 1,.own 2,.own 3,(.d (J sL)),(.d (J sC))],.deep 4 4 (sS.map Zb.enc) none,.row 5 (sO.map Zc.enc) true false,.row 5 (sD.map Zc.enc) true false]=some ((.d (.bool false)),[.box [.own 1,.own 2,.own 3,(.d (J sL)),(.d (J sC))],.deep 4 4 (sS.map Zb.enc) none,.row 5 (sO.map Zc.enc) true false,.row 5 (sD.map Zc.enc) true false]):=by
 have e1:=Jv aa ab ad ae eC;by_cases hl:WN ⟨⟨aa,ab,ad,ae⟩,eC⟩
 ·rw[Ki hl] at e1;have e2:=Zbz sD aa ab ad ae eC (by have:=hv.2.2.1.1;simp only at this;omega) (Zmh hv.2.2.1) (fun x hx=>by have:=(XO hv.2.2.1 x hx).2;have:=hl.2;simp only at this;unfold R64;omega);unfold tkV at e2;rw[Kd (fun h=>hn ⟨hl,h⟩)] at e2;refine cE ?_;simp +contextual -implicitDefEqProofs (maxSteps:=10^7) only[go_sem,seval,↓gZ,Ug,e1,e2]
 ·rw[Kj hl] at e1;refine cE ?_;simp +contextual -implicitDefEqProofs (maxSteps:=10^7) only[go_sem,seval,↓gZ,Ug,e1]
theorem ZnK (sS:List Zb) (sO sD:List Zc) (sL sC:Int) (eK eL eX eY eW eH aa ab:Int) (ad:Bool) (ae eC eo ea ep:Int) (et:Bool) (ek:List Zf) (hv:ZY (Zs.mk sS sO sD sL sC)) (hl:WN ⟨⟨aa,ab,ad,ae⟩,eC⟩) (hk:Xo ⟨aa,ab,ad,ae⟩ eC false sD=true):Ze Xs Ms Vx [.ptr 0 0,(.d (.agg [J eK,J eL,J eX,J eY,J eW,J eH,J aa,J ab,.bool ad,J ae,J eC,J eo,J ea,J ep,.bool et,.sl (ek.map Zf.enc)]))] [.box [.own 1,.own 2,.own 3,(.d (J sL)),(.d (J sC))],.deep 4 4 (sS.map Zb.enc) none,.row 5 (sO.map Zc.enc) true false,.row 5 (sD.map Zc.enc) true false] =
  some ((.d (.bool true)),[.box [.own 1,.own 4,.own 5,(.d (J (sL+eC*aa*ab))),(.d (J sC))],.deep 4 4 (sS.map Zb.enc) none,.row 5 (sO.map Zc.enc) true false,.row 5 (sD.map Zc.enc) true false,.row 5 ((YR ⟨aa,ab,ad,ae⟩ eC sO).map Zc.enc) true false,.row 5 ((X0 sD ⟨aa,ab,ad,ae⟩ eC).map Zc.enc) true false]):=by
 have e1:=Jv aa ab ad ae eC;rw[Ki hl] at e1;have e2:=Zbz sD aa ab ad ae eC (by have:=hv.2.2.1.1;simp only at this;omega) (Zmh hv.2.2.1) (fun x hx=>by have:=(XO hv.2.2.1 x hx).2;have:=hl.2;simp only at this;unfold R64;omega);unfold tkV at e2;rw[Kh hk] at e2;have e3:=ZcE sO aa ab ad ae eC (by have:=hv.2.1.1;simp only at this;omega) (fun x hx=>by have:=(XO hv.2.1 x hx).2;have:=hl.2;simp only at this;unfold R64;omega);have af:=Zff hl;have h6:=hv.2.2.2;simp only at af h6;have u0:=wi (eC*aa) (by omega) (by omega);have u1:=wi (eC*aa*ab) (by omega) (by omega);have u2:=wi (sL+eC*aa*ab) (by omega) (by omega)
 refine cE ?_;simp +contextual -implicitDefEqProofs (maxSteps:=10^7) only[go_sem,seval,↓gZ,Ug,e1,e2,e3,u0,u1,u2]
theorem Zpv (sS:List Zb) (sO sD:List Zc) (sL sC:Int) (eK eL eX eY eW eH aa ab:Int) (ad:Bool) (ae eC eo ea ep:Int) (et:Bool) (ek:List Zf) (hn:QA 0 sS eL<0):Ze Xs Ms Vy [.ptr 0 0,(.d (.agg [J eK,J eL,J eX,J eY,J eW,J eH,J aa,J ab,.bool ad,J ae,J eC,J eo,J ea,J ep,.bool et,.sl (ek.map Zf.enc)]))] [.box [.own 1,.own 2,.own 3,(.d (J sL)),(.d (J sC))],.deep 4 4 (sS.map Zb.enc) none,.row 5 (sO.map Zc.enc) true false,.row 5 (sD.map Zc.enc) true false]=some ((.d (.bool false)),[.box [.own 1,.own 2,.own 3,(.d (J sL)),(.d (J sC))],.deep 4 4 (sS.map Zb.enc) none,.row 5 (sO.map Zc.enc) true false,.row 5 (sD.map Zc.enc) true false]):=by
 have e1:=Zh7 sS eL (fun h=>by omega);refine cE ?_;simp +contextual -implicitDefEqProofs (maxSteps:=10^7) only[go_sem,seval,↓gZ,ZaD,e1]
theorem ZnL (sS:List Zb) (sO sD:List Zc) (sL sC:Int) (eK eL eX eY eW eH aa ab:Int) (ad:Bool) (ae eC eo ea ep:Int) (et:Bool) (ek:List Zf) (hv:ZY (Zs.mk sS sO sD sL sC)) (a:Nat) (ha:QA 0 sS eL=(a:Int)) (xL xW xH:Int) (xF:List Box) (hx:sS[a]?=some (Zb.mk xL xW xH xF)):Ze Xs Ms Vy [.ptr 0 0,(.d (.agg [J eK,J eL,J eX,J eY,J eW,J eH,J aa,J ab,.bool ad,J ae,J eC,J eo,J ea,J ep,.bool et,.sl (ek.map Zf.enc)]))] [.box [.own 1,.own 2,.own 3,(.d (J sL)),(.d (J sC))],.deep 4 4 (sS.map Zb.enc) none,.row 5 (sO.map Zc.enc) true false,.row 5 (sD.map Zc.enc) true false] =
  some ((.d (.bool true)),[.box [.own 4,.own 2,.own 3,(.d (J (sL+xW*xH))),(.d (J sC))],.deep 4 4 (sS.map Zb.enc) none,.row 5 (sO.map Zc.enc) true false,.row 5 (sD.map Zc.enc) true false,.row 4 ((sS.eraseIdx a).map Zb.enc) true false]):=by
 have e1:=Zhk sS eL hv.1 a ha xL xW xH xF hx;have af:=(Qt hv.1.2 _ (Kc hx)).1;simp only at af;have h6:=hv.2.2.2;simp only at h6;have hb:VB ⟨0,0,xW,xH⟩:=by simp only[VB];omega
 have h3:=ZcT hb;simp only at h3;have u0:=wi (xW*xH) (by omega) (by omega);have u1:=wi (sL+xW*xH) (by omega) (by omega);refine cE ?_;simp +contextual -implicitDefEqProofs (maxSteps:=10^7) only[go_sem,seval,↓gZ,ZaD,e1,u0,u1]
theorem ZvM (kW kH:Int) (kP:List Pane) (p:Zf) (hv:VU (ZI.mk kW kH kP) p=true):Ze Xs Ms Zdj [(.d (.agg [J kW,J kH,.sl (kP.map Pane.enc)])),.d p.enc] []=some (.own 0,[.row 1 ((Zd4 (ZI.mk kW kH kP) p).map YI) true false]):=by
 have ev:=J6 kW kH kP p;rw[hv] at ev;have e:=Zex kW kH kP p;obtain⟨b,hb,ai,ae,aj,aa,ab⟩:=Xx hv;simp only at aa ab;have af:=Zde (x:=0) (y:=0) aa;have an:kP.length≤24:=ae.2.2.2.2.1;have ak:(plc b 0 0 kW kH).length≤255:=by
  have:=Kl XK (QO (ZI.mk kW kH kP) p);rw[ab,ZaT,WG] at this;omega
 unfold Zd4;rw[ab,WG] at e ⊢;generalize plc b 0 0 kW kH=L at e af ak ⊢;have al:(kP.length:Int)*((8:Nat):Int)≤((140737488355328:Nat):Int)∧kP.length≤140737488355328:=by omega
 have ad:(kP.length:Int)*8≤140737488355328∧(kP.length:Int)≤140737488355328:=by omega
 clear hv hb ai ae ab aa;obtain⟨o,a,q,t,ks⟩:=p;rw[Zf.enc_mk] at e ev ⊢;refine cE ?_;simp +contextual -implicitDefEqProofs (maxSteps:=10^7) only[go_sem,seval,↓gZ,Zlo,ev,e,rep_int,al,ad];refine LO (α:=Nat×List Int) (fun s=>[(20,.d (J (s.1:Int)))]) (fun s=>[(1,.row 1 (s.2.map YI) true false)]) (fun s=>s.1≤L.length∧s.2.length=kP.length∧(∀ v∈s.2,0≤v∧v≤s.1)∧Za3 s.2 (L.drop s.1)=Za3 (List.replicate kP.length 0) L) (fun s=>L.length-s.1) (0,List.replicate kP.length 0) ⟨by simp,by simp,fun w hw=>by rw[LJ hw];omega,by simp⟩ ?_;intro⟨i,u⟩ ⟨hi,hul,huv,hp⟩ ih;simp only at hi hul huv hp
 by_cases ag:i<L.length
 ·obtain⟨x,hx⟩:=Zq ag;have hw:=Zj (k:=i) (by omega);obtain⟨n,hn,am⟩:=af x (Kc hx);rw[Zqz hx,hn] at hp;obtain⟨q',t',⟨X,Y,W,H⟩⟩:=x;simp only at hn;subst hn;have ah:n<u.length:=by omega
  obtain⟨z,hz⟩:=Zq ah;have ao:=huv z (Kc hz);have u1:=wi (z+1) (by omega) (by omega);rw[KF,hz] at hp;simp +contextual -implicitDefEqProofs (maxSteps:=10^7) only[go_sem,seval,↓gZ,hx,ag,hw,am,ah,hz,u1,ZpT,hul];refine ih (i+1,u.set n (z+1)) _ ⟨by simp only;omega,by simpa using hul,fun v hv=>?_,hp⟩ (by simp only;omega) ?_
  ·simp only;rcases Lh hv with h1 | rfl
   ·have:=huv v h1;omega
   ·omega
  ·simp +contextual -implicitDefEqProofs (maxSteps:=10^7) only[go_sem,seval,↓gZ,List.headD_cons,ZpT]
 ·have:i=L.length:=by omega
  subst this;rw[Zta] at hp;simp +contextual -implicitDefEqProofs (maxSteps:=10^7) only[go_sem,seval,↓gZ,hp]
theorem Zfk:∀ (b:BT) (x y w h:Int),Zll b=false↔plc b x y w h=[]
 | .waste,x,y,w,h=>by simp[Zll,plc]
 | .pane i t,x,y,w,h=>by simp[Zll,plc]
 | .cut d a l r,x,y,w,h=>by
  cases d
  ·simp only[Zll,plc,L2,Ka,Kq,LR,Zfk l x y w a,Zfk r x (y+a) w (h-a)]
  ·simp only[Zll,plc,L2,Km,LR,Zfk l x y a h,Zfk r (x+a) y (w-a) h]
theorem ZqJ:∀ (l:List L.Place) (u:List Int) (i:Nat) (v:Int),u[i]?=some v→∃ z,(Za3 u l)[i]?=some z∧v≤z
 | [],u,i,v,h=>⟨v,h,Int.le_refl _⟩
 | x :: l,u,i,v,h=>by
  rw[Za3];by_cases hi:x.Pane.toNat=i
  ·obtain⟨z,h1,h2⟩:=ZqJ l (u.set x.Pane.toNat (u[x.Pane.toNat]?.getD 0+1)) i (v+1) (by
    rw[hi,h,Ly];have:=(Kb.1 h).1;simp[this])
   exact⟨z,h1,by omega⟩
  ·obtain⟨z,h1,h2⟩:=ZqJ l (u.set x.Pane.toNat (u[x.Pane.toNat]?.getD 0+1)) i v (by
    rw[List.getElem?_set_ne hi,h])
   exact⟨z,h1,h2⟩
theorem Zzt {l:List L.Place} {u:List Int} (hl:l≠[]) (hu:∀ v∈u,0≤v) (hn:∀ c∈l,∃ n:Nat,c.Pane=(n:Int)∧n<u.length):∃ v∈Za3 u l,v≠0:=by
 cases l with
 | nil=>exact absurd rfl hl
 | cons x l=>
  obtain⟨n,h1,h2⟩:=hn x (by simp);obtain⟨v,hv⟩:=Zq h2;have h0:=hu v (Kc hv);rw[Za3,h1,KF,hv];obtain⟨z,h3,h4⟩:=ZqJ l (u.set n (v+1)) n (v+1) (by rw[Ly];simp[h2]);refine⟨z,Kc (by simpa using h3),by omega⟩
theorem Zzu {k:ZI} {p:Zf} (hv:VU k p=true) (hp:ZsA p=true):∃ v∈Zd4 k p,v≠0:=by
 obtain⟨b,hb,ae,af,ab,aa,ad⟩:=Xx hv;unfold ZsA at hp;rw[hb] at hp;simp only at hp;unfold Zd4;rw[ad,WG];refine Zzt (fun h=>?_) (fun v hv=>by rw[LJ hv];omega) (fun c hc=>?_)
 ·rw[(Zfk b _ _ _ _).2 h] at hp;cases hp
 ·obtain⟨n,h1,h2⟩:=Zde aa c hc;exact⟨n,h1,by simpa using h2⟩
theorem Zxf {k:ZI} {p:Zf} (hv:VU k p=true):(((QO k p).filterMap XK).length=0)↔ZsA p=false:=by
 obtain⟨b,hb,ae,af,aa,ab,ad⟩:=Xx hv;unfold ZsA;rw[hb,ad,WG,List.length_eq_zero_iff];exact(Zfk b _ _ _ _).symm
def cpV (S:List Zb) (O D:List Zc) (L C:Int):Option Zs→AV×List Zm
 | some t=>((.d (.bool true)),[.box [.own 4,.own 5,.own 6,(.d (J (t.Lost))),(.d (J (t.Came)))],.deep 4 4 (S.map Zb.enc) none,.row 5 (O.map Zc.enc) true false,.row 5 (D.map Zc.enc) true false,.row 4 (t.Stock.map Zb.enc) true false,.row 5 (t.Opn.map Zc.enc) true false,.row 5 (t.Done.map Zc.enc) true false])
 | none=>((.d (.bool false)),[.box [.own 1,.own 2,.own 3,(.d (J L)),(.d (J C))],.deep 4 4 (S.map Zb.enc) none,.row 5 (O.map Zc.enc) true false,.row 5 (D.map Zc.enc) true false])
theorem ZsF (sS:List Zb) (sO sD:List Zc) (sL sC:Int) (eK eL eX eY eW eH ah ai:Int) (aj:Bool) (ak eC eo ea ep:Int) (et:Bool) (ek:List Zf) (hv:ZY (Zs.mk sS sO sD sL sC)):Ze Xs Ms Zai [.ptr 0 0,(.d (.agg [J eK,J eL,J eX,J eY,J eW,J eH,J ah,J ai,.bool aj,J ak,J eC,J eo,J ea,J ep,.bool et,.sl (ek.map Zf.enc)]))] [.box [.own 1,.own 2,.own 3,(.d (J sL)),(.d (J sC))],.deep 4 4 (sS.map Zb.enc) none,.row 5 (sO.map Zc.enc) true false,.row 5 (sD.map Zc.enc) true false]=some (cpV sS sO sD sL sC (Zfg (Zs.mk sS sO sD sL sC) (Zl.mk eK eL (Box.mk eX eY eW eH) (Zc.mk (Pane.mk ah ai aj ak) eC) (Zf.mk eo ea ep et ek)))):=by
 obtain⟨⟨h1,h2,h3,h4⟩,h5,h6,h7,h8,h9⟩:=ZnC hv;simp only at h1 h2 h3 h4 h5 h6 h7 h8 h9;have hO:=hv.2.1;have hD:=hv.2.2.1;simp only at hO hD;have az:=hO.1;have a4:=hD.1;have e1:=Zuo sS sO sD sL sC eL;unfold ZAJ at e1;rw[Kh hv] at e1;by_cases hf:QA 0 sS eL<0
 ·have ec:Zfg (Zs.mk sS sO sD sL sC) (Zl.mk eK eL (Box.mk eX eY eW eH) (Zc.mk (Pane.mk ah ai aj ak) eC) (Zf.mk eo ea ep et ek))=none:=by
   unfold Zfg;simp only;split
   ·rfl
   ·rw[Zte hf]
  rw[ec];simp only[Zfh hf] at e1;unfold wkV at e1;simp only at e1;unfold cpV;refine cE ?_;simp +contextual -implicitDefEqProofs (maxSteps:=10^7) only[go_sem,seval,↓gZ,UD,e1]
 ·obtain⟨a,x,ha,hx⟩:=ZbK (by omega:0≤QA 0 sS eL);simp only[Zfi ha hx] at e1;unfold wkV at e1;simp only at e1;have e3:=Zsv sS eL x.W x.H (sO.map Zc.Pane) (.mk eo ea ep et ek) 5;have aw:Zfg (Zs.mk sS sO sD sL sC) (Zl.mk eK eL (Box.mk eX eY eW eH) (Zc.mk (Pane.mk ah ai aj ak) eC) (Zf.mk eo ea ep et ek))=match Zdc sS eL ⟨x.W,x.H,sO.map Zc.Pane⟩ (.mk eo ea ep et ek) 5 with
   | none=>none
   | some R=>if ZsA (.mk eo ea ep et ek)=true then
     match U2 (sO.map Zc.Pane) (Zd4 ⟨x.W,x.H,sO.map Zc.Pane⟩ (.mk eo ea ep et ek)) sO sD with
     | none=>none
     | some (o,d)=>some ⟨R,o,d,sL+Yd (ZfT ⟨x.W,x.H,sO.map Zc.Pane⟩ (.mk eo ea ep et ek) 5),sC⟩
    else none:=by
   unfold Zfg;simp only[ha,KF,hx];try rfl
  rw[aw];clear aw;obtain⟨xL,xW,xH,xF⟩:=x;simp only at e1 e3 ⊢;cases hcs:Zdc sS eL ⟨xW,xH,sO.map Zc.Pane⟩ (.mk eo ea ep et ek) 5 with
  | none=>
   rw[hcs] at e3;unfold ZhX at e3;simp only;unfold cpV;rw[Zf.enc_mk] at e3;refine cE ?_;simp +contextual -implicitDefEqProofs (maxSteps:=10^7) only[go_sem,seval,↓gZ,UD,e1,e3]
  | some R=>
   obtain⟨ab,a5,_⟩:=ZqA hcs;rw[hcs] at e3;unfold ZhX at e3;simp only;have e4:=Zex xW xH (sO.map Zc.Pane) (.mk eo ea ep et ek);have ad:=Zxf ab;have e5:=Zst xW xH (sO.map Zc.Pane) (.mk eo ea ep et ek) 5 ab (by omega) (by omega);have e6:=ZvM xW xH (sO.map Zc.Pane) (.mk eo ea ep et ek) ab;have hu:=ZoA ab;obtain⟨b,hb,a6,a7,aq,a0,a1⟩:=Xx ab;have a2:=Zjl (l:=ZfT ⟨xW,xH,sO.map Zc.Pane⟩ (.mk eo ea ep et ek) 5) (fun c hc=>by
    obtain⟨z,hz,al⟩:=Lk.1 hc;unfold JZ at al;split at al
    ·cases al;exact ZfU ab c hz
    ·cases al)
   have a8:(ZfT ⟨xW,xH,sO.map Zc.Pane⟩ (.mk eo ea ep et ek) 5).length≤255:=by
    refine Kz (Kl _ _) (Kz (Kl _ _) ?_);rw[a1,ZaT];exact aq
   have ax:=Zzu ab;generalize Yd (ZfT ⟨xW,xH,sO.map Zc.Pane⟩ (.mk eo ea ep et ek) 5)=A at e5 a2 ⊢;generalize Zd4 ⟨xW,xH,sO.map Zc.Pane⟩ (.mk eo ea ep et ek)=us at e6 hu ax ⊢;generalize (QO ⟨xW,xH,sO.map Zc.Pane⟩ (.mk eo ea ep et ek)).filterMap XK=pl at e4 ad;rw[Zf.enc_mk] at e3 e4 e5 e6;simp only[KR] at hu;have u1:=wi (sL+A) (by omega) (by omega);cases hhb:ZsA (.mk eo ea ep et ek) with
   | false=>
    have ar:((pl.length:Int)=0):=by have:=ad.2 hhb;omega
    rw[Kd (by simp)];unfold cpV;refine cE ?_;simp +contextual -implicitDefEqProofs (maxSteps:=10^7) only[go_sem,seval,↓gZ,UD,e1,e3,e4,ar]
   | true=>
    have ar:¬((pl.length:Int)=0):=fun h=>by
     have h1:pl.length=0:=by omega
     rw[ad.1 h1] at hhb;cases hhb
    obtain⟨vz,a3,au⟩:=ax hhb;rw[Kh rfl];refine cE ?_;simp +contextual -implicitDefEqProofs (maxSteps:=10^7) only[go_sem,seval,↓gZ,UD,e1,e3,e4,e6,ar];refine LO (α:=Nat) (fun s=>[(65,.d (J (s:Int)))]) (fun _=>[]) (fun i=>i≤us.length∧U2 ((sO.map Zc.Pane).drop i) (us.drop i) sO sD=U2 (sO.map Zc.Pane) us sO sD∧∀ v∈us.take i,v=0) (fun i=>us.length-i) 0 ⟨by omega,rfl,by simp⟩ ?_;intro i ⟨hi,hp,av⟩ ih;by_cases am:i<us.length
    ·obtain⟨c,hc⟩:=Zq am;have an:i<sO.length:=by omega
     obtain⟨y,hy⟩:=Zq an;have hw:=Zj (k:=i) (by omega);have ae:=hu.2 c (Kc hc);have af:(sO.map Zc.Pane)[i]?=some y.Pane:=by rw[KX,hy];rfl
     rw[Zlm af hc] at hp;obtain⟨⟨W,H,T,K⟩,C⟩:=y;simp only at hp af;by_cases aa:c=0
     ·rw[Kh aa] at hp;simp +contextual -implicitDefEqProofs (maxSteps:=10^7) only[go_sem,seval,↓gZ,am,an,hy,hc,aa,hw];refine ih (i+1) _ ⟨by omega,hp,fun v hv=>?_⟩ (by omega) ?_
      ·rw[KP,hc,Kg] at hv;rcases hv with hv | hv
       ·exact av v hv
       ·simp at hv;omega
      ·simp +contextual -implicitDefEqProofs (maxSteps:=10^7) only[go_sem,seval,↓gZ]
     ·rw[Kd aa] at hp;have et:=Zbz sO W H T K c (by omega) (Zmh hO) (fun x hx=>by have:=(XO hO x hx).2;unfold R64;omega);have ea:=ZcE sD W H T K c (by omega) (fun x hx=>by have:=(XO hD x hx).2;unfold R64;omega);unfold tkV at et;by_cases ag:Xo ⟨W,H,T,K⟩ c false sO=true
      ·rw[Kh ag] at hp et;simp +contextual -implicitDefEqProofs (maxSteps:=10^7) only[go_sem,seval,↓gZ,am,an,hy,hc,aa,hw,et,ea];refine ZgT Xs Ms (st0:=?st1) (α:=Nat×List Zc×List Zc) (fun s=>[(65,.d (J (s.1:Int)))]) (fun s=>[(4,.row 5 (s.2.2.map Zc.enc) true false),(5,.row 5 (s.2.1.map Zc.enc) true false)]) (fun s=>s.1≤us.length∧U2 ((sO.map Zc.Pane).drop s.1) (us.drop s.1) s.2.1 s.2.2=U2 (sO.map Zc.Pane) us sO sD∧s.2.1.length≤8∧s.2.2.length≤8+s.1∧UL s.2.1∧UL s.2.2∧(∀ x∈s.2.1,0≤x.Count∧x.Count≤24)∧(∀ x∈s.2.2,0≤x.Count∧x.Count≤24+255*s.1)) (fun s=>us.length-s.1) (i+1,X0 sO ⟨W,H,T,K⟩ c,YR ⟨W,H,T,K⟩ c sD) ?hc2 ⟨by simp only;omega,hp,Kz (Kl _ _) az,Kz (Zdd _ _ _) (by simp only;omega),ZvK (Zmh hO),ZyF (Zmh hD) (by omega),ZnD ae.1 (fun x hx=>(XO hO x hx).2.2),fun x hx=>by
        have:=Zme (hi:=24) ae.1 (by omega) (fun x hx=>by have:=(XO hD x hx).2;omega) x hx;simp only;omega⟩ ?h02 ?step2
       case hc2=>simp +contextual -implicitDefEqProofs (maxSteps:=10^7) only[go_sem,seval,↓gZ]<;>exact rfl
       case h02=>rfl
       case step2=>
        intro⟨j,o,d⟩ ⟨hj,hp,ho8,hd8,uo,ud,hoc,hdc⟩ ih;simp only at hj hp ho8 hd8 uo ud hoc hdc;by_cases ao:j<us.length
        ·obtain⟨c,hc⟩:=Zq ao;have ap:j<sO.length:=by omega
         obtain⟨y,hy⟩:=Zq ap;have hw:=Zj (k:=j) (by omega);have ae:=hu.2 c (Kc hc);have af:(sO.map Zc.Pane)[j]?=some y.Pane:=by rw[KX,hy];rfl
         rw[Zlm af hc] at hp;obtain⟨⟨W,H,T,K⟩,C⟩:=y;simp only at hp af;by_cases aa:c=0
         ·rw[Kh aa] at hp;simp +contextual -implicitDefEqProofs (maxSteps:=10^7) only[go_sem,seval,↓gZ,ao,ap,hy,hc,aa,hw];refine ih (j+1,o,d) _ ⟨by simp only;omega,hp,ho8,by simp only;omega,uo,ud,hoc,fun x hx=>by have:=hdc x hx;simp only;omega⟩ (by simp only;omega) ?_;simp +contextual -implicitDefEqProofs (maxSteps:=10^7) only[go_sem,seval,↓gZ]
         ·rw[Kd aa] at hp;have et:=Zbz o W H T K c (by omega) uo (fun x hx=>by have:=hoc x hx;unfold R64;omega);have ea:=ZcE d W H T K c (by omega) (fun x hx=>by have:=hdc x hx;unfold R64;omega);unfold tkV at et;by_cases ag:Xo ⟨W,H,T,K⟩ c false o=true
          ·rw[Kh ag] at hp et;simp +contextual -implicitDefEqProofs (maxSteps:=10^7) only[go_sem,seval,↓gZ,ao,ap,hy,hc,aa,hw,et,ea];refine ih (j+1,X0 o ⟨W,H,T,K⟩ c,YR ⟨W,H,T,K⟩ c d) _ ⟨by simp only;omega,hp,Kz (Kl _ _) ho8,Kz (Zdd _ _ _) (by simp only;omega),ZvK uo,ZyF ud (by omega),ZnD ae.1 (fun x hx=>(hoc x hx).2),fun x hx=>?_⟩ (by simp only;omega) ?_
           ·have:=Zme ae.1 (by omega) hdc x hx;simp only;omega
           ·simp +contextual -implicitDefEqProofs (maxSteps:=10^7) only[go_sem,seval,↓gZ]
          ·rw[Kd ag] at hp et;simp +contextual -implicitDefEqProofs (maxSteps:=10^7) only[go_sem,seval,↓gZ,ao,ap,hy,hc,aa,hw,et];rw[← hp];rfl
        ·have:j=sO.length:=by omega
         subst this;have ay:=@Ztd (sO.map Zc.Pane) (us.drop sO.length) o d;rw[KR] at ay;rw[ay] at hp;rw[← hp];unfold cpV;simp +contextual -implicitDefEqProofs (maxSteps:=10^7) only[go_sem,seval,↓gZ,e5,u1]
      ·rw[Kd ag] at hp et;simp +contextual -implicitDefEqProofs (maxSteps:=10^7) only[go_sem,seval,↓gZ,am,an,hy,hc,aa,hw,et];rw[← hp];rfl
    ·have:us.take i=us:=KH (by omega);rw[this] at av;exact absurd (av vz a3) au
theorem Zti {q x:Zb}:∀ {l:List Zb} {b:Int} {a:Nat},XB b l→l[a]?=some x→q.Label=x.Label→QC q (l.eraseIdx a)=l.set a q
 | [],b,a,_,h,_=>by simp at h
 | y :: l,b,0,hs,h,e=>by
  simp only[Lm,Option.some.injEq] at h;subst h;simp only[List.eraseIdx_cons_zero,List.set_cons_zero];cases l with
  | nil=>rfl
  | cons z l=>
   have:=hs.2.2.2.1;unfold QC;rw[Kh (by omega)]
 | y :: l,b,a+1,hs,h,e=>by
  simp only[Ln] at h;have ih:=Zti hs.2.2 h e;have:=ZjF hs.2.2 x (Kc h);simp only[List.eraseIdx_cons_succ,List.set_cons_succ];unfold QC;rw[Kd (by omega),ih]
theorem Zzv {s:Zs} {e:Zl} {a:Nat} {q:Zb} (hv:ZY s) (hk:e.kind=1) (ha:QA 0 s.Stock e.label=(a:Int)) (hx:s.Stock[a]?=some q) :
  QP s e=Vj (some { s with Stock:=s.Stock.set a { q with Flaws:=q.Flaws++[e.box] } }):=by
 have h1:=Zti (q := { q with Flaws:=q.Flaws++[e.box] }) hv.1.2 hx rfl;have h2:XB 0 (s.Stock.eraseIdx a):=Zh8 a hv.1.2;unfold QP evS;rw[Kd (by omega),Kh hk];simp only[Zfi ha hx];by_cases hr:WX { q with Flaws:=q.Flaws++[e.box] } (s.Stock.eraseIdx a)
 ·rw[Kh hr,h1]
 ·rw[Kd hr];unfold Vj;simp only;rw[Kd];intro hs;refine hr ⟨⟨⟨?_,h2⟩,?_⟩,?_⟩
  ·have:=hv.1.1;rw[List.length_eraseIdx];split<;>omega
  ·exact Qt hs.1.2 _ (Kc (i:=a) (by rw[Ly];simp[(Kb.1 hx).1]))
  ·rw[h1];exact hs.1
theorem Zpw (sS:List Zb) (sO sD:List Zc) (sL sC:Int) (eK eL eX eY eW eH aa ab:Int) (ad:Bool) (ae eC eo ea ep:Int) (et:Bool) (ek:List Zf) (hv:ZY (Zs.mk sS sO sD sL sC)) (h0:eK=0) (ha:WX ⟨eL,eW,eH,[]⟩ sS) (hx:eX=0) (hy:eY=0):Ze Xs Ms ZE [.ptr 0 0,(.d (.agg [J eK,J eL,J eX,J eY,J eW,J eH,J aa,J ab,.bool ad,J ae,J eC,J eo,J ea,J ep,.bool et,.sl (ek.map Zf.enc)]))] [.box [.own 1,.own 2,.own 3,(.d (J sL)),(.d (J sC))],.deep 4 4 (sS.map Zb.enc) none,.row 5 (sO.map Zc.enc) true false,.row 5 (sD.map Zc.enc) true false]=some ((.d (.bool true)),[.box [.own 4,.own 2,.own 3,(.d (J sL)),(.d (J (sC+eW*eH)))],.deep 4 4 (sS.map Zb.enc) none,.row 5 (sO.map Zc.enc) true false,.row 5 (sD.map Zc.enc) true false,.row 4 ((QC ⟨eL,eW,eH,[]⟩ sS).map Zb.enc) true false]):=by
 have e1:=ZqI sS sO sD sL sC eK eL eX eY eW eH aa ab ad ae eC eo ea ep et ek hv ha hx hy;subst h0;generalize QC ⟨eL,eW,eH,[]⟩ sS=Q at *;refine cE ?_;simp +contextual -implicitDefEqProofs (maxSteps:=10^7) only[go_sem,seval,↓gZ,Z5,e1]
theorem Zpx (sS:List Zb) (sO sD:List Zc) (sL sC:Int) (eK eL eX eY eW eH aa ab:Int) (ad:Bool) (ae eC eo ea ep:Int) (et:Bool) (ek:List Zf) (hv:ZY (Zs.mk sS sO sD sL sC)) (h0:eK=0) (hl:sS.length≤100000) (hn:¬((WX ⟨eL,eW,eH,[]⟩ sS∧eX=0)∧eY=0)):Ze Xs Ms ZE [.ptr 0 0,(.d (.agg [J eK,J eL,J eX,J eY,J eW,J eH,J aa,J ab,.bool ad,J ae,J eC,J eo,J ea,J ep,.bool et,.sl (ek.map Zf.enc)]))] [.box [.own 1,.own 2,.own 3,(.d (J sL)),(.d (J sC))],.deep 4 4 (sS.map Zb.enc) none,.row 5 (sO.map Zc.enc) true false,.row 5 (sD.map Zc.enc) true false]=some ((.d (.bool false)),[.box [.own 1,.own 2,.own 3,(.d (J sL)),(.d (J sC))],.deep 4 4 (sS.map Zb.enc) none,.row 5 (sO.map Zc.enc) true false,.row 5 (sD.map Zc.enc) true false]):=by
 have e1:=ZsD sS sO sD sL sC eK eL eX eY eW eH aa ab ad ae eC eo ea ep et ek hl hn;subst h0;refine cE ?_;simp +contextual -implicitDefEqProofs (maxSteps:=10^7) only[go_sem,seval,↓gZ,Z5,e1]
theorem Zpy (sS:List Zb) (sO sD:List Zc) (sL sC:Int) (eK eL eX eY eW eH aa ab:Int) (ad:Bool) (ae eC eo ea ep:Int) (et:Bool) (ek:List Zf) (hv:ZY (Zs.mk sS sO sD sL sC)) (h0:eK=1) (hl:sS.length≤100000) (a:Nat) (ha:QA 0 sS eL=(a:Int)) (xL xW xH:Int) (xF:List Box) (hx:sS[a]?=some (Zb.mk xL xW xH xF)) (hF:xF.length≤1000):Ze Xs Ms ZE [.ptr 0 0,(.d (.agg [J eK,J eL,J eX,J eY,J eW,J eH,J aa,J ab,.bool ad,J ae,J eC,J eo,J ea,J ep,.bool et,.sl (ek.map Zf.enc)]))] [.box [.own 1,.own 2,.own 3,(.d (J sL)),(.d (J sC))],.deep 4 4 (sS.map Zb.enc) none,.row 5 (sO.map Zc.enc) true false,.row 5 (sD.map Zc.enc) true false]=some ((.d (.bool true)),[.box [.own 1,.own 2,.own 3,(.d (J sL)),(.d (J sC))],.row 4 ((sS.set a ⟨xL,xW,xH,xF++[⟨eX,eY,eW,eH⟩]⟩).map Zb.enc) true false,.row 5 (sO.map Zc.enc) true false,.row 5 (sD.map Zc.enc) true false]):=by
 have e1:=ZsE sS sO sD sL sC eK eL eX eY eW eH aa ab ad ae eC eo ea ep et ek hl a ha xL xW xH xF hx hF;subst h0;generalize sS.set a ⟨xL,xW,xH,xF++[⟨eX,eY,eW,eH⟩]⟩=Q at *;refine cE ?_;simp +contextual -implicitDefEqProofs (maxSteps:=10^7) only[go_sem,seval,↓gZ,Z5,e1]
theorem Zpz (sS:List Zb) (sO sD:List Zc) (sL sC:Int) (eK eL eX eY eW eH aa ab:Int) (ad:Bool) (ae eC eo ea ep:Int) (et:Bool) (ek:List Zf) (hv:ZY (Zs.mk sS sO sD sL sC)) (h0:eK=1) (hl:sS.length≤100000) (hn:QA 0 sS eL<0):Ze Xs Ms ZE [.ptr 0 0,(.d (.agg [J eK,J eL,J eX,J eY,J eW,J eH,J aa,J ab,.bool ad,J ae,J eC,J eo,J ea,J ep,.bool et,.sl (ek.map Zf.enc)]))] [.box [.own 1,.own 2,.own 3,(.d (J sL)),(.d (J sC))],.deep 4 4 (sS.map Zb.enc) none,.row 5 (sO.map Zc.enc) true false,.row 5 (sD.map Zc.enc) true false]=some ((.d (.bool false)),[.box [.own 1,.own 2,.own 3,(.d (J sL)),(.d (J sC))],.deep 4 4 (sS.map Zb.enc) none,.row 5 (sO.map Zc.enc) true false,.row 5 (sD.map Zc.enc) true false]):=by
 have e1:=Zup sS sO sD sL sC eK eL eX eY eW eH aa ab ad ae eC eo ea ep et ek hl hn;subst h0;refine cE ?_;simp +contextual -implicitDefEqProofs (maxSteps:=10^7) only[go_sem,seval,↓gZ,Z5,e1]
theorem ZpA (sS:List Zb) (sO sD:List Zc) (sL sC:Int) (eK eL eX eY eW eH aa ab:Int) (ad:Bool) (ae eC eo ea ep:Int) (et:Bool) (ek:List Zf) (hv:ZY (Zs.mk sS sO sD sL sC)) (h0:eK=2) (hn:WN ⟨⟨aa,ab,ad,ae⟩,eC⟩):Ze Xs Ms ZE [.ptr 0 0,(.d (.agg [J eK,J eL,J eX,J eY,J eW,J eH,J aa,J ab,.bool ad,J ae,J eC,J eo,J ea,J ep,.bool et,.sl (ek.map Zf.enc)]))] [.box [.own 1,.own 2,.own 3,(.d (J sL)),(.d (J sC))],.deep 4 4 (sS.map Zb.enc) none,.row 5 (sO.map Zc.enc) true false,.row 5 (sD.map Zc.enc) true false]=some ((.d (.bool true)),[.box [.own 1,.own 4,.own 3,(.d (J sL)),(.d (J sC))],.deep 4 4 (sS.map Zb.enc) none,.row 5 (sO.map Zc.enc) true false,.row 5 (sD.map Zc.enc) true false,.row 5 ((YR ⟨aa,ab,ad,ae⟩ eC sO).map Zc.enc) true false]):=by
 have e1:=ZnJ sS sO sD sL sC eK eL eX eY eW eH aa ab ad ae eC eo ea ep et ek hv hn;subst h0;generalize YR ⟨aa,ab,ad,ae⟩ eC sO=Q at *;refine cE ?_;simp +contextual -implicitDefEqProofs (maxSteps:=10^7) only[go_sem,seval,↓gZ,Z5,e1]
theorem ZpB (sS:List Zb) (sO sD:List Zc) (sL sC:Int) (eK eL eX eY eW eH aa ab:Int) (ad:Bool) (ae eC eo ea ep:Int) (et:Bool) (ek:List Zf) (hv:ZY (Zs.mk sS sO sD sL sC)) (h0:eK=2) (hn:¬WN ⟨⟨aa,ab,ad,ae⟩,eC⟩):Ze Xs Ms ZE [.ptr 0 0,(.d (.agg [J eK,J eL,J eX,J eY,J eW,J eH,J aa,J ab,.bool ad,J ae,J eC,J eo,J ea,J ep,.bool et,.sl (ek.map Zf.enc)]))] [.box [.own 1,.own 2,.own 3,(.d (J sL)),(.d (J sC))],.deep 4 4 (sS.map Zb.enc) none,.row 5 (sO.map Zc.enc) true false,.row 5 (sD.map Zc.enc) true false]=some ((.d (.bool false)),[.box [.own 1,.own 2,.own 3,(.d (J sL)),(.d (J sC))],.deep 4 4 (sS.map Zb.enc) none,.row 5 (sO.map Zc.enc) true false,.row 5 (sD.map Zc.enc) true false]):=by
 have e1:=Zpt sS sO sD sL sC eK eL eX eY eW eH aa ab ad ae eC eo ea ep et ek hn;subst h0;refine cE ?_;simp +contextual -implicitDefEqProofs (maxSteps:=10^7) only[go_sem,seval,↓gZ,Z5,e1]
theorem ZpC (sS:List Zb) (sO sD:List Zc) (sL sC:Int) (eK eL eX eY eW eH aa ab:Int) (ad:Bool) (ae eC eo ea ep:Int) (et:Bool) (ek:List Zf) (hv:ZY (Zs.mk sS sO sD sL sC)) (h0:eK=4) (hl:WN ⟨⟨aa,ab,ad,ae⟩,eC⟩) (hk:Xo ⟨aa,ab,ad,ae⟩ eC false sD=true):Ze Xs Ms ZE [.ptr 0 0,(.d (.agg [J eK,J eL,J eX,J eY,J eW,J eH,J aa,J ab,.bool ad,J ae,J eC,J eo,J ea,J ep,.bool et,.sl (ek.map Zf.enc)]))] [.box [.own 1,.own 2,.own 3,(.d (J sL)),(.d (J sC))],.deep 4 4 (sS.map Zb.enc) none,.row 5 (sO.map Zc.enc) true false,.row 5 (sD.map Zc.enc) true false]=some ((.d (.bool true)),[.box [.own 1,.own 4,.own 5,(.d (J (sL+eC*aa*ab))),(.d (J sC))],.deep 4 4 (sS.map Zb.enc) none,.row 5 (sO.map Zc.enc) true false,.row 5 (sD.map Zc.enc) true false,.row 5 ((YR ⟨aa,ab,ad,ae⟩ eC sO).map Zc.enc) true false,.row 5 ((X0 sD ⟨aa,ab,ad,ae⟩ eC).map Zc.enc) true false]):=by
 have e1:=ZnK sS sO sD sL sC eK eL eX eY eW eH aa ab ad ae eC eo ea ep et ek hv hl hk;subst h0;generalize YR ⟨aa,ab,ad,ae⟩ eC sO=Q at *;generalize X0 sD ⟨aa,ab,ad,ae⟩ eC=Q2 at *;refine cE ?_;simp +contextual -implicitDefEqProofs (maxSteps:=10^7) only[go_sem,seval,↓gZ,Z5,e1]
theorem ZpD (sS:List Zb) (sO sD:List Zc) (sL sC:Int) (eK eL eX eY eW eH aa ab:Int) (ad:Bool) (ae eC eo ea ep:Int) (et:Bool) (ek:List Zf) (hv:ZY (Zs.mk sS sO sD sL sC)) (h0:eK=4) (hn:¬(WN ⟨⟨aa,ab,ad,ae⟩,eC⟩∧Xo ⟨aa,ab,ad,ae⟩ eC false sD=true)):Ze Xs Ms ZE [.ptr 0 0,(.d (.agg [J eK,J eL,J eX,J eY,J eW,J eH,J aa,J ab,.bool ad,J ae,J eC,J eo,J ea,J ep,.bool et,.sl (ek.map Zf.enc)]))] [.box [.own 1,.own 2,.own 3,(.d (J sL)),(.d (J sC))],.deep 4 4 (sS.map Zb.enc) none,.row 5 (sO.map Zc.enc) true false,.row 5 (sD.map Zc.enc) true false]=some ((.d (.bool false)),[.box [.own 1,.own 2,.own 3,(.d (J sL)),(.d (J sC))],.deep 4 4 (sS.map Zb.enc) none,.row 5 (sO.map Zc.enc) true false,.row 5 (sD.map Zc.enc) true false]):=by
 have e1:=Zpu sS sO sD sL sC eK eL eX eY eW eH aa ab ad ae eC eo ea ep et ek hv hn;subst h0;refine cE ?_;simp +contextual -implicitDefEqProofs (maxSteps:=10^7) only[go_sem,seval,↓gZ,Z5,e1]
theorem ZpE (sS:List Zb) (sO sD:List Zc) (sL sC:Int) (eK eL eX eY eW eH aa ab:Int) (ad:Bool) (ae eC eo ea ep:Int) (et:Bool) (ek:List Zf) (hv:ZY (Zs.mk sS sO sD sL sC)) (h0:eK=5) (a:Nat) (ha:QA 0 sS eL=(a:Int)) (xL xW xH:Int) (xF:List Box) (hx:sS[a]?=some (Zb.mk xL xW xH xF)):Ze Xs Ms ZE [.ptr 0 0,(.d (.agg [J eK,J eL,J eX,J eY,J eW,J eH,J aa,J ab,.bool ad,J ae,J eC,J eo,J ea,J ep,.bool et,.sl (ek.map Zf.enc)]))] [.box [.own 1,.own 2,.own 3,(.d (J sL)),(.d (J sC))],.deep 4 4 (sS.map Zb.enc) none,.row 5 (sO.map Zc.enc) true false,.row 5 (sD.map Zc.enc) true false]=some ((.d (.bool true)),[.box [.own 4,.own 2,.own 3,(.d (J (sL+xW*xH))),(.d (J sC))],.deep 4 4 (sS.map Zb.enc) none,.row 5 (sO.map Zc.enc) true false,.row 5 (sD.map Zc.enc) true false,.row 4 ((sS.eraseIdx a).map Zb.enc) true false]):=by
 have e1:=ZnL sS sO sD sL sC eK eL eX eY eW eH aa ab ad ae eC eo ea ep et ek hv a ha xL xW xH xF hx;subst h0;generalize sS.eraseIdx a=Q at *;refine cE ?_;simp +contextual -implicitDefEqProofs (maxSteps:=10^7) only[go_sem,seval,↓gZ,Z5,e1]
theorem ZpF (sS:List Zb) (sO sD:List Zc) (sL sC:Int) (eK eL eX eY eW eH aa ab:Int) (ad:Bool) (ae eC eo ea ep:Int) (et:Bool) (ek:List Zf) (hv:ZY (Zs.mk sS sO sD sL sC)) (h0:eK=5) (hn:QA 0 sS eL<0):Ze Xs Ms ZE [.ptr 0 0,(.d (.agg [J eK,J eL,J eX,J eY,J eW,J eH,J aa,J ab,.bool ad,J ae,J eC,J eo,J ea,J ep,.bool et,.sl (ek.map Zf.enc)]))] [.box [.own 1,.own 2,.own 3,(.d (J sL)),(.d (J sC))],.deep 4 4 (sS.map Zb.enc) none,.row 5 (sO.map Zc.enc) true false,.row 5 (sD.map Zc.enc) true false]=some ((.d (.bool false)),[.box [.own 1,.own 2,.own 3,(.d (J sL)),(.d (J sC))],.deep 4 4 (sS.map Zb.enc) none,.row 5 (sO.map Zc.enc) true false,.row 5 (sD.map Zc.enc) true false]):=by
 have e1:=Zpv sS sO sD sL sC eK eL eX eY eW eH aa ab ad ae eC eo ea ep et ek hn;subst h0;refine cE ?_;simp +contextual -implicitDefEqProofs (maxSteps:=10^7) only[go_sem,seval,↓gZ,Z5,e1]
theorem ZqK (sS:List Zb) (sO sD:List Zc) (sL sC:Int) (eK eL eX eY eW eH aa ab:Int) (ad:Bool) (ae eC eo ea ep:Int) (et:Bool) (ek:List Zf) (hv:ZY (Zs.mk sS sO sD sL sC)) (h0:eK=3):Ze Xs Ms ZE [.ptr 0 0,(.d (.agg [J eK,J eL,J eX,J eY,J eW,J eH,J aa,J ab,.bool ad,J ae,J eC,J eo,J ea,J ep,.bool et,.sl (ek.map Zf.enc)]))] [.box [.own 1,.own 2,.own 3,(.d (J sL)),(.d (J sC))],.deep 4 4 (sS.map Zb.enc) none,.row 5 (sO.map Zc.enc) true false,.row 5 (sD.map Zc.enc) true false]=some (cpV sS sO sD sL sC (Zfg (Zs.mk sS sO sD sL sC) (Zl.mk eK eL (Box.mk eX eY eW eH) (Zc.mk (Pane.mk aa ab ad ae) eC) (Zf.mk eo ea ep et ek)))):=by
 have e1:=ZsF sS sO sD sL sC eK eL eX eY eW eH aa ab ad ae eC eo ea ep et ek hv;subst h0;generalize Zfg (Zs.mk sS sO sD sL sC) (Zl.mk 3 eL (Box.mk eX eY eW eH) (Zc.mk (Pane.mk aa ab ad ae) eC) (Zf.mk eo ea ep et ek))=t at *;cases t with
 | none=>
  unfold cpV at e1 ⊢;refine cE ?_;simp +contextual -implicitDefEqProofs (maxSteps:=10^7) only[go_sem,seval,↓gZ,Z5,e1]
 | some t=>
  unfold cpV at e1 ⊢;obtain⟨a,b,c,d,f⟩:=t;simp only at e1 ⊢;refine cE ?_;simp +contextual -implicitDefEqProofs (maxSteps:=10^7) only[go_sem,seval,↓gZ,Z5,e1]
theorem ZqL (sS:List Zb) (sO sD:List Zc) (sL sC:Int) (eK eL eX eY eW eH aa ab:Int) (ad:Bool) (ae eC eo ea ep:Int) (et:Bool) (ek:List Zf) (h0:¬eK=0) (h1:¬eK=1) (h2:¬eK=2) (h3:¬eK=3) (h4:¬eK=4) (h5:¬eK=5):Ze Xs Ms ZE [.ptr 0 0,(.d (.agg [J eK,J eL,J eX,J eY,J eW,J eH,J aa,J ab,.bool ad,J ae,J eC,J eo,J ea,J ep,.bool et,.sl (ek.map Zf.enc)]))] [.box [.own 1,.own 2,.own 3,(.d (J sL)),(.d (J sC))],.deep 4 4 (sS.map Zb.enc) none,.row 5 (sO.map Zc.enc) true false,.row 5 (sD.map Zc.enc) true false]=some ((.d (.bool false)),[.box [.own 1,.own 2,.own 3,(.d (J sL)),(.d (J sC))],.deep 4 4 (sS.map Zb.enc) none,.row 5 (sO.map Zc.enc) true false,.row 5 (sD.map Zc.enc) true false]):=by
 refine cE ?_;simp +contextual -implicitDefEqProofs (maxSteps:=10^7) only[go_sem,seval,↓gZ,Z5,h0,h1,h2,h3,h4,h5]
theorem ZnM (sS:List Zb) (sO sD:List Zc) (sL sC:Int) (eK eL eX eY eW eH aa ab:Int) (ad:Bool) (ae eC eo ea ep:Int) (et:Bool) (ek:List Zf) (hv:¬ZY (Zs.mk sS sO sD sL sC)):Ze Xs Ms Qi [(.d (.agg [.sl (sS.map Zb.enc),.sl (sO.map Zc.enc),.sl (sD.map Zc.enc),J sL,J sC])),(.d (.agg [J eK,J eL,J eX,J eY,J eW,J eH,J aa,J ab,.bool ad,J ae,J eC,J eo,J ea,J ep,.bool et,.sl (ek.map Zf.enc)]))] []=some (shV none):=by
 have e1:=Qh sS sO sD sL sC;rw[Kj hv] at e1;unfold shV;refine cE ?_;simp +contextual -implicitDefEqProofs (maxSteps:=10^7) only[go_sem,seval,↓gZ,Qb,e1]
theorem X8 (sS:List Zb) (sO sD:List Zc) (sL sC:Int) (eK eL eX eY eW eH aa ab:Int) (ad:Bool) (ae eC eo ea ep:Int) (et:Bool) (ek:List Zf) (hv:ZY (Zs.mk sS sO sD sL sC)) (hc:Ze Xs Ms ZE [.ptr 0 0,(.d (.agg [J eK,J eL,J eX,J eY,J eW,J eH,J aa,J ab,.bool ad,J ae,J eC,J eo,J ea,J ep,.bool et,.sl (ek.map Zf.enc)]))] [.box [.own 1,.own 2,.own 3,(.d (J sL)),(.d (J sC))],.deep 4 4 (sS.map Zb.enc) none,.row 5 (sO.map Zc.enc) true false,.row 5 (sD.map Zc.enc) true false]=some ((.d (.bool false)),[.box [.own 1,.own 2,.own 3,(.d (J sL)),(.d (J sC))],.deep 4 4 (sS.map Zb.enc) none,.row 5 (sO.map Zc.enc) true false,.row 5 (sD.map Zc.enc) true false])):Ze Xs Ms Qi [(.d (.agg [.sl (sS.map Zb.enc),.sl (sO.map Zc.enc),.sl (sD.map Zc.enc),J sL,J sC])),(.d (.agg [J eK,J eL,J eX,J eY,J eW,J eH,J aa,J ab,.bool ad,J ae,J eC,J eo,J ea,J ep,.bool et,.sl (ek.map Zf.enc)]))] []=some (shV none):=by
 have e1:=Qh sS sO sD sL sC;rw[Ki hv] at e1;have e2:=Wt sS sO sD sL sC (U1 hv);unfold shV;refine cE ?_;simp +contextual -implicitDefEqProofs (maxSteps:=10^7) only[go_sem,seval,↓gZ,Qb,e1,e2,hc]
theorem Zhm (sS:List Zb) (sO sD:List Zc) (sL sC:Int) (eK eL eX eY eW eH ab ad:Int) (ae:Bool) (af eC eo ea ep:Int) (et:Bool) (ek:List Zf) (hv:ZY (Zs.mk sS sO sD sL sC)) (tS:List Zb) (tO tD:List Zc) (tL tC:Int) (hc:Ze Xs Ms ZE [.ptr 0 0,(.d (.agg [J eK,J eL,J eX,J eY,J eW,J eH,J ab,J ad,.bool ae,J af,J eC,J eo,J ea,J ep,.bool et,.sl (ek.map Zf.enc)]))] [.box [.own 1,.own 2,.own 3,(.d (J sL)),(.d (J sC))],.deep 4 4 (sS.map Zb.enc) none,.row 5 (sO.map Zc.enc) true false,.row 5 (sD.map Zc.enc) true false]=some ((.d (.bool true)),[.box [.own 4,.own 2,.own 3,(.d (J tL)),(.d (J tC))],.deep 4 4 (sS.map Zb.enc) none,.row 5 (sO.map Zc.enc) true false,.row 5 (sD.map Zc.enc) true false,.row 4 (tS.map Zb.enc) true false])):Ze Xs Ms Qi [(.d (.agg [.sl (sS.map Zb.enc),.sl (sO.map Zc.enc),.sl (sD.map Zc.enc),J sL,J sC])),(.d (.agg [J eK,J eL,J eX,J eY,J eW,J eH,J ab,J ad,.bool ae,J af,J eC,J eo,J ea,J ep,.bool et,.sl (ek.map Zf.enc)]))] []=some (shV (Vj (some ⟨tS,sO,sD,tL,tC⟩))):=by
 have e1:=Qh sS sO sD sL sC;rw[Ki hv] at e1;have e2:=Wt sS sO sD sL sC (U1 hv);have e3:=Qh tS sO sD tL tC;unfold Vj;by_cases aa:ZY ⟨tS,sO,sD,tL,tC⟩
 ·rw[Ki aa] at e3;simp only[Kh aa];unfold shV;refine cE ?_;simp +contextual -implicitDefEqProofs (maxSteps:=10^7) only[go_sem,seval,↓gZ,Qb,e1,e2,hc,e3]
 ·rw[Kj aa] at e3;simp only[Kd aa];unfold shV;refine cE ?_;simp +contextual -implicitDefEqProofs (maxSteps:=10^7) only[go_sem,seval,↓gZ,Qb,e1,e2,hc,e3]
theorem ZpG (sS:List Zb) (sO sD:List Zc) (sL sC:Int) (eK eL eX eY eW eH ab ad:Int) (ae:Bool) (af eC eo ea ep:Int) (et:Bool) (ek:List Zf) (hv:ZY (Zs.mk sS sO sD sL sC)) (tS:List Zb) (tO tD:List Zc) (tL tC:Int) (hc:Ze Xs Ms ZE [.ptr 0 0,(.d (.agg [J eK,J eL,J eX,J eY,J eW,J eH,J ab,J ad,.bool ae,J af,J eC,J eo,J ea,J ep,.bool et,.sl (ek.map Zf.enc)]))] [.box [.own 1,.own 2,.own 3,(.d (J sL)),(.d (J sC))],.deep 4 4 (sS.map Zb.enc) none,.row 5 (sO.map Zc.enc) true false,.row 5 (sD.map Zc.enc) true false]=some ((.d (.bool true)),[.box [.own 1,.own 2,.own 3,(.d (J tL)),(.d (J tC))],.row 4 (tS.map Zb.enc) true false,.row 5 (sO.map Zc.enc) true false,.row 5 (sD.map Zc.enc) true false])):Ze Xs Ms Qi [(.d (.agg [.sl (sS.map Zb.enc),.sl (sO.map Zc.enc),.sl (sD.map Zc.enc),J sL,J sC])),(.d (.agg [J eK,J eL,J eX,J eY,J eW,J eH,J ab,J ad,.bool ae,J af,J eC,J eo,J ea,J ep,.bool et,.sl (ek.map Zf.enc)]))] []=some (shV (Vj (some ⟨tS,sO,sD,tL,tC⟩))):=by
 have e1:=Qh sS sO sD sL sC;rw[Ki hv] at e1;have e2:=Wt sS sO sD sL sC (U1 hv);have e3:=Qh tS sO sD tL tC;unfold Vj;by_cases aa:ZY ⟨tS,sO,sD,tL,tC⟩
 ·rw[Ki aa] at e3;simp only[Kh aa];unfold shV;refine cE ?_;simp +contextual -implicitDefEqProofs (maxSteps:=10^7) only[go_sem,seval,↓gZ,Qb,e1,e2,hc,e3]
 ·rw[Kj aa] at e3;simp only[Kd aa];unfold shV;refine cE ?_;simp +contextual -implicitDefEqProofs (maxSteps:=10^7) only[go_sem,seval,↓gZ,Qb,e1,e2,hc,e3]
theorem ZpH (sS:List Zb) (sO sD:List Zc) (sL sC:Int) (eK eL eX eY eW eH ab ad:Int) (ae:Bool) (af eC eo ea ep:Int) (et:Bool) (ek:List Zf) (hv:ZY (Zs.mk sS sO sD sL sC)) (tS:List Zb) (tO tD:List Zc) (tL tC:Int) (hc:Ze Xs Ms ZE [.ptr 0 0,(.d (.agg [J eK,J eL,J eX,J eY,J eW,J eH,J ab,J ad,.bool ae,J af,J eC,J eo,J ea,J ep,.bool et,.sl (ek.map Zf.enc)]))] [.box [.own 1,.own 2,.own 3,(.d (J sL)),(.d (J sC))],.deep 4 4 (sS.map Zb.enc) none,.row 5 (sO.map Zc.enc) true false,.row 5 (sD.map Zc.enc) true false]=some ((.d (.bool true)),[.box [.own 1,.own 4,.own 3,(.d (J tL)),(.d (J tC))],.deep 4 4 (sS.map Zb.enc) none,.row 5 (sO.map Zc.enc) true false,.row 5 (sD.map Zc.enc) true false,.row 5 (tO.map Zc.enc) true false])):Ze Xs Ms Qi [(.d (.agg [.sl (sS.map Zb.enc),.sl (sO.map Zc.enc),.sl (sD.map Zc.enc),J sL,J sC])),(.d (.agg [J eK,J eL,J eX,J eY,J eW,J eH,J ab,J ad,.bool ae,J af,J eC,J eo,J ea,J ep,.bool et,.sl (ek.map Zf.enc)]))] []=some (shV (Vj (some ⟨sS,tO,sD,tL,tC⟩))):=by
 have e1:=Qh sS sO sD sL sC;rw[Ki hv] at e1;have e2:=Wt sS sO sD sL sC (U1 hv);have e3:=Qh sS tO sD tL tC;unfold Vj;by_cases aa:ZY ⟨sS,tO,sD,tL,tC⟩
 ·rw[Ki aa] at e3;simp only[Kh aa];unfold shV;refine cE ?_;simp +contextual -implicitDefEqProofs (maxSteps:=10^7) only[go_sem,seval,↓gZ,Qb,e1,e2,hc,e3]
 ·rw[Kj aa] at e3;simp only[Kd aa];unfold shV;refine cE ?_;simp +contextual -implicitDefEqProofs (maxSteps:=10^7) only[go_sem,seval,↓gZ,Qb,e1,e2,hc,e3]
theorem ZpI (sS:List Zb) (sO sD:List Zc) (sL sC:Int) (eK eL eX eY eW eH ab ad:Int) (ae:Bool) (af eC eo ea ep:Int) (et:Bool) (ek:List Zf) (hv:ZY (Zs.mk sS sO sD sL sC)) (tS:List Zb) (tO tD:List Zc) (tL tC:Int) (hc:Ze Xs Ms ZE [.ptr 0 0,(.d (.agg [J eK,J eL,J eX,J eY,J eW,J eH,J ab,J ad,.bool ae,J af,J eC,J eo,J ea,J ep,.bool et,.sl (ek.map Zf.enc)]))] [.box [.own 1,.own 2,.own 3,(.d (J sL)),(.d (J sC))],.deep 4 4 (sS.map Zb.enc) none,.row 5 (sO.map Zc.enc) true false,.row 5 (sD.map Zc.enc) true false]=some ((.d (.bool true)),[.box [.own 1,.own 4,.own 5,(.d (J tL)),(.d (J tC))],.deep 4 4 (sS.map Zb.enc) none,.row 5 (sO.map Zc.enc) true false,.row 5 (sD.map Zc.enc) true false,.row 5 (tO.map Zc.enc) true false,.row 5 (tD.map Zc.enc) true false])):Ze Xs Ms Qi [(.d (.agg [.sl (sS.map Zb.enc),.sl (sO.map Zc.enc),.sl (sD.map Zc.enc),J sL,J sC])),(.d (.agg [J eK,J eL,J eX,J eY,J eW,J eH,J ab,J ad,.bool ae,J af,J eC,J eo,J ea,J ep,.bool et,.sl (ek.map Zf.enc)]))] []=some (shV (Vj (some ⟨sS,tO,tD,tL,tC⟩))):=by
 have e1:=Qh sS sO sD sL sC;rw[Ki hv] at e1;have e2:=Wt sS sO sD sL sC (U1 hv);have e3:=Qh sS tO tD tL tC;unfold Vj;by_cases aa:ZY ⟨sS,tO,tD,tL,tC⟩
 ·rw[Ki aa] at e3;simp only[Kh aa];unfold shV;refine cE ?_;simp +contextual -implicitDefEqProofs (maxSteps:=10^7) only[go_sem,seval,↓gZ,Qb,e1,e2,hc,e3]
 ·rw[Kj aa] at e3;simp only[Kd aa];unfold shV;refine cE ?_;simp +contextual -implicitDefEqProofs (maxSteps:=10^7) only[go_sem,seval,↓gZ,Qb,e1,e2,hc,e3]
theorem ZpJ (sS:List Zb) (sO sD:List Zc) (sL sC:Int) (eK eL eX eY eW eH ab ad:Int) (ae:Bool) (af eC eo ea ep:Int) (et:Bool) (ek:List Zf) (hv:ZY (Zs.mk sS sO sD sL sC)) (tS:List Zb) (tO tD:List Zc) (tL tC:Int) (hc:Ze Xs Ms ZE [.ptr 0 0,(.d (.agg [J eK,J eL,J eX,J eY,J eW,J eH,J ab,J ad,.bool ae,J af,J eC,J eo,J ea,J ep,.bool et,.sl (ek.map Zf.enc)]))] [.box [.own 1,.own 2,.own 3,(.d (J sL)),(.d (J sC))],.deep 4 4 (sS.map Zb.enc) none,.row 5 (sO.map Zc.enc) true false,.row 5 (sD.map Zc.enc) true false]=some ((.d (.bool true)),[.box [.own 4,.own 5,.own 6,(.d (J tL)),(.d (J tC))],.deep 4 4 (sS.map Zb.enc) none,.row 5 (sO.map Zc.enc) true false,.row 5 (sD.map Zc.enc) true false,.row 4 (tS.map Zb.enc) true false,.row 5 (tO.map Zc.enc) true false,.row 5 (tD.map Zc.enc) true false])):Ze Xs Ms Qi [(.d (.agg [.sl (sS.map Zb.enc),.sl (sO.map Zc.enc),.sl (sD.map Zc.enc),J sL,J sC])),(.d (.agg [J eK,J eL,J eX,J eY,J eW,J eH,J ab,J ad,.bool ae,J af,J eC,J eo,J ea,J ep,.bool et,.sl (ek.map Zf.enc)]))] []=some (shV (Vj (some ⟨tS,tO,tD,tL,tC⟩))):=by
 have e1:=Qh sS sO sD sL sC;rw[Ki hv] at e1;have e2:=Wt sS sO sD sL sC (U1 hv);have e3:=Qh tS tO tD tL tC;unfold Vj;by_cases aa:ZY ⟨tS,tO,tD,tL,tC⟩
 ·rw[Ki aa] at e3;simp only[Kh aa];unfold shV;refine cE ?_;simp +contextual -implicitDefEqProofs (maxSteps:=10^7) only[go_sem,seval,↓gZ,Qb,e1,e2,hc,e3]
 ·rw[Kj aa] at e3;simp only[Kd aa];unfold shV;refine cE ?_;simp +contextual -implicitDefEqProofs (maxSteps:=10^7) only[go_sem,seval,↓gZ,Qb,e1,e2,hc,e3]
theorem Zhn (sS:List Zb) (sO sD:List Zc) (sL sC:Int) (eK eL eX eY eW eH aa ab:Int) (ad:Bool) (ae eC eo ea ep:Int) (et:Bool) (ek:List Zf):Ze Xs Ms Qi [(.d (.agg [.sl (sS.map Zb.enc),.sl (sO.map Zc.enc),.sl (sD.map Zc.enc),J sL,J sC])),(.d (.agg [J eK,J eL,J eX,J eY,J eW,J eH,J aa,J ab,.bool ad,J ae,J eC,J eo,J ea,J ep,.bool et,.sl (ek.map Zf.enc)]))] []=some (shV (if ZY (Zs.mk sS sO sD sL sC) then QP (Zs.mk sS sO sD sL sC) (Zl.mk eK eL (Box.mk eX eY eW eH) (Zc.mk (Pane.mk aa ab ad ae) eC) (Zf.mk eo ea ep et ek)) else none)):=by
 by_cases hv:ZY (Zs.mk sS sO sD sL sC)
 ·rw[Kh hv];have af:sS.length≤100000:=by have:=hv.1.1;simp only at this;omega
  by_cases k0:eK=0
  ·by_cases hr:(WX ⟨eL,eW,eH,[]⟩ sS∧eX=0)∧eY=0
   ·have ee:QP (Zs.mk sS sO sD sL sC) (Zl.mk eK eL (Box.mk eX eY eW eH) (Zc.mk (Pane.mk aa ab ad ae) eC) (Zf.mk eo ea ep et ek))=Vj (some (Zs.mk (QC ⟨eL,eW,eH,[]⟩ sS) sO sD sL (sC+eW*eH))):=by unfold QP evS;simp only[k0,hr,Km,and_self]
    rw[ee];exact Zhm sS sO sD sL sC eK eL eX eY eW eH aa ab ad ae eC eo ea ep et ek hv _ sO sD _ _ (Zpw sS sO sD sL sC eK eL eX eY eW eH aa ab ad ae eC eo ea ep et ek hv k0 hr.1.1 hr.1.2 hr.2)
   ·have ee:QP (Zs.mk sS sO sD sL sC) (Zl.mk eK eL (Box.mk eX eY eW eH) (Zc.mk (Pane.mk aa ab ad ae) eC) (Zf.mk eo ea ep et ek))=none:=by unfold QP evS;simp only[k0,Km];rw[Kd hr];rfl
    rw[ee];exact X8 sS sO sD sL sC eK eL eX eY eW eH aa ab ad ae eC eo ea ep et ek hv (Zpx sS sO sD sL sC eK eL eX eY eW eH aa ab ad ae eC eo ea ep et ek hv k0 af hr)
  ·by_cases k1:eK=1
   ·by_cases hf:QA 0 sS eL<0
    ·have ee:QP (Zs.mk sS sO sD sL sC) (Zl.mk eK eL (Box.mk eX eY eW eH) (Zc.mk (Pane.mk aa ab ad ae) eC) (Zf.mk eo ea ep et ek))=none:=by unfold QP evS;simp[k1,Zfh hf,Vj]
     rw[ee];exact X8 sS sO sD sL sC eK eL eX eY eW eH aa ab ad ae eC eo ea ep et ek hv (Zpz sS sO sD sL sC eK eL eX eY eW eH aa ab ad ae eC eo ea ep et ek hv k1 af hf)
    ·obtain⟨a,x,ha,hx⟩:=ZbK (by omega:0≤QA 0 sS eL);have ag:=(Qt hv.1.2 x (Kc hx)).1;obtain⟨xL,xW,xH,xF⟩:=x;simp only at ag;rw[Zzv hv k1 ha hx];exact ZpG sS sO sD sL sC eK eL eX eY eW eH aa ab ad ae eC eo ea ep et ek hv _ sO sD _ _ (Zpy sS sO sD sL sC eK eL eX eY eW eH aa ab ad ae eC eo ea ep et ek hv k1 af a ha xL xW xH xF hx (by omega))
   ·by_cases k5:eK=5
    ·by_cases hf:QA 0 sS eL<0
     ·have ee:QP (Zs.mk sS sO sD sL sC) (Zl.mk eK eL (Box.mk eX eY eW eH) (Zc.mk (Pane.mk aa ab ad ae) eC) (Zf.mk eo ea ep et ek))=none:=by unfold QP evS;simp[k5,Zfh hf,Vj]
      rw[ee];exact X8 sS sO sD sL sC eK eL eX eY eW eH aa ab ad ae eC eo ea ep et ek hv (ZpF sS sO sD sL sC eK eL eX eY eW eH aa ab ad ae eC eo ea ep et ek hv k5 hf)
     ·obtain⟨a,x,ha,hx⟩:=ZbK (by omega:0≤QA 0 sS eL);obtain⟨xL,xW,xH,xF⟩:=x;have ee:QP (Zs.mk sS sO sD sL sC) (Zl.mk eK eL (Box.mk eX eY eW eH) (Zc.mk (Pane.mk aa ab ad ae) eC) (Zf.mk eo ea ep et ek))=Vj (some (Zs.mk (sS.eraseIdx a) sO sD (sL+xW*xH) sC)):=by unfold QP evS;simp[k5,Zfi ha hx]
      rw[ee];exact Zhm sS sO sD sL sC eK eL eX eY eW eH aa ab ad ae eC eo ea ep et ek hv _ sO sD _ _ (ZpE sS sO sD sL sC eK eL eX eY eW eH aa ab ad ae eC eo ea ep et ek hv k5 a ha xL xW xH xF hx)
    ·by_cases k2:eK=2
     ·by_cases hl:WN ⟨⟨aa,ab,ad,ae⟩,eC⟩
      ·have ee:QP (Zs.mk sS sO sD sL sC) (Zl.mk eK eL (Box.mk eX eY eW eH) (Zc.mk (Pane.mk aa ab ad ae) eC) (Zf.mk eo ea ep et ek))=Vj (some (Zs.mk sS (YR ⟨aa,ab,ad,ae⟩ eC sO) sD sL sC)):=by unfold QP evS;simp[k2,hl]
       rw[ee];exact ZpH sS sO sD sL sC eK eL eX eY eW eH aa ab ad ae eC eo ea ep et ek hv sS _ sD _ _ (ZpA sS sO sD sL sC eK eL eX eY eW eH aa ab ad ae eC eo ea ep et ek hv k2 hl)
      ·have ee:QP (Zs.mk sS sO sD sL sC) (Zl.mk eK eL (Box.mk eX eY eW eH) (Zc.mk (Pane.mk aa ab ad ae) eC) (Zf.mk eo ea ep et ek))=none:=by unfold QP evS;simp[k2,hl,Vj]
       rw[ee];exact X8 sS sO sD sL sC eK eL eX eY eW eH aa ab ad ae eC eo ea ep et ek hv (ZpB sS sO sD sL sC eK eL eX eY eW eH aa ab ad ae eC eo ea ep et ek hv k2 hl)
     ·by_cases k4:eK=4
      ·by_cases hl:WN ⟨⟨aa,ab,ad,ae⟩,eC⟩∧Xo ⟨aa,ab,ad,ae⟩ eC false sD=true
       ·have ee:QP (Zs.mk sS sO sD sL sC) (Zl.mk eK eL (Box.mk eX eY eW eH) (Zc.mk (Pane.mk aa ab ad ae) eC) (Zf.mk eo ea ep et ek))=Vj (some (Zs.mk sS (YR ⟨aa,ab,ad,ae⟩ eC sO) (X0 sD ⟨aa,ab,ad,ae⟩ eC) (sL+eC*aa*ab) sC)):=by unfold QP evS;simp[k4,hl]
        rw[ee];exact ZpI sS sO sD sL sC eK eL eX eY eW eH aa ab ad ae eC eo ea ep et ek hv sS _ _ _ _ (ZpC sS sO sD sL sC eK eL eX eY eW eH aa ab ad ae eC eo ea ep et ek hv k4 hl.1 hl.2)
       ·have ee:QP (Zs.mk sS sO sD sL sC) (Zl.mk eK eL (Box.mk eX eY eW eH) (Zc.mk (Pane.mk aa ab ad ae) eC) (Zf.mk eo ea ep et ek))=none:=by unfold QP evS;simp only[k4];simp[hl,Vj]
        rw[ee];exact X8 sS sO sD sL sC eK eL eX eY eW eH aa ab ad ae eC eo ea ep et ek hv (ZpD sS sO sD sL sC eK eL eX eY eW eH aa ab ad ae eC eo ea ep et ek hv k4 hl)
      ·by_cases k3:eK=3
       ·have hc:=ZqK sS sO sD sL sC eK eL eX eY eW eH aa ab ad ae eC eo ea ep et ek hv k3;have ee:QP (Zs.mk sS sO sD sL sC) (Zl.mk eK eL (Box.mk eX eY eW eH) (Zc.mk (Pane.mk aa ab ad ae) eC) (Zf.mk eo ea ep et ek))=Vj (Zfg (Zs.mk sS sO sD sL sC) (Zl.mk eK eL (Box.mk eX eY eW eH) (Zc.mk (Pane.mk aa ab ad ae) eC) (Zf.mk eo ea ep et ek))):=by unfold QP evS;simp[k3]
        rw[ee];generalize Zfg (Zs.mk sS sO sD sL sC) (Zl.mk eK eL (Box.mk eX eY eW eH) (Zc.mk (Pane.mk aa ab ad ae) eC) (Zf.mk eo ea ep et ek))=t at hc;cases t with
        | none=>exact X8 sS sO sD sL sC eK eL eX eY eW eH aa ab ad ae eC eo ea ep et ek hv hc
        | some t=>
         obtain⟨a,b,c,d,f⟩:=t;exact ZpJ sS sO sD sL sC eK eL eX eY eW eH aa ab ad ae eC eo ea ep et ek hv a b c d f hc
       ·have ee:QP (Zs.mk sS sO sD sL sC) (Zl.mk eK eL (Box.mk eX eY eW eH) (Zc.mk (Pane.mk aa ab ad ae) eC) (Zf.mk eo ea ep et ek))=none:=by unfold QP evS;simp[k0,k1,k2,k3,k4,k5,Vj]
        rw[ee];exact X8 sS sO sD sL sC eK eL eX eY eW eH aa ab ad ae eC eo ea ep et ek hv (ZqL sS sO sD sL sC eK eL eX eY eW eH aa ab ad ae eC eo ea ep et ek k0 k1 k2 k3 k4 k5)
 ·rw[Kd hv];exact ZnM sS sO sD sL sC eK eL eX eY eW eH aa ab ad ae eC eo ea ep et ek hv
end Go.Proofs.YtcefneehgbiebaaGreatDoor
