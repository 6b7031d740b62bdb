/- Own text. -/
import Derived.Test.YtbpekaejmjlmfaaGreatACode
import Derived.Test.YtbpekaejmjlmfaaGreatAbsParts
import Derived.Test.YtbpekaejmjlmfaaGreatAC6
import Derived.Test.YtbpekaejmjlmfaaGreatAC1
namespace Go.Proofs.YtbpekaejmjlmfaaGreat
open Go Go.Abs Go.Abs.E Go.Abs.L
open Nat (reduceMul reduceSub reduceLeDiff reduceEqDiff)
open Int (reduceLE reduceEq reduceToNat reduceNeg)
set_option linter.unusedSimpArgs false
set_option linter.unusedVariables false
set_option maxRecDepth 20000
set_option maxHeartbeats 4000000
def UL (l:List Zc):Prop:=(l.map Zc.Pane).Nodup∧∀ x∈l,1≤x.Count
theorem ZoD:∀ {l:List Zc} {q:List Pane},Zjr q l→(l.map Zc.Pane).Nodup∧∀ p∈l.map Zc.Pane,p∉q
 | [],_,_=>by simp
 | x :: l,q,h=>by
  obtain⟨h1,h2,h3,h4,h5⟩:=h;obtain⟨a,b⟩:=ZoD h5;refine⟨?_,?_⟩
  ·rw[Ko,KR];exact⟨fun hm=>b _ hm (by simp),a⟩
  ·intro p hp;rw[Ko,Kg] at hp;rcases hp with rfl | hp
   ·exact h2
   ·exact fun hq=>b p hp (by simp[hq])
theorem Zfz {l:List Zc} (h:Zbj l):UL l:=⟨(ZoD h.2.1).1,fun x hx=>(QO h x hx).2.1⟩
theorem Zif:∀ {l:List Zc} {k:Nat} {p:Pane},0≤VI k l p→∃ a x,VI k l p=((k+a:Nat):Int)∧l[a]?=some x∧x.Pane=p∧p∉(l.take a).map Zc.Pane
 | [],k,p,h=>by simp[VI] at h
 | x :: l,k,p,h=>by
  unfold VI at h ⊢;split
  ·rename_i e;exact⟨0,x,by simp,by simp,e,by simp⟩
  ·rename_i e;rw[Ki e] at h;obtain⟨a,y,h1,h2,h3,h4⟩:=Zif h;refine⟨a+1,y,by rw[h1];congr 1;omega,by simpa using h2,h3,?_⟩;simp only[L5,Ko,Kg,not_or];exact⟨fun e'=>e e'.symm,h4⟩
theorem Zj9:∀ {l:List Zc} {k:Nat} {p:Pane},VI k l p<0→p∉l.map Zc.Pane
 | [],k,p,h=>by simp
 | x :: l,k,p,h=>by
  unfold VI at h;split at h
  ·omega
  ·rename_i e;simp only[Ko,Kg,not_or];exact⟨fun e'=>e e'.symm,Zj9 h⟩
theorem Zig {p:Pane} {c:Int}:∀ {l:List Zc} {b:Bool},p∉l.map Zc.Pane→Xe p c b l=b
 | [],b,_=>rfl
 | x :: l,b,h=>by
  simp only[Ko,Kg,not_or] at h;rw[Xe,Ki (fun e=>h.1 e.symm),Zig h.2]
theorem Zvq {p:Pane} {c:Int}:∀ {l:List Zc},p∉l.map Zc.Pane→(∀ x∈l,1≤x.Count)→XS l p c=l
 | [],_,_=>rfl
 | x :: l,h,hc=>by
  simp only[Ko,Kg,not_or] at h;have h0:=hc x (by simp);have ih:=Zvq (p:=p) (c:=c) h.2 (fun y hy=>hc y (by simp[hy]));unfold XS at ih ⊢;rw[Le,Zhg,Ki (fun e=>h.1 e.symm),Kl (by omega),ih]
theorem ZoE {p:Pane} {c:Int}:∀ {l:List Zc} {a:Nat} {x:Zc},UL l→l[a]?=some x→x.Pane=p→Xe p c false l=decide (0≤x.Count-c)∧XS l p c=if 0<x.Count-c then l.set a ⟨p,x.Count-c⟩ else l.eraseIdx a
 | [],a,x,_,h,_=>by simp at h
 | y :: l,0,x,hu,h,e=>by
  simp only[K3,Option.some.injEq] at h;subst h;obtain⟨h1,h2⟩:=hu;rw[Ko,KR,e] at h1;have hl:=Zvq (p:=p) (c:=c) h1.1 (fun z hz=>h2 z (by simp[hz]));refine⟨by rw[Xe,Kl e,Zig h1.1],?_⟩;unfold XS at hl ⊢;rw[Le,Zhg,Kl e];by_cases hc:0<y.Count-c
  ·rw[Kl hc,Kl hc,hl,e];rfl
  ·rw[Ki hc,Ki hc,hl];rfl
 | y :: l,a+1,x,hu,h,e=>by
  simp only[KF] at h;obtain⟨h1,h2⟩:=hu;rw[Ko,KR] at h1;have aa:y.Pane≠p:=fun e'=>h1.1 (by rw[e',← e];exact Kaq (Kb h));obtain⟨i1,i2⟩:=ZoE (p:=p) (c:=c) (l:=l) ⟨h1.2,fun z hz=>h2 z (by simp[hz])⟩ h e;refine⟨by rw[Xe,Ki aa,i1],?_⟩;have h0:=h2 y (by simp);unfold XS at i2 ⊢;rw[Le,Zhg,Ki aa,Kl (by omega),i2];by_cases hc:0<x.Count-c
  ·rw[Kl hc,Kl hc];rfl
  ·rw[Ki hc,Ki hc];rfl
theorem ZoF {l:List Zc} {p:Pane} {c:Int} (h:UL l):UL (XS l p c):=by
 have hs:∀ (l:List Zc),((XS l p c).map Zc.Pane).Sublist (l.map Zc.Pane):=by
  intro l
  induction l with
  | nil=>simp[XS]
  | cons x l ih=>
   unfold XS at ih ⊢;rw[Le];unfold Zhg at ih ⊢;split
   ·exact ih.trans (by simp)
   ·rename_i y hy;split at hy
    ·split at hy
     ·cases hy;simpa using ih
     ·cases hy
    ·split at hy
     ·cases hy;simpa using ih
     ·cases hy
 refine⟨List.Nodup.sublist (hs l) h.1,fun y hy=>?_⟩;obtain⟨x,hx,e⟩:=Ls.1 hy;have:=h.2 x hx;unfold Zhg at e;split at e
 ·split at e
  ·cases e;simp only;omega
  ·cases e
 ·split at e
  ·cases e;omega
  ·cases e
theorem ZoG (p:Pane) (c:Int):∀ (l:List Zc),(Yw p c l).map Zc.Pane=if p∈l.map Zc.Pane then l.map Zc.Pane else l.map Zc.Pane++[p]
 | []=>by simp[Yw]
 | x :: l=>by
  unfold Yw;by_cases e:x.Pane=p
  ·simp[e]
  ·have ih:=ZoG p c l;have e' : ¬p=x.Pane:=fun h=>e h.symm;simp only[Ki e,Ko,Kg,e',false_or,ih];split<;>simp
theorem ZyT {l:List Zc} {p:Pane} {c:Int} (h:UL l) (hc:1≤c):UL (Yw p c l):=by
 refine⟨?_,?_⟩
 ·rw[ZoG];split
  ·exact h.1
  ·rename_i hn;refine LH.2 ⟨h.1,by simp,fun a ha b hb=>?_⟩;simp only[KH] at hb;subst hb;exact fun e=>hn (e ▸ ha)
 ·have aa:∀ (l:List Zc),(∀ x∈l,1≤x.Count)→∀ x∈Yw p c l,1≤x.Count:=by
   intro l
   induction l with
   | nil=>intro _ x hx;simp[Yw] at hx;subst hx;exact hc
   | cons y l ih=>
    intro h x hx;have hy:=h y (by simp);unfold Yw at hx;split at hx
    ·rcases Kg.1 hx with rfl | hx
     ·simp only;omega
     ·exact h x (by simp[hx])
    ·rcases Kg.1 hx with rfl | hx
     ·exact hy
     ·exact ih (fun z hz=>h z (by simp[hz])) x hx
  exact aa l h.2
theorem Zih : ∀ {l:List Zb} {b:Int},XC b l→∀ x∈l,b<x.Label
 | [],_,_,x,hx=>by simp at hx
 | y :: l,b,h,x,hx=>by
  rcases Kg.1 hx with rfl | hx
  ·exact h.2.1
  ·have:=Zih h.2.2 x hx;have:=h.2.1;omega
theorem ZoH (q:Zb):∀ (l:List Zb),q∈QC q l
 | []=>by simp[QC]
 | x :: l=>by
  unfold QC;split
  ·simp
  ·exact Ky _ (ZoH q l)
theorem ZmB {q:Zb} (hq:VPc q):∀ {l:List Zb} {b:Int},XC b l→b<q.Label→(XC b (QC q l)↔q.Label∉l.map Zb.Label)
 | [],b,h,hb=>by simp[QC,XC,hq,hb]
 | x :: l,b,h,hb=>by
  obtain⟨h1,h2,h3⟩:=h;unfold QC;by_cases aa:q.Label<x.Label
  ·rw[Kl aa];refine⟨fun _ hm=>?_,fun _=>⟨hq,hb,h1,aa,h3⟩⟩;rw[Ko,Kg] at hm;rcases hm with hm | hm
   ·omega
   ·obtain⟨y,hy,e⟩:=KX.1 hm;have:=Zih h3 y hy;omega
  ·rw[Ki aa];by_cases he:x.Label=q.Label
   ·constructor
    ·intro hs;have:=Zih hs.2.2 q (ZoH q l);omega
    ·intro hn;exact absurd (by simp[he]) hn
   ·have ih:=ZmB hq h3 (by omega:x.Label<q.Label);rw[Ko,Kg,not_or,XC,ih];exact⟨fun h=>⟨fun e=>he e.symm,h.2.2⟩,fun h=>⟨h1,h2,h.2⟩⟩
theorem Zvr:∀ {l:List Zb} {k:Nat} {n:Int},QB k l n<0↔n∉l.map Zb.Label
 | [],k,n=>by simp[QB]
 | x :: l,k,n=>by
  unfold QB;have ih:=Zvr (l:=l) (k:=k+1) (n:=n);by_cases he:x.Label=n
  ·rw[Kl he];simp only[Ko,Kg,he,true_or,not_true,iff_false];omega
  ·rw[Ki he,ih,Ko,Kg,not_or];exact⟨fun h=>⟨fun e=>he e.symm,h⟩,fun h=>h.2⟩
theorem ZAY {q:Zb} {l:List Zb} (h1:VSt l) (h2:VPc q):Wz q l↔l.length≠20∧QB 0 l q.Label<0:=by
 have h3:=ZmB h2 h1.2 (by have:=h2.1.1;omega:0<q.Label);have h4:=h1.1;unfold Wz;rw[Zvr,← h3];simp only[VSt,ZlF];constructor
 ·rintro ⟨_,a,b⟩;exact⟨by omega,b⟩
 ·rintro ⟨a,b⟩;exact⟨⟨⟨h4,h1.2⟩,h2⟩,by omega,b⟩
theorem ZiV (l:List Zb) (qL qW qH:Int) (qF:List Box) (hl:l.length≤100000):Zd Xs Ms Zap [(.d (.sl (l.map Zb.enc))),(.d (.agg [J qL,J qW,J qH,.sl (qF.map Box.enc)]))] [] =
  some (.tup [.own 0,(.d (.bool (decide (Wz (Zb.mk qL qW qH qF) l))))],[if Wz (Zb.mk qL qW qH qF) l then .tree 4 4 ((QC (Zb.mk qL qW qH qF) l).map Zb.enc) none else .row 4 [] true false]):=by
 have e1:=YH l;have e2:=QY qL qW qH qF;have e3:=Yu l qL (by omega);by_cases v1:VSt l
 ·rw[Ke v1] at e1;by_cases v2:VPc (Zb.mk qL qW qH qF)
  ·rw[Ke v2] at e2;have hA:=ZAY v1 v2;simp only at hA;have hF:=(ZcH v1).2;have ah:qF.length≤1048576:=by have:=v2.1.2.2.2.2.2.2;simp only at this;omega
   by_cases v3:l.length=20
   ·have h:¬Wz (Zb.mk qL qW qH qF) l:=fun h=>(hA.1 h).1 v3;have ab : ((l.length:Int)=20):=by omega
    rw[Kh h,Ki h];refine cE ?_;simp +contextual -implicitDefEqProofs (maxSteps:=10^7) only[go_sem,seval,↓gZ,VY,e1,e2,ab]
   ·have ab : ¬((l.length:Int)=20):=by omega
    by_cases v4:QB 0 l qL<0
    ·have h:Wz (Zb.mk qL qW qH qF) l:=hA.2 ⟨v3,v4⟩;have aa : ¬(0≤QB 0 l qL):=by omega
     have eq:=Zad qL qW qH qF ah;rw[Ke h,Kl h];generalize QB 0 l qL=fl at e3 aa;have aj:=v1.1;refine cE ?_;simp +contextual -implicitDefEqProofs (maxSteps:=10^7) only[go_sem,seval,↓gZ,VY,e1,e2,ab,e3,aa];refine LO (α:=Nat×Bool×List Zb) (fun s=>[(32,.d (J (s.1:Int))),(7,.d (.bool s.2.1))]) (fun s=>[(0,.tree 4 4 (s.2.2.map Zb.enc) none)]) (fun s=>s.1≤l.length∧s.2.2++(if s.2.1 then l.drop s.1 else QC (Zb.mk qL qW qH qF) (l.drop s.1))=QC (Zb.mk qL qW qH qF) l∧s.2.2.length≤s.1+s.2.1.toNat) (fun s=>l.length-s.1) (0,false,[]) ⟨by simp,by simp,by simp⟩ ?_;intro⟨i,b,o⟩ ⟨hi,hp,ho⟩ ih;simp only at hi hp ho
     have hb:=Bool.toNat_le b;by_cases ad:i<l.length
     ·obtain⟨x,hx⟩:=Zl ad;have hw:=Zh (k:=i) (by omega);have hr:(o.length+1)*48≤140737488355328∧o.length≤140737488355327:=by omega
      have ae:∀ n:Nat,n=o.length+1→(n+1)*48≤140737488355328∧n≤140737488355327:=fun n hn=>by omega
      have ae:=ae _ rfl;have ai:o.length≤140737488355326:=by omega
      have e:=Zad x.Label x.W x.H x.Flaws (hF x (Kb hx));rw[Zpa hx] at hp;have hd:l.drop i=x :: l.drop (i+1):=by
       obtain⟨h1,h2⟩:=Kc.1 hx;rw[Ku h1,h2]
      obtain⟨L,W,H,F⟩:=x;simp only at e hp;have af:=Zc2 F;have ag:=Zc2 qF;cases b with
      | true=>
       simp only[Bool.toNat_true] at ho;rw[Kl rfl] at hp;simp +contextual -implicitDefEqProofs (maxSteps:=10^7) only[go_sem,seval,↓gZ,hx,ad,hw,e,hr,af];refine ih (i+1,true,o++[⟨L,W,H,F⟩]) _ ⟨by simp only;omega,?_,by simp;omega⟩ (by simp only;omega) ?_
       ·rw[← hp,hd];simp
       ·simp +contextual -implicitDefEqProofs (maxSteps:=10^7) only[go_sem,seval,↓gZ];try (simp[Zb.enc];done)
      | false=>
       simp only[Bool.toNat_false] at ho;rw[Ki (by simp)] at hp;by_cases hc:qL<L
       ·rw[Kl hc] at hp;simp +contextual -implicitDefEqProofs (maxSteps:=10^7) only[go_sem,seval,↓gZ,hx,ad,hw,e,eq,hc,hr,ae,ai,af,ag];refine ih (i+1,true,o++[(Zb.mk qL qW qH qF),⟨L,W,H,F⟩]) _ ⟨by simp only;omega,?_,by simp;omega⟩ (by simp only;omega) ?_
        ·rw[← hp,hd];simp
        ·simp +contextual -implicitDefEqProofs (maxSteps:=10^7) only[go_sem,seval,↓gZ];try (simp[Zb.enc];done)
       ·rw[Ki hc] at hp;simp +contextual -implicitDefEqProofs (maxSteps:=10^7) only[go_sem,seval,↓gZ,hx,ad,hw,e,hc,hr,af];refine ih (i+1,false,o++[⟨L,W,H,F⟩]) _ ⟨by simp only;omega,?_,by simp;omega⟩ (by simp only;omega) ?_
        ·rw[← hp];simp
        ·simp +contextual -implicitDefEqProofs (maxSteps:=10^7) only[go_sem,seval,↓gZ];try (simp[Zb.enc];done)
     ·have:i=l.length:=by omega
      subst this;have hr:(o.length+1)*48≤140737488355328∧o.length≤140737488355327:=by omega
      cases b with
      | true=>
       simp at hp;simp +contextual -implicitDefEqProofs (maxSteps:=10^7) only[go_sem,seval,↓gZ];rw[hp]
      | false=>
       simp[QC] at hp;have ag:=Zc2 qF;simp +contextual -implicitDefEqProofs (maxSteps:=10^7) only[go_sem,seval,↓gZ,eq,hr,ag];rw[← hp];try (simp[Zb.enc];done)
    ·have h:¬Wz (Zb.mk qL qW qH qF) l:=fun h=>v4 (hA.1 h).2;have aa : 0≤QB 0 l qL:=by omega
     rw[Kh h,Ki h];generalize QB 0 l qL=fl at e3 aa;refine cE ?_;simp +contextual -implicitDefEqProofs (maxSteps:=10^7) only[go_sem,seval,↓gZ,VY,e1,e2,ab,e3,aa]
  ·rw[Kh v2] at e2;have h:¬Wz (Zb.mk qL qW qH qF) l:=fun h=>v2 h.1.2;rw[Kh h,Ki h];refine cE ?_;simp +contextual -implicitDefEqProofs (maxSteps:=10^7) only[go_sem,seval,↓gZ,VY,e1,e2]
 ·rw[Kh v1] at e1;have h:¬Wz (Zb.mk qL qW qH qF) l:=fun h=>v1 h.1.1;rw[Kh h,Ki h];refine cE ?_;simp +contextual -implicitDefEqProofs (maxSteps:=10^7) only[go_sem,seval,↓gZ,VY,e1]
theorem ZgL (l:List Zc) (hl:l.length≤1048576):Zd Xs Ms Xy [(.d (.sl (l.map Zc.enc)))] []=some (.own 0,[.row 5 (l.map Zc.enc) true false]):=by
 refine Zj1 Xs Ms ZlK ?_;unfold Zqd;simp only;rw[Kl ⟨by rw[ZwM];trivial,by rw[Zty];trivial,by simp[ZI];omega,by simp[ZI];omega⟩]
theorem ZiW {α β:Type} (f:α→β):∀ (l:List α) (i:Nat),(l.map f).eraseIdx i=(l.eraseIdx i).map f
 | [],_=>rfl
 | _ :: _,0=>rfl
 | x :: l,i+1=>by simp[ZiW f l i]
theorem Zlo (l:List Zc) (i:Nat) (hi:i<l.length):Zd Xs Ms ZV [.own 0,(.d (J i)),(.d (J ((i:Int)+1)))] [.row 5 (l.map Zc.enc) true false]=some (.own 1,[.gone,.row 5 ((l.eraseIdx i).map Zc.enc) true false]):=by
 refine Zj1 Xs Ms Zkw ?_;unfold Zec;simp only;rw[Kl ⟨rfl,by omega,rfl,by simp;omega,by rw[ZwM];trivial,by rw[Zty];trivial,rfl,rfl⟩,KA,ZiW]
theorem Zcr (l:List Zc) (xW xH:Int) (xT:Bool) (xK xC:Int) (hl:l.length≤1048576) (hc:∀ y∈l,R64 (y.Count+xC)):Zd Xs Ms W2 [(.d (.sl (l.map Zc.enc))),(.d (.agg [J xW,J xH,.bool xT,J xK,J xC]))] []=some (.own 0,[.row 5 ((Yw ⟨xW,xH,xT,xK⟩ xC l).map Zc.enc) true false]):=by
 have e1:=ZgL l hl;have e2:=Zes l xW xH xT xK (by omega);have hr:(l.length+1)*40≤140737488355328∧l.length≤140737488355327:=by omega
 by_cases hf:VI 0 l ⟨xW,xH,xT,xK⟩<0
 ·have hn:¬0≤VI 0 l ⟨xW,xH,xT,xK⟩:=by omega
  rw[Zue _ _ _ (Zj9 hf)];refine cE ?_;simp +contextual -implicitDefEqProofs (maxSteps:=10^7) only[go_sem,seval,↓gZ,Zd8,e1,e2,hn,hr];try (simp[Zc.enc];done)
 ·obtain⟨a,x,h1,h2,h3,h4⟩:=Zif (by omega:0≤VI 0 l ⟨xW,xH,xT,xK⟩);rw[K4] at h1;rw[h1] at e2;rw[Zud _ _ _ a x h2 h3 h4];have aa:=hc x (Kb h2);obtain⟨⟨W,H,T,K⟩,C⟩:=x;simp only[Pane.mk.injEq] at h3 aa;obtain⟨rfl,rfl,rfl,rfl⟩:=h3;have u0:=wi (C+xC) aa.1 aa.2;have ab:=(Kc.1 h2).1;have ha:(0:Int)≤(a:Int):=by omega
  refine cE ?_;simp +contextual -implicitDefEqProofs (maxSteps:=10^7) only[go_sem,seval,↓gZ,Zd8,e1,e2,ha,h2,ab,u0];try (simp[Zc.enc,Kan];done)
def tkV (l:List Zc) (p:Pane) (c:Int):AV×List Zn:=
 if Xe p c false l=true then (.tup [.own 0,(.d (.bool true))],[.row 5 ((XS l p c).map Zc.enc) true false]) else (.tup [.own 0,(.d (.bool false))],[.row 5 [] true false])
theorem ZbC (l:List Zc) (xW xH:Int) (xT:Bool) (xK xC:Int) (hl:l.length≤1048576) (hu:UL l) (hc:∀ y∈l,R64 (y.Count-xC)):Zd Xs Ms Uz [(.d (.sl (l.map Zc.enc))),(.d (.agg [J xW,J xH,.bool xT,J xK,J xC]))] []=some (tkV l ⟨xW,xH,xT,xK⟩ xC):=by
 have e1:=ZgL l hl;have e2:=Zes l xW xH xT xK (by omega);by_cases hf:VI 0 l ⟨xW,xH,xT,xK⟩<0
 ·have hn:=Zig (c:=xC) (b:=false) (Zj9 hf);have ek:tkV l ⟨xW,xH,xT,xK⟩ xC=(.tup [.own 0,(.d (.bool false))],[.row 5 [] true false]):=by unfold tkV;rw[hn,Ki (by simp)]
  rw[ek];refine cE ?_;simp +contextual -implicitDefEqProofs (maxSteps:=10^7) only[go_sem,seval,↓gZ,UJ,e1,e2,hf]
 ·obtain⟨a,x,h1,h2,h3,h4⟩:=Zif (by omega:0≤VI 0 l ⟨xW,xH,xT,xK⟩);rw[K4] at h1;rw[h1] at e2;obtain⟨k1,k2⟩:=ZoE (c:=xC) hu h2 h3;have ad:=hc x (Kb h2);obtain⟨⟨W,H,T,K⟩,C⟩:=x;simp only[Pane.mk.injEq] at h3 ad k1 k2;obtain⟨rfl,rfl,rfl,rfl⟩:=h3;have u0:=wi (C-xC) ad.1 ad.2;have ab:=(Kc.1 h2).1;have ha:¬(a:Int)<0:=by omega
  have hw:=Zh (k:=a) (by omega);have e3:=Zlo (l.set a ⟨⟨W,H,T,K⟩,0⟩) a (by simpa using ab);by_cases ae:C<xC
  ·have hx:¬0≤C-xC:=by omega
   have ek:tkV l ⟨W,H,T,K⟩ xC=(.tup [.own 0,(.d (.bool false))],[.row 5 [] true false]):=by unfold tkV;rw[k1,Kh hx,Ki (by simp)]
   rw[ek];refine cE ?_;simp +contextual -implicitDefEqProofs (maxSteps:=10^7) only[go_sem,seval,↓gZ,UJ,e1,e2,ha,h2,ab,ae]
  ·have hx:0≤C-xC:=by omega
   by_cases hz:C-xC=0
   ·have ek:tkV l ⟨W,H,T,K⟩ xC=(.tup [.own 0,(.d (.bool true))],[.row 5 ((l.eraseIdx a).map Zc.enc) true false]):=by unfold tkV;rw[k1,Ke hx,Kl rfl,k2,Ki (by omega)]
    rw[ek];have es:(l.set a ⟨⟨W,H,T,K⟩,0⟩).eraseIdx a=l.eraseIdx a:=by simp[List.eraseIdx_set_eq]
    rw[es,Kan] at e3;simp only[Zc.enc] at e3;have aa:((a:Int)+1)=((a+1:Nat):Int):=by omega
    rw[aa] at e3;rw[hz] at u0;refine cE ?_;simp +contextual -implicitDefEqProofs (maxSteps:=10^7) only[go_sem,seval,↓gZ,UJ,e1,e2,ha,h2,ab,ae,hz,u0,hw,e3,Kan,LI,List.length_set]
   ·have ek:tkV l ⟨W,H,T,K⟩ xC=(.tup [.own 0,(.d (.bool true))],[.row 5 ((l.set a ⟨⟨W,H,T,K⟩,C-xC⟩).map Zc.enc) true false]):=by unfold tkV;rw[k1,Ke hx,Kl rfl,k2,Kl (by omega)]
    rw[ek];refine cE ?_;simp +contextual -implicitDefEqProofs (maxSteps:=10^7) only[go_sem,seval,↓gZ,UJ,e1,e2,ha,h2,ab,ae,hz,u0,Kan,LI,List.length_set]
theorem Y1 (sS:List Zb) (sO sD:List Zc) (sL sC:Int) (h:JK (Zm.mk sS sO sD sL sC)):Zd Xs Ms Uu [(.d (.agg [.sl (sS.map Zb.enc),.sl (sO.map Zc.enc),.sl (sD.map Zc.enc),J sL,J sC]))] []=some (.agg [.own 0,.own 1,.own 2,(.d (J sL)),(.d (J sC))],[.tree 4 4 (sS.map Zb.enc) none,.row 5 (sO.map Zc.enc) true false,.row 5 (sD.map Zc.enc) true false]):=by
 obtain⟨h1,h2,h3,h4⟩:=h;simp only at h1 h2 h3 h4;have e1:=Zc3 sS (by omega) (fun x hx=>by have:=(h2 x hx).1;omega);have r1:sO.length*40≤140737488355328∧sO.length≤140737488355328:=by omega
 have r2:sD.length*40≤140737488355328∧sD.length≤140737488355328:=by omega
 refine cE ?_;simp +contextual -implicitDefEqProofs (maxSteps:=10^7) only[go_sem,seval,↓gZ,ZfK,e1,r1,r2]
theorem Jw (xW xH:Int) (xT:Bool) (xK xC:Int):Zd Xs Ms VA [(.d (.agg [J xW,J xH,.bool xT,J xK,J xC]))] []=some ((.d (.bool (decide (V8 ⟨⟨xW,xH,xT,xK⟩,xC⟩)))),[]):=by
 have e1:=J7 xW xH xT xK;refine cE ?_;by_cases v1:VP ⟨xW,xH,xT,xK⟩
 ·rw[Ke v1] at e1;by_cases v2:1≤xC
  ·by_cases v3:xC≤24
   ·have h:V8 ⟨⟨xW,xH,xT,xK⟩,xC⟩:=⟨v1,v2,v3⟩
    simp +contextual -implicitDefEqProofs (maxSteps:=10^7) only[go_sem,seval,↓gZ,VD,e1,v2,v3,h]
   ·have h:¬V8 ⟨⟨xW,xH,xT,xK⟩,xC⟩:=fun h=>v3 h.2.2;simp +contextual -implicitDefEqProofs (maxSteps:=10^7) only[go_sem,seval,↓gZ,VD,e1,v2,v3,h]
  ·have h:¬V8 ⟨⟨xW,xH,xT,xK⟩,xC⟩:=fun h=>v2 h.2.1;simp +contextual -implicitDefEqProofs (maxSteps:=10^7) only[go_sem,seval,↓gZ,VD,e1,v2,h]
 ·rw[Kh v1] at e1;have h:¬V8 ⟨⟨xW,xH,xT,xK⟩,xC⟩:=fun h=>v1 h.1;simp +contextual -implicitDefEqProofs (maxSteps:=10^7) only[go_sem,seval,↓gZ,VD,e1,h]
theorem Zrw (sS:List Zb) (sO sD:List Zc) (sL sC:Int) (eK eL eX eY eW eH aa ab:Int) (ad:Bool) (ae eC eo ea ep:Int) (et:Bool) (ek:List Ze) (hl:sS.length≤100000) (hn:¬((Wz ⟨eL,eW,eH,[]⟩ sS∧eX=0)∧eY=0)):Zd Xs Ms Uw [.ptr 0 0,(.d (.agg [J eK,J eL,J eX,J eY,J eW,J eH,J aa,J ab,.bool ad,J ae,J eC,J eo,J ea,J ep,.bool et,.sl (ek.map Ze.enc)]))] [.box [.own 1,.own 2,.own 3,(.d (J sL)),(.d (J sC))],.tree 4 4 (sS.map Zb.enc) none,.row 5 (sO.map Zc.enc) true false,.row 5 (sD.map Zc.enc) true false]=some ((.d (.bool false)),[.box [.own 1,.own 2,.own 3,(.d (J sL)),(.d (J sC))],.tree 4 4 (sS.map Zb.enc) none,.row 5 (sO.map Zc.enc) true false,.row 5 (sD.map Zc.enc) true false]):=by
 by_cases hx:eX=0
 ·by_cases hy:eY=0
  ·have ha:¬Wz ⟨eL,eW,eH,[]⟩ sS:=fun h=>hn ⟨⟨h,hx⟩,hy⟩;have e1:=ZiV sS eL eW eH [] hl;rw[Kh ha,Ki ha] at e1;simp only[Kz] at e1;refine cE ?_;simp +contextual -implicitDefEqProofs (maxSteps:=10^7) only[go_sem,seval,↓gZ,UG,hx,hy,e1]
  ·refine cE ?_;simp +contextual -implicitDefEqProofs (maxSteps:=10^7) only[go_sem,seval,↓gZ,UG,hx,hy]
 ·refine cE ?_;simp +contextual -implicitDefEqProofs (maxSteps:=10^7) only[go_sem,seval,↓gZ,UG,hx]
theorem ZoI (sS:List Zb) (sO sD:List Zc) (sL sC:Int) (eK eL eX eY eW eH aa ab:Int) (ad:Bool) (ae eC eo ea ep:Int) (et:Bool) (ek:List Ze) (hv:ZE (Zm.mk sS sO sD sL sC)) (ha:Wz ⟨eL,eW,eH,[]⟩ sS) (hx:eX=0) (hy:eY=0):Zd Xs Ms Uw [.ptr 0 0,(.d (.agg [J eK,J eL,J eX,J eY,J eW,J eH,J aa,J ab,.bool ad,J ae,J eC,J eo,J ea,J ep,.bool et,.sl (ek.map Ze.enc)]))] [.box [.own 1,.own 2,.own 3,(.d (J sL)),(.d (J sC))],.tree 4 4 (sS.map Zb.enc) none,.row 5 (sO.map Zc.enc) true false,.row 5 (sD.map Zc.enc) true false] =
  some ((.d (.bool true)),[.box [.own 4,.own 2,.own 3,(.d (J sL)),(.d (J (sC+eW*eH)))],.tree 4 4 (sS.map Zb.enc) none,.row 5 (sO.map Zc.enc) true false,.row 5 (sD.map Zc.enc) true false,.tree 4 4 ((QC ⟨eL,eW,eH,[]⟩ sS).map Zb.enc) none]):=by
 have af:=hv.1.1;simp only at af;have e1:=ZiV sS eL eW eH [] (by omega);rw[Ke ha,Kl ha] at e1;simp only[Kz] at e1;have hp:=ha.1.2.1;simp only at hp;subst hx hy;have hb:VB ⟨0,0,eW,eH⟩:=by simp only[VB];omega
 have e2:=Zki 0 0 eW eH hb;have h3:=JF hb;simp only at h3;have h4:=hv.2.2.2;simp only at h4;have u0:=wi (sC+eW*eH) (by omega) (by omega);generalize QC ⟨eL,eW,eH,[]⟩ sS=Q at *;refine cE ?_;simp +contextual -implicitDefEqProofs (maxSteps:=10^7) only[go_sem,seval,↓gZ,UG,e1,e2,u0]
theorem Zt0 (sS:List Zb) (sO sD:List Zc) (sL sC:Int) (eK eL eX eY eW eH aa ab:Int) (ad:Bool) (ae eC eo ea ep:Int) (et:Bool) (ek:List Ze) (hl:sS.length≤100000) (hn:QB 0 sS eL<0):Zd Xs Ms JV [.ptr 0 0,(.d (.agg [J eK,J eL,J eX,J eY,J eW,J eH,J aa,J ab,.bool ad,J ae,J eC,J eo,J ea,J ep,.bool et,.sl (ek.map Ze.enc)]))] [.box [.own 1,.own 2,.own 3,(.d (J sL)),(.d (J sC))],.tree 4 4 (sS.map Zb.enc) none,.row 5 (sO.map Zc.enc) true false,.row 5 (sD.map Zc.enc) true false]=some ((.d (.bool false)),[.box [.own 1,.own 2,.own 3,(.d (J sL)),(.d (J sC))],.tree 4 4 (sS.map Zb.enc) none,.row 5 (sO.map Zc.enc) true false,.row 5 (sD.map Zc.enc) true false]):=by
 have e1:=Yu sS eL (by omega);refine cE ?_;simp +contextual -implicitDefEqProofs (maxSteps:=10^7) only[go_sem,seval,↓gZ,Zd7,e1,hn]
theorem Zrx (sS:List Zb) (sO sD:List Zc) (sL sC:Int) (eK eL eX eY eW eH ab ad:Int) (ae:Bool) (af eC eo ea ep:Int) (et:Bool) (ek:List Ze) (hl:sS.length≤100000) (a:Nat) (ha:QB 0 sS eL=(a:Int)) (xL xW xH:Int) (xF:List Box) (hx:sS[a]?=some (Zb.mk xL xW xH xF)) (hF:xF.length≤1000):Zd Xs Ms JV [.ptr 0 0,(.d (.agg [J eK,J eL,J eX,J eY,J eW,J eH,J ab,J ad,.bool ae,J af,J eC,J eo,J ea,J ep,.bool et,.sl (ek.map Ze.enc)]))] [.box [.own 1,.own 2,.own 3,(.d (J sL)),(.d (J sC))],.tree 4 4 (sS.map Zb.enc) none,.row 5 (sO.map Zc.enc) true false,.row 5 (sD.map Zc.enc) true false] =
  some ((.d (.bool true)),[.box [.own 1,.own 2,.own 3,(.d (J sL)),(.d (J sC))],.tree 4 4 ((sS.set a ⟨xL,xW,xH,xF++[⟨eX,eY,eW,eH⟩]⟩).map Zb.enc) none,.row 5 (sO.map Zc.enc) true false,.row 5 (sD.map Zc.enc) true false]):=by
 have e1:=Yu sS eL (by omega);rw[ha] at e1;have h0:¬(a:Int)<0:=by omega
 have ag : (0:Int)≤(a:Int):=by omega
 have ah:=(Kc.1 hx).1;have hr:(xF.length+1)*32≤140737488355328∧xF.length≤140737488355327:=by omega
 have ai:=Zc2 xF;have aa:=Zc2 (xF++[⟨eX,eY,eW,eH⟩]);rw[KG] at aa;simp only[Ko,Kz,Box.enc] at aa;refine cE ?_;simp +contextual -implicitDefEqProofs (maxSteps:=10^7) only[go_sem,seval,↓gZ,Zd7,e1,h0,ag,hx,ah,hr,ai,aa,List.length_set,LJ,List.set_set];simp[Zb.enc,Box.enc,Kan]
theorem Znn (sS:List Zb) (sO sD:List Zc) (sL sC:Int) (eK eL eX eY eW eH aa ab:Int) (ad:Bool) (ae eC eo ea ep:Int) (et:Bool) (ek:List Ze) (hn:¬V8 ⟨⟨aa,ab,ad,ae⟩,eC⟩):Zd Xs Ms Vv [.ptr 0 0,(.d (.agg [J eK,J eL,J eX,J eY,J eW,J eH,J aa,J ab,.bool ad,J ae,J eC,J eo,J ea,J ep,.bool et,.sl (ek.map Ze.enc)]))] [.box [.own 1,.own 2,.own 3,(.d (J sL)),(.d (J sC))],.tree 4 4 (sS.map Zb.enc) none,.row 5 (sO.map Zc.enc) true false,.row 5 (sD.map Zc.enc) true false]=some ((.d (.bool false)),[.box [.own 1,.own 2,.own 3,(.d (J sL)),(.d (J sC))],.tree 4 4 (sS.map Zb.enc) none,.row 5 (sO.map Zc.enc) true false,.row 5 (sD.map Zc.enc) true false]):=by
 have e1:=Jw aa ab ad ae eC;rw[Kh hn] at e1;refine cE ?_;simp +contextual -implicitDefEqProofs (maxSteps:=10^7) only[go_sem,seval,↓gZ,ZaG,e1]
theorem Zlp (sS:List Zb) (sO sD:List Zc) (sL sC:Int) (eK eL eX eY eW eH aa ab:Int) (ad:Bool) (ae eC eo ea ep:Int) (et:Bool) (ek:List Ze) (hv:ZE (Zm.mk sS sO sD sL sC)) (hn:V8 ⟨⟨aa,ab,ad,ae⟩,eC⟩):Zd Xs Ms Vv [.ptr 0 0,(.d (.agg [J eK,J eL,J eX,J eY,J eW,J eH,J aa,J ab,.bool ad,J ae,J eC,J eo,J ea,J ep,.bool et,.sl (ek.map Ze.enc)]))] [.box [.own 1,.own 2,.own 3,(.d (J sL)),(.d (J sC))],.tree 4 4 (sS.map Zb.enc) none,.row 5 (sO.map Zc.enc) true false,.row 5 (sD.map Zc.enc) true false] =
  some ((.d (.bool true)),[.box [.own 1,.own 4,.own 3,(.d (J sL)),(.d (J sC))],.tree 4 4 (sS.map Zb.enc) none,.row 5 (sO.map Zc.enc) true false,.row 5 (sD.map Zc.enc) true false,.row 5 ((Yw ⟨aa,ab,ad,ae⟩ eC sO).map Zc.enc) true false]):=by
 have e1:=Jw aa ab ad ae eC;rw[Ke hn] at e1;have e2:=Zcr sO aa ab ad ae eC (by have:=hv.2.1.1;simp only at this;omega) (fun x hx=>by have:=(QO hv.2.1 x hx).2;have:=hn.2;simp only at this;unfold R64;omega);refine cE ?_;simp +contextual -implicitDefEqProofs (maxSteps:=10^7) only[go_sem,seval,↓gZ,ZaG,e1,e2]
theorem Zno (sS:List Zb) (sO sD:List Zc) (sL sC:Int) (eK eL eX eY eW eH aa ab:Int) (ad:Bool) (ae eC eo ea ep:Int) (et:Bool) (ek:List Ze) (hv:ZE (Zm.mk sS sO sD sL sC)) (hn:¬(V8 ⟨⟨aa,ab,ad,ae⟩,eC⟩∧Xe ⟨aa,ab,ad,ae⟩ eC false sD=true)):Zd Xs Ms Vw [.ptr 0 0,(.d (.agg [J eK,J eL,J eX,J eY,J eW,J eH,J aa,J ab,.bool ad,J ae,J eC,J eo,J ea,J ep,.bool et,.sl (ek.map Ze.enc)]))] [.box [.own 1,.own 2,.own 3,(.d (J sL)),(.d (J sC))],.tree 4 4 (sS.map Zb.enc) none,.row 5 (sO.map Zc.enc) true false,.row 5 (sD.map Zc.enc) true false]=some ((.d (.bool false)),[.box [.own 1,.own 2,.own 3,(.d (J sL)),(.d (J sC))],.tree 4 4 (sS.map Zb.enc) none,.row 5 (sO.map Zc.enc) true false,.row 5 (sD.map Zc.enc) true false]):=by
 have e1:=Jw aa ab ad ae eC;by_cases hl:V8 ⟨⟨aa,ab,ad,ae⟩,eC⟩
 ·rw[Ke hl] at e1;have e2:=ZbC sD aa ab ad ae eC (by have:=hv.2.2.1.1;simp only at this;omega) (Zfz hv.2.2.1) (fun x hx=>by have:=(QO hv.2.2.1 x hx).2;have:=hl.2;simp only at this;unfold R64;omega);unfold tkV at e2;rw[Ki (fun h=>hn ⟨hl,h⟩)] at e2;refine cE ?_;simp +contextual -implicitDefEqProofs (maxSteps:=10^7) only[go_sem,seval,↓gZ,Ua,e1,e2]
 ·rw[Kh hl] at e1;refine cE ?_;simp +contextual -implicitDefEqProofs (maxSteps:=10^7) only[go_sem,seval,↓gZ,Ua,e1]
theorem Zlq (sS:List Zb) (sO sD:List Zc) (sL sC:Int) (eK eL eX eY eW eH aa ab:Int) (ad:Bool) (ae eC eo ea ep:Int) (et:Bool) (ek:List Ze) (hv:ZE (Zm.mk sS sO sD sL sC)) (hl:V8 ⟨⟨aa,ab,ad,ae⟩,eC⟩) (hk:Xe ⟨aa,ab,ad,ae⟩ eC false sD=true):Zd Xs Ms Vw [.ptr 0 0,(.d (.agg [J eK,J eL,J eX,J eY,J eW,J eH,J aa,J ab,.bool ad,J ae,J eC,J eo,J ea,J ep,.bool et,.sl (ek.map Ze.enc)]))] [.box [.own 1,.own 2,.own 3,(.d (J sL)),(.d (J sC))],.tree 4 4 (sS.map Zb.enc) none,.row 5 (sO.map Zc.enc) true false,.row 5 (sD.map Zc.enc) true false] =
  some ((.d (.bool true)),[.box [.own 1,.own 4,.own 5,(.d (J (sL+eC*aa*ab))),(.d (J sC))],.tree 4 4 (sS.map Zb.enc) none,.row 5 (sO.map Zc.enc) true false,.row 5 (sD.map Zc.enc) true false,.row 5 ((Yw ⟨aa,ab,ad,ae⟩ eC sO).map Zc.enc) true false,.row 5 ((XS sD ⟨aa,ab,ad,ae⟩ eC).map Zc.enc) true false]):=by
 have e1:=Jw aa ab ad ae eC;rw[Ke hl] at e1;have e2:=ZbC sD aa ab ad ae eC (by have:=hv.2.2.1.1;simp only at this;omega) (Zfz hv.2.2.1) (fun x hx=>by have:=(QO hv.2.2.1 x hx).2;have:=hl.2;simp only at this;unfold R64;omega);unfold tkV at e2;rw[Kl hk] at e2;have e3:=Zcr sO aa ab ad ae eC (by have:=hv.2.1.1;simp only at this;omega) (fun x hx=>by have:=(QO hv.2.1 x hx).2;have:=hl.2;simp only at this;unfold R64;omega);have af:=ZcI hl;have h6:=hv.2.2.2;simp only at af h6;have u0:=wi (eC*aa) (by omega) (by omega);have u1:=wi (eC*aa*ab) (by omega) (by omega);have u2:=wi (sL+eC*aa*ab) (by omega) (by omega)
 refine cE ?_;simp +contextual -implicitDefEqProofs (maxSteps:=10^7) only[go_sem,seval,↓gZ,Ua,e1,e2,e3,u0,u1,u2]
theorem Znp (sS:List Zb) (sO sD:List Zc) (sL sC:Int) (eK eL eX eY eW eH aa ab:Int) (ad:Bool) (ae eC eo ea ep:Int) (et:Bool) (ek:List Ze) (hn:QB 0 sS eL<0):Zd Xs Ms Vx [.ptr 0 0,(.d (.agg [J eK,J eL,J eX,J eY,J eW,J eH,J aa,J ab,.bool ad,J ae,J eC,J eo,J ea,J ep,.bool et,.sl (ek.map Ze.enc)]))] [.box [.own 1,.own 2,.own 3,(.d (J sL)),(.d (J sC))],.tree 4 4 (sS.map Zb.enc) none,.row 5 (sO.map Zc.enc) true false,.row 5 (sD.map Zc.enc) true false]=some ((.d (.bool false)),[.box [.own 1,.own 2,.own 3,(.d (J sL)),(.d (J sC))],.tree 4 4 (sS.map Zb.enc) none,.row 5 (sO.map Zc.enc) true false,.row 5 (sD.map Zc.enc) true false]):=by
 have e1:=Zhe sS eL (fun h=>by omega);refine cE ?_;simp +contextual -implicitDefEqProofs (maxSteps:=10^7) only[go_sem,seval,↓gZ,ZaH,e1]
theorem Zlr (sS:List Zb) (sO sD:List Zc) (sL sC:Int) (eK eL eX eY eW eH aa ab:Int) (ad:Bool) (ae eC eo ea ep:Int) (et:Bool) (ek:List Ze) (hv:ZE (Zm.mk sS sO sD sL sC)) (a:Nat) (ha:QB 0 sS eL=(a:Int)) (xL xW xH:Int) (xF:List Box) (hx:sS[a]?=some (Zb.mk xL xW xH xF)):Zd Xs Ms Vx [.ptr 0 0,(.d (.agg [J eK,J eL,J eX,J eY,J eW,J eH,J aa,J ab,.bool ad,J ae,J eC,J eo,J ea,J ep,.bool et,.sl (ek.map Ze.enc)]))] [.box [.own 1,.own 2,.own 3,(.d (J sL)),(.d (J sC))],.tree 4 4 (sS.map Zb.enc) none,.row 5 (sO.map Zc.enc) true false,.row 5 (sD.map Zc.enc) true false] =
  some ((.d (.bool true)),[.box [.own 4,.own 2,.own 3,(.d (J (sL+xW*xH))),(.d (J sC))],.tree 4 4 (sS.map Zb.enc) none,.row 5 (sO.map Zc.enc) true false,.row 5 (sD.map Zc.enc) true false,.tree 4 4 ((sS.eraseIdx a).map Zb.enc) none]):=by
 have e1:=ZgT sS eL hv.1 a ha xL xW xH xF hx;have af:=(Z3 hv.1.2 _ (Kb hx)).1;simp only at af;have h6:=hv.2.2.2;simp only at h6;have hb:VB ⟨0,0,xW,xH⟩:=by simp only[VB];omega
 have h3:=JF hb;simp only at h3;have u0:=wi (xW*xH) (by omega) (by omega);have u1:=wi (sL+xW*xH) (by omega) (by omega);refine cE ?_;simp +contextual -implicitDefEqProofs (maxSteps:=10^7) only[go_sem,seval,↓gZ,ZaH,e1,u0,u1]
end Go.Proofs.YtbpekaejmjlmfaaGreat
