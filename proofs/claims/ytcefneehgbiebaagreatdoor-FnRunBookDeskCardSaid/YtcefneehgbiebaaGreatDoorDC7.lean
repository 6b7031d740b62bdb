/- Own text. -/
import Derived.Test.YtcefneehgbiebaaGreatDoorDCode
import Derived.Test.YtcefneehgbiebaaGreatDoorAbsParts
import Derived.Test.YtcefneehgbiebaaGreatDoorDC6
namespace Go.Proofs.YtcefneehgbiebaaGreatDoor
open Go Go.Abs Go.Abs.E Go.Abs.L
open Nat (reduceMul reduceSub reduceLeDiff reduceEqDiff)
open Int (reduceLE reduceEq reduceToNat reduceNeg)
set_option linter.unusedSimpArgs false
set_option linter.unusedVariables false
set_option maxRecDepth 20000
set_option maxHeartbeats 4000000
def UL (l:List Zc):Prop:=(l.map Zc.Pane).Nodup∧∀ x∈l,1≤x.Count
theorem Zqg:∀ {l:List Zc} {q:List Pane},ZjC q l→(l.map Zc.Pane).Nodup∧∀ p∈l.map Zc.Pane,p∉q
 | [],_,_=>by simp
 | x :: l,q,h=>by
  obtain⟨h1,h2,h3,h4,h5⟩:=h;obtain⟨a,b⟩:=Zqg h5;refine⟨?_,?_⟩
  ·rw[Kj,Kaa];exact⟨fun hm=>b _ hm (by simp),a⟩
  ·intro p hp;rw[Kj,Kd] at hp;rcases hp with rfl | hp
   ·exact h2
   ·exact fun hq=>b p hp (by simp[hq])
theorem ZkR {l:List Zc} (h:ZaY l):UL l:=⟨(Zqg h.2.1).1,fun x hx=>(QO h x hx).2.1⟩
theorem Zl1:∀ {l:List Zc} {k:Nat} {p:Pane},0≤WN k l p→∃ a x,WN k l p=((k+a:Nat):Int)∧l[a]?=some x∧x.Pane=p∧p∉(l.take a).map Zc.Pane
 | [],k,p,h=>by simp[WN] at h
 | x :: l,k,p,h=>by
  unfold WN at h ⊢;split
  ·rename_i e;exact⟨0,x,by simp,by simp,e,by simp⟩
  ·rename_i e;rw[Ke e] at h;obtain⟨a,y,h1,h2,h3,h4⟩:=Zl1 h;refine⟨a+1,y,by rw[h1];congr 1;omega,by simpa using h2,h3,?_⟩;simp only[LN,Kj,Kd,not_or];exact⟨fun e'=>e e'.symm,h4⟩
theorem Zqh:∀ {l:List Zc} {k:Nat} {p:Pane},WN k l p<0→p∉l.map Zc.Pane
 | [],k,p,h=>by simp
 | x :: l,k,p,h=>by
  unfold WN at h;split at h
  ·omega
  ·rename_i e;simp only[Kj,Kd,not_or];exact⟨fun e'=>e e'.symm,Zqh h⟩
theorem Zl2 {p:Pane} {c:Int}:∀ {l:List Zc} {b:Bool},p∉l.map Zc.Pane→Xq p c b l=b
 | [],b,_=>rfl
 | x :: l,b,h=>by
  simp only[Kj,Kd,not_or] at h;rw[Xq,Ke (fun e=>h.1 e.symm),Zl2 h.2]
theorem ZwE {p:Pane} {c:Int}:∀ {l:List Zc},p∉l.map Zc.Pane→(∀ x∈l,1≤x.Count)→X4 l p c=l
 | [],_,_=>rfl
 | x :: l,h,hc=>by
  simp only[Kj,Kd,not_or] at h;have h0:=hc x (by simp);have ih:=ZwE (p:=p) (c:=c) h.2 (fun y hy=>hc y (by simp[hy]));unfold X4 at ih ⊢;rw[Lf,ZhA,Ke (fun e=>h.1 e.symm),Kh (by omega),ih]
theorem ZwF {p:Pane} {c:Int}:∀ {l:List Zc} {a:Nat} {x:Zc},UL l→l[a]?=some x→x.Pane=p→Xq p c false l=decide (0≤x.Count-c)∧X4 l p c=if 0<x.Count-c then l.set a ⟨p,x.Count-c⟩ else l.eraseIdx a
 | [],a,x,_,h,_=>by simp at h
 | y :: l,0,x,hu,h,e=>by
  simp only[Lp,Option.some.injEq] at h;subst h;obtain⟨h1,h2⟩:=hu;rw[Kj,Kaa,e] at h1;have hl:=ZwE (p:=p) (c:=c) h1.1 (fun z hz=>h2 z (by simp[hz]));refine⟨by rw[Xq,Kh e,Zl2 h1.1],?_⟩;unfold X4 at hl ⊢;rw[Lf,ZhA,Kh e];by_cases hc:0<y.Count-c
  ·rw[Kh hc,Kh hc,hl,e];rfl
  ·rw[Ke hc,Ke hc,hl];rfl
 | y :: l,a+1,x,hu,h,e=>by
  simp only[Lq] at h;obtain⟨h1,h2⟩:=hu;rw[Kj,Kaa] at h1;have aa:y.Pane≠p:=fun e'=>h1.1 (by rw[e',← e];exact L9 (Kc h));obtain⟨i1,i2⟩:=ZwF (p:=p) (c:=c) (l:=l) ⟨h1.2,fun z hz=>h2 z (by simp[hz])⟩ h e;refine⟨by rw[Xq,Ke aa,i1],?_⟩;have h0:=h2 y (by simp);unfold X4 at i2 ⊢;rw[Lf,ZhA,Ke aa,Kh (by omega),i2];by_cases hc:0<x.Count-c
  ·rw[Kh hc,Kh hc];rfl
  ·rw[Ke hc,Ke hc];rfl
theorem ZwG {l:List Zc} {p:Pane} {c:Int} (h:UL l):UL (X4 l p c):=by
 have hs:∀ (l:List Zc),((X4 l p c).map Zc.Pane).Sublist (l.map Zc.Pane):=by
  intro l
  induction l with
  | nil=>simp[X4]
  | cons x l ih=>
   unfold X4 at ih ⊢;rw[Lf];unfold ZhA at ih ⊢;split
   ·exact ih.trans (by simp)
   ·rename_i y hy;split at hy
    ·split at hy
     ·cases hy;simpa using ih
     ·cases hy
    ·split at hy
     ·cases hy;simpa using ih
     ·cases hy
 refine⟨List.Nodup.sublist (hs l) h.1,fun y hy=>?_⟩;obtain⟨x,hx,e⟩:=Lm.1 hy;have:=h.2 x hx;unfold ZhA at e;split at e
 ·split at e
  ·cases e;simp only;omega
  ·cases e
 ·split at e
  ·cases e;omega
  ·cases e
theorem Zqi (p:Pane) (c:Int):∀ (l:List Zc),(YS p c l).map Zc.Pane=if p∈l.map Zc.Pane then l.map Zc.Pane else l.map Zc.Pane++[p]
 | []=>by simp[YS]
 | x :: l=>by
  unfold YS;by_cases e:x.Pane=p
  ·simp[e]
  ·have ih:=Zqi p c l;have e' : ¬p=x.Pane:=fun h=>e h.symm;simp only[Ke e,Kj,Kd,e',false_or,ih];split<;>simp
theorem Zy9 {l:List Zc} {p:Pane} {c:Int} (h:UL l) (hc:1≤c):UL (YS p c l):=by
 refine⟨?_,?_⟩
 ·rw[Zqi];split
  ·exact h.1
  ·rename_i hn;refine List.nodup_append.2 ⟨h.1,by simp,fun a ha b hb=>?_⟩;simp only[KC] at hb;subst hb;exact fun e=>hn (e ▸ ha)
 ·have aa:∀ (l:List Zc),(∀ x∈l,1≤x.Count)→∀ x∈YS p c l,1≤x.Count:=by
   intro l
   induction l with
   | nil=>intro _ x hx;simp[YS] at hx;subst hx;exact hc
   | cons y l ih=>
    intro h x hx;have hy:=h y (by simp);unfold YS at hx;split at hx
    ·rcases Kd.1 hx with rfl | hx
     ·simp only;omega
     ·exact h x (by simp[hx])
    ·rcases Kd.1 hx with rfl | hx
     ·exact hy
     ·exact ih (fun z hz=>h z (by simp[hz])) x hx
  exact aa l h.2
theorem Zis : ∀ {l:List Zb} {b:Int},XC b l→∀ x∈l,b<x.Label
 | [],_,_,x,hx=>by simp at hx
 | y :: l,b,h,x,hx=>by
  rcases Kd.1 hx with rfl | hx
  ·exact h.2.1
  ·have:=Zis h.2.2 x hx;have:=h.2.1;omega
theorem Zqj (q:Zb):∀ (l:List Zb),q∈QC q l
 | []=>by simp[QC]
 | x :: l=>by
  unfold QC;split
  ·simp
  ·exact KA _ (Zqj q l)
theorem Zm1 {q:Zb} (hq:VPc q):∀ {l:List Zb} {b:Int},XC b l→b<q.Label→(XC b (QC q l)↔q.Label∉l.map Zb.Label)
 | [],b,h,hb=>by simp[QC,XC,hq,hb]
 | x :: l,b,h,hb=>by
  obtain⟨h1,h2,h3⟩:=h;unfold QC;by_cases aa:q.Label<x.Label
  ·rw[Kh aa];refine⟨fun _ hm=>?_,fun _=>⟨hq,hb,h1,aa,h3⟩⟩;rw[Kj,Kd] at hm;rcases hm with hm | hm
   ·omega
   ·obtain⟨y,hy,e⟩:=Ld.1 hm;have:=Zis h3 y hy;omega
  ·rw[Ke aa];by_cases he:x.Label=q.Label
   ·constructor
    ·intro hs;have:=Zis hs.2.2 q (Zqj q l);omega
    ·intro hn;exact absurd (by simp[he]) hn
   ·have ih:=Zm1 hq h3 (by omega:x.Label<q.Label);rw[Kj,Kd,not_or,XC,ih];exact⟨fun h=>⟨fun e=>he e.symm,h.2.2⟩,fun h=>⟨h1,h2,h.2⟩⟩
theorem ZwH:∀ {l:List Zb} {k:Nat} {n:Int},Qy k l n<0↔n∉l.map Zb.Label
 | [],k,n=>by simp[Qy]
 | x :: l,k,n=>by
  unfold Qy;have ih:=ZwH (l:=l) (k:=k+1) (n:=n);by_cases he:x.Label=n
  ·rw[Kh he];simp only[Kj,Kd,he,true_or,not_true,iff_false];omega
  ·rw[Ke he,ih,Kj,Kd,not_or];exact⟨fun h=>⟨fun e=>he e.symm,h⟩,fun h=>h.2⟩
theorem ZBM {q:Zb} {l:List Zb} (h1:VSt l) (h2:VPc q):WS q l↔l.length≠20∧Qy 0 l q.Label<0:=by
 have h3:=Zm1 h2 h1.2 (by have:=h2.1.1;omega:0<q.Label);have h4:=h1.1;unfold WS;rw[ZwH,← h3];simp only[VSt,ZlW];constructor
 ·rintro ⟨_,a,b⟩;exact⟨by omega,b⟩
 ·rintro ⟨a,b⟩;exact⟨⟨⟨h4,h1.2⟩,h2⟩,by omega,b⟩
theorem Zi2 (l:List Zb) (qL qW qH:Int) (qF:List Box) (hl:l.length≤100000):Ze Xs Ms ZaC [(.d (.sl (l.map Zb.enc))),(.d (.agg [J qL,J qW,J qH,.sl (qF.map Box.enc)]))] [] =
  some (.tup [.own 0,(.d (.bool (decide (WS (Zb.mk qL qW qH qF) l))))],[.row 4 ((if WS (Zb.mk qL qW qH qF) l then QC (Zb.mk qL qW qH qF) l else []).map Zb.enc) true false]):=by
 have e1:=Wf l;have e2:=Xn qL qW qH qF;have e3:=Vq l qL (by omega);by_cases v1:VSt l
 ·rw[Ki v1] at e1;by_cases v2:VPc (Zb.mk qL qW qH qF)
  ·rw[Ki v2] at e2;have hA:=ZBM v1 v2;simp only at hA;have hF:=(ZcT v1).2;have af:qF.length≤1000000:=by have:=v2.1.2.2.2.2.2.2;simp only at this;omega
   by_cases v3:l.length=20
   ·have h:¬WS (Zb.mk qL qW qH qF) l:=fun h=>(hA.1 h).1 v3;have ab : ((l.length:Int)=20):=by omega
    rw[Kk h,Ke h];refine cE ?_;simp +contextual -implicitDefEqProofs (maxSteps:=10^7) only[go_sem,seval,↓gZ,V6,e1,e2,ab]
   ·have ab : ¬((l.length:Int)=20):=by omega
    by_cases v4:Qy 0 l qL<0
    ·have h:WS (Zb.mk qL qW qH qF) l:=hA.2 ⟨v3,v4⟩;have aa : ¬(0≤Qy 0 l qL):=by omega
     have eq:=Zam qL qW qH qF af;rw[Ki h,Kh h];generalize Qy 0 l qL=fl at e3 aa;have ah:=v1.1;refine cE ?_;simp +contextual -implicitDefEqProofs (maxSteps:=10^7) only[go_sem,seval,↓gZ,V6,e1,e2,ab,e3,aa];refine LO (α:=Nat×Bool×List Zb) (fun s=>[(32,.d (J (s.1:Int))),(7,.d (.bool s.2.1))]) (fun s=>[(0,.row 4 (s.2.2.map Zb.enc) true false)]) (fun s=>s.1≤l.length∧s.2.2++(if s.2.1 then l.drop s.1 else QC (Zb.mk qL qW qH qF) (l.drop s.1))=QC (Zb.mk qL qW qH qF) l∧s.2.2.length≤s.1+s.2.1.toNat) (fun s=>l.length-s.1) (0,false,[]) ⟨by simp,by simp,by simp⟩ ?_;intro⟨i,b,o⟩ ⟨hi,hp,ho⟩ ih;simp only at hi hp ho
     have hb:=Bool.toNat_le b;by_cases ad:i<l.length
     ·obtain⟨x,hx⟩:=Zs ad;have hw:=Zj (k:=i) (by omega);have hr:(o.length+1)*48≤140737488355328∧o.length≤140737488355327:=by omega
      have ae:∀ n:Nat,n=o.length+1→(n+1)*48≤140737488355328∧n≤140737488355327:=fun n hn=>by omega
      have ae:=ae _ rfl;have ag:o.length≤140737488355326:=by omega
      have e:=Zam x.Label x.W x.H x.Flaws (hF x (Kc hx));rw[Zp8 hx] at hp;have hd:l.drop i=x :: l.drop (i+1):=by
       obtain⟨h1,h2⟩:=Kb.1 hx;rw[Kw h1,h2]
      obtain⟨L,W,H,F⟩:=x;simp only at e hp;cases b with
      | true=>
       simp only[Bool.toNat_true] at ho;rw[Kh rfl] at hp;simp +contextual -implicitDefEqProofs (maxSteps:=10^7) only[go_sem,seval,↓gZ,hx,ad,hw,e,hr];refine ih (i+1,true,o++[⟨L,W,H,F⟩]) _ ⟨by simp only;omega,?_,by simp;omega⟩ (by simp only;omega) ?_
       ·rw[← hp,hd];simp
       ·simp +contextual -implicitDefEqProofs (maxSteps:=10^7) only[go_sem,seval,↓gZ];try (simp[Zb.enc];done)
      | false=>
       simp only[Bool.toNat_false] at ho;rw[Ke (by simp)] at hp;by_cases hc:qL<L
       ·rw[Kh hc] at hp;simp +contextual -implicitDefEqProofs (maxSteps:=10^7) only[go_sem,seval,↓gZ,hx,ad,hw,e,eq,hc,hr,ae,ag];refine ih (i+1,true,o++[(Zb.mk qL qW qH qF),⟨L,W,H,F⟩]) _ ⟨by simp only;omega,?_,by simp;omega⟩ (by simp only;omega) ?_
        ·rw[← hp,hd];simp
        ·simp +contextual -implicitDefEqProofs (maxSteps:=10^7) only[go_sem,seval,↓gZ];try (simp[Zb.enc];done)
       ·rw[Ke hc] at hp;simp +contextual -implicitDefEqProofs (maxSteps:=10^7) only[go_sem,seval,↓gZ,hx,ad,hw,e,hc,hr];refine ih (i+1,false,o++[⟨L,W,H,F⟩]) _ ⟨by simp only;omega,?_,by simp;omega⟩ (by simp only;omega) ?_
        ·rw[← hp];simp
        ·simp +contextual -implicitDefEqProofs (maxSteps:=10^7) only[go_sem,seval,↓gZ];try (simp[Zb.enc];done)
     ·have:i=l.length:=by omega
      subst this;have hr:(o.length+1)*48≤140737488355328∧o.length≤140737488355327:=by omega
      cases b with
      | true=>
       simp at hp;simp +contextual -implicitDefEqProofs (maxSteps:=10^7) only[go_sem,seval,↓gZ];rw[hp]
      | false=>
       simp[QC] at hp;simp +contextual -implicitDefEqProofs (maxSteps:=10^7) only[go_sem,seval,↓gZ,eq,hr];rw[← hp];try (simp[Zb.enc];done)
    ·have h:¬WS (Zb.mk qL qW qH qF) l:=fun h=>v4 (hA.1 h).2;have aa : 0≤Qy 0 l qL:=by omega
     rw[Kk h,Ke h];generalize Qy 0 l qL=fl at e3 aa;refine cE ?_;simp +contextual -implicitDefEqProofs (maxSteps:=10^7) only[go_sem,seval,↓gZ,V6,e1,e2,ab,e3,aa]
  ·rw[Kk v2] at e2;have h:¬WS (Zb.mk qL qW qH qF) l:=fun h=>v2 h.1.2;rw[Kk h,Ke h];refine cE ?_;simp +contextual -implicitDefEqProofs (maxSteps:=10^7) only[go_sem,seval,↓gZ,V6,e1,e2]
 ·rw[Kk v1] at e1;have h:¬WS (Zb.mk qL qW qH qF) l:=fun h=>v1 h.1.1;rw[Kk h,Ke h];refine cE ?_;simp +contextual -implicitDefEqProofs (maxSteps:=10^7) only[go_sem,seval,↓gZ,V6,e1]
theorem ZgM (l:List Zc) (hl:l.length≤1000000):Ze Xs Ms Xa [(.d (.sl (l.map Zc.enc)))] []=some (.own 0,[.row 5 (l.map Zc.enc) true false]):=by
 refine VU Xs Ms Zmb ?_;unfold Zlb;simp only;rw[Kh ⟨by rw[ZvJ];trivial,by rw[ZsP];trivial,by simp[ZU];omega,by simp[ZU];omega⟩]
theorem Zi3 {α β:Type} (f:α→β):∀ (l:List α) (i:Nat),(l.map f).eraseIdx i=(l.eraseIdx i).map f
 | [],_=>rfl
 | _ :: _,0=>rfl
 | x :: l,i+1=>by simp[Zi3 f l i]
theorem Zl3 (l:List Zc) (i:Nat) (hi:i<l.length):Ze Xs Ms ZW [.own 0,(.d (J i)),(.d (J ((i:Int)+1)))] [.row 5 (l.map Zc.enc) true false]=some (.own 1,[.row 0 [] true false,.row 5 ((l.eraseIdx i).map Zc.enc) true false]):=by
 refine VU Xs Ms ZkY ?_;unfold ZhZ;simp only;rw[Kh ⟨rfl,by omega,rfl,by simp;omega,by rw[ZvJ];trivial,by rw[ZsP];trivial,rfl,rfl⟩,KB,Zi3]
theorem ZcH (l:List Zc) (xW xH:Int) (xT:Bool) (xK xC:Int) (hl:l.length≤1000000) (hc:∀ y∈l,R64 (y.Count+xC)):Ze Xs Ms W6 [(.d (.sl (l.map Zc.enc))),(.d (.agg [J xW,J xH,.bool xT,J xK,J xC]))] []=some (.own 0,[.row 5 ((YS ⟨xW,xH,xT,xK⟩ xC l).map Zc.enc) true false]):=by
 have e1:=ZgM l hl;have e2:=Zev l xW xH xT xK (by omega);have hr:(l.length+1)*40≤140737488355328∧l.length≤140737488355327:=by omega
 by_cases hf:WN 0 l ⟨xW,xH,xT,xK⟩<0
 ·have hn:¬0≤WN 0 l ⟨xW,xH,xT,xK⟩:=by omega
  rw[ZuD _ _ _ (Zqh hf)];refine cE ?_;simp +contextual -implicitDefEqProofs (maxSteps:=10^7) only[go_sem,seval,↓gZ,Zed,e1,e2,hn,hr];try (simp[Zc.enc];done)
 ·obtain⟨a,x,h1,h2,h3,h4⟩:=Zl1 (by omega:0≤WN 0 l ⟨xW,xH,xT,xK⟩);rw[La] at h1;rw[h1] at e2;rw[ZuC _ _ _ a x h2 h3 h4];have aa:=hc x (Kc h2);obtain⟨⟨W,H,T,K⟩,C⟩:=x;simp only[Pane.mk.injEq] at h3 aa;obtain⟨rfl,rfl,rfl,rfl⟩:=h3;have u0:=wi (C+xC) aa.1 aa.2;have ab:=(Kb.1 h2).1;have ha:(0:Int)≤(a:Int):=by omega
  refine cE ?_;simp +contextual -implicitDefEqProofs (maxSteps:=10^7) only[go_sem,seval,↓gZ,Zed,e1,e2,ha,h2,ab,u0];try (simp[Zc.enc,LJ];done)
def tkV (l:List Zc) (p:Pane) (c:Int):AV×List Zm:=
 if Xq p c false l=true then (.tup [.own 0,(.d (.bool true))],[.row 5 ((X4 l p c).map Zc.enc) true false]) else (.tup [.own 0,(.d (.bool false))],[.row 5 [] true false])
theorem ZbB (l:List Zc) (xW xH:Int) (xT:Bool) (xK xC:Int) (hl:l.length≤1000000) (hu:UL l) (hc:∀ y∈l,R64 (y.Count-xC)):Ze Xs Ms Ut [(.d (.sl (l.map Zc.enc))),(.d (.agg [J xW,J xH,.bool xT,J xK,J xC]))] []=some (tkV l ⟨xW,xH,xT,xK⟩ xC):=by
 have e1:=ZgM l hl;have e2:=Zev l xW xH xT xK (by omega);by_cases hf:WN 0 l ⟨xW,xH,xT,xK⟩<0
 ·have hn:=Zl2 (c:=xC) (b:=false) (Zqh hf);have ek:tkV l ⟨xW,xH,xT,xK⟩ xC=(.tup [.own 0,(.d (.bool false))],[.row 5 [] true false]):=by unfold tkV;rw[hn,Ke (by simp)]
  rw[ek];refine cE ?_;simp +contextual -implicitDefEqProofs (maxSteps:=10^7) only[go_sem,seval,↓gZ,UD,e1,e2,hf]
 ·obtain⟨a,x,h1,h2,h3,h4⟩:=Zl1 (by omega:0≤WN 0 l ⟨xW,xH,xT,xK⟩);rw[La] at h1;rw[h1] at e2;obtain⟨k1,k2⟩:=ZwF (c:=xC) hu h2 h3;have ad:=hc x (Kc h2);obtain⟨⟨W,H,T,K⟩,C⟩:=x;simp only[Pane.mk.injEq] at h3 ad k1 k2;obtain⟨rfl,rfl,rfl,rfl⟩:=h3;have u0:=wi (C-xC) ad.1 ad.2;have ab:=(Kb.1 h2).1;have ha:¬(a:Int)<0:=by omega
  have hw:=Zj (k:=a) (by omega);have e3:=Zl3 (l.set a ⟨⟨W,H,T,K⟩,0⟩) a (by simpa using ab);by_cases ae:C<xC
  ·have hx:¬0≤C-xC:=by omega
   have ek:tkV l ⟨W,H,T,K⟩ xC=(.tup [.own 0,(.d (.bool false))],[.row 5 [] true false]):=by unfold tkV;rw[k1,Kk hx,Ke (by simp)]
   rw[ek];refine cE ?_;simp +contextual -implicitDefEqProofs (maxSteps:=10^7) only[go_sem,seval,↓gZ,UD,e1,e2,ha,h2,ab,ae]
  ·have hx:0≤C-xC:=by omega
   by_cases hz:C-xC=0
   ·have ek:tkV l ⟨W,H,T,K⟩ xC=(.tup [.own 0,(.d (.bool true))],[.row 5 ((l.eraseIdx a).map Zc.enc) true false]):=by unfold tkV;rw[k1,Ki hx,Kh rfl,k2,Ke (by omega)]
    rw[ek];have es:(l.set a ⟨⟨W,H,T,K⟩,0⟩).eraseIdx a=l.eraseIdx a:=by simp[List.eraseIdx_set_eq]
    rw[es,LJ] at e3;simp only[Zc.enc] at e3;have aa:((a:Int)+1)=((a+1:Nat):Int):=by omega
    rw[aa] at e3;rw[hz] at u0;refine cE ?_;simp +contextual -implicitDefEqProofs (maxSteps:=10^7) only[go_sem,seval,↓gZ,UD,e1,e2,ha,h2,ab,ae,hz,u0,hw,e3,LJ,LB,List.length_set]
   ·have ek:tkV l ⟨W,H,T,K⟩ xC=(.tup [.own 0,(.d (.bool true))],[.row 5 ((l.set a ⟨⟨W,H,T,K⟩,C-xC⟩).map Zc.enc) true false]):=by unfold tkV;rw[k1,Ki hx,Kh rfl,k2,Kh (by omega)]
    rw[ek];refine cE ?_;simp +contextual -implicitDefEqProofs (maxSteps:=10^7) only[go_sem,seval,↓gZ,UD,e1,e2,ha,h2,ab,ae,hz,u0,LJ,LB,List.length_set]
theorem Wo (sS:List Zb) (sO sD:List Zc) (sL sC:Int) (h:Zbo (Zq.mk sS sO sD sL sC)):Ze Xs Ms Zat [(.d (.agg [.sl (sS.map Zb.enc),.sl (sO.map Zc.enc),.sl (sD.map Zc.enc),J sL,J sC]))] []=some (.agg [.own 0,.own 1,.own 2,(.d (J sL)),(.d (J sC))],[.deep 4 4 (sS.map Zb.enc) none,.row 5 (sO.map Zc.enc) true false,.row 5 (sD.map Zc.enc) true false]):=by
 obtain⟨h1,h2,h3,h4⟩:=h;simp only at h1 h2 h3 h4;have e1:=Zdt sS (by omega) (fun x hx=>by have:=(h2 x hx).1;omega);have r1:sO.length*40≤140737488355328∧sO.length≤140737488355328:=by omega
 have r2:sD.length*40≤140737488355328∧sD.length≤140737488355328:=by omega
 refine cE ?_;simp +contextual -implicitDefEqProofs (maxSteps:=10^7) only[go_sem,seval,↓gZ,Zgh,e1,r1,r2]
theorem Jt (xW xH:Int) (xT:Bool) (xK xC:Int):Ze Xs Ms VA [(.d (.agg [J xW,J xH,.bool xT,J xK,J xC]))] []=some ((.d (.bool (decide (WO ⟨⟨xW,xH,xT,xK⟩,xC⟩)))),[]):=by
 have e1:=Zdn xW xH xT xK;refine cE ?_;by_cases v1:VP ⟨xW,xH,xT,xK⟩
 ·rw[Ki v1] at e1;by_cases v2:1≤xC
  ·by_cases v3:xC≤24
   ·have h:WO ⟨⟨xW,xH,xT,xK⟩,xC⟩:=⟨v1,v2,v3⟩
    simp +contextual -implicitDefEqProofs (maxSteps:=10^7) only[go_sem,seval,↓gZ,VG,e1,v2,v3,h]
   ·have h:¬WO ⟨⟨xW,xH,xT,xK⟩,xC⟩:=fun h=>v3 h.2.2;simp +contextual -implicitDefEqProofs (maxSteps:=10^7) only[go_sem,seval,↓gZ,VG,e1,v2,v3,h]
  ·have h:¬WO ⟨⟨xW,xH,xT,xK⟩,xC⟩:=fun h=>v2 h.2.1;simp +contextual -implicitDefEqProofs (maxSteps:=10^7) only[go_sem,seval,↓gZ,VG,e1,v2,h]
 ·rw[Kk v1] at e1;have h:¬WO ⟨⟨xW,xH,xT,xK⟩,xC⟩:=fun h=>v1 h.1;simp +contextual -implicitDefEqProofs (maxSteps:=10^7) only[go_sem,seval,↓gZ,VG,e1,h]
theorem ZrA (sS:List Zb) (sO sD:List Zc) (sL sC:Int) (eK eL eX eY eW eH aa ab:Int) (ad:Bool) (ae eC eo ea ep:Int) (et:Bool) (ek:List Zf) (hl:sS.length≤100000) (hn:¬((WS ⟨eL,eW,eH,[]⟩ sS∧eX=0)∧eY=0)):Ze Xs Ms Us [.ptr 0 0,(.d (.agg [J eK,J eL,J eX,J eY,J eW,J eH,J aa,J ab,.bool ad,J ae,J eC,J eo,J ea,J ep,.bool et,.sl (ek.map Zf.enc)]))] [.box [.own 1,.own 2,.own 3,(.d (J sL)),(.d (J sC))],.deep 4 4 (sS.map Zb.enc) none,.row 5 (sO.map Zc.enc) true false,.row 5 (sD.map Zc.enc) true false]=some ((.d (.bool false)),[.box [.own 1,.own 2,.own 3,(.d (J sL)),(.d (J sC))],.deep 4 4 (sS.map Zb.enc) none,.row 5 (sO.map Zc.enc) true false,.row 5 (sD.map Zc.enc) true false]):=by
 by_cases hx:eX=0
 ·by_cases hy:eY=0
  ·have ha:¬WS ⟨eL,eW,eH,[]⟩ sS:=fun h=>hn ⟨⟨h,hx⟩,hy⟩;have e1:=Zi2 sS eL eW eH [] hl;rw[Kk ha,Ke ha] at e1;simp only[Kx] at e1;refine cE ?_;simp +contextual -implicitDefEqProofs (maxSteps:=10^7) only[go_sem,seval,↓gZ,UA,hx,hy,e1]
  ·refine cE ?_;simp +contextual -implicitDefEqProofs (maxSteps:=10^7) only[go_sem,seval,↓gZ,UA,hx,hy]
 ·refine cE ?_;simp +contextual -implicitDefEqProofs (maxSteps:=10^7) only[go_sem,seval,↓gZ,UA,hx]
theorem Zqk (sS:List Zb) (sO sD:List Zc) (sL sC:Int) (eK eL eX eY eW eH aa ab:Int) (ad:Bool) (ae eC eo ea ep:Int) (et:Bool) (ek:List Zf) (hv:ZS (Zq.mk sS sO sD sL sC)) (ha:WS ⟨eL,eW,eH,[]⟩ sS) (hx:eX=0) (hy:eY=0):Ze Xs Ms Us [.ptr 0 0,(.d (.agg [J eK,J eL,J eX,J eY,J eW,J eH,J aa,J ab,.bool ad,J ae,J eC,J eo,J ea,J ep,.bool et,.sl (ek.map Zf.enc)]))] [.box [.own 1,.own 2,.own 3,(.d (J sL)),(.d (J sC))],.deep 4 4 (sS.map Zb.enc) none,.row 5 (sO.map Zc.enc) true false,.row 5 (sD.map Zc.enc) true false] =
  some ((.d (.bool true)),[.box [.own 4,.own 2,.own 3,(.d (J sL)),(.d (J (sC+eW*eH)))],.deep 4 4 (sS.map Zb.enc) none,.row 5 (sO.map Zc.enc) true false,.row 5 (sD.map Zc.enc) true false,.row 4 ((QC ⟨eL,eW,eH,[]⟩ sS).map Zb.enc) true false]):=by
 have af:=hv.1.1;simp only at af;have e1:=Zi2 sS eL eW eH [] (by omega);rw[Ki ha,Kh ha] at e1;simp only[Kx] at e1;have hp:=ha.1.2.1;simp only at hp;subst hx hy;have hb:VB ⟨0,0,eW,eH⟩:=by simp only[VB];omega
 have e2:=ZkH 0 0 eW eH hb;have h3:=ZcC hb;simp only at h3;have h4:=hv.2.2.2;simp only at h4;have u0:=wi (sC+eW*eH) (by omega) (by omega);generalize QC ⟨eL,eW,eH,[]⟩ sS=Q at *;refine cE ?_;simp +contextual -implicitDefEqProofs (maxSteps:=10^7) only[go_sem,seval,↓gZ,UA,e1,e2,u0]
theorem ZuH (sS:List Zb) (sO sD:List Zc) (sL sC:Int) (eK eL eX eY eW eH aa ab:Int) (ad:Bool) (ae eC eo ea ep:Int) (et:Bool) (ek:List Zf) (hl:sS.length≤100000) (hn:Qy 0 sS eL<0):Ze Xs Ms JR [.ptr 0 0,(.d (.agg [J eK,J eL,J eX,J eY,J eW,J eH,J aa,J ab,.bool ad,J ae,J eC,J eo,J ea,J ep,.bool et,.sl (ek.map Zf.enc)]))] [.box [.own 1,.own 2,.own 3,(.d (J sL)),(.d (J sC))],.deep 4 4 (sS.map Zb.enc) none,.row 5 (sO.map Zc.enc) true false,.row 5 (sD.map Zc.enc) true false]=some ((.d (.bool false)),[.box [.own 1,.own 2,.own 3,(.d (J sL)),(.d (J sC))],.deep 4 4 (sS.map Zb.enc) none,.row 5 (sO.map Zc.enc) true false,.row 5 (sD.map Zc.enc) true false]):=by
 have e1:=Vq sS eL (by omega);refine cE ?_;simp +contextual -implicitDefEqProofs (maxSteps:=10^7) only[go_sem,seval,↓gZ,Zeb,e1,hn]
theorem ZrB (sS:List Zb) (sO sD:List Zc) (sL sC:Int) (eK eL eX eY eW eH aa ab:Int) (ad:Bool) (ae eC eo ea ep:Int) (et:Bool) (ek:List Zf) (hl:sS.length≤100000) (a:Nat) (ha:Qy 0 sS eL=(a:Int)) (xL xW xH:Int) (xF:List Box) (hx:sS[a]?=some (Zb.mk xL xW xH xF)) (hF:xF.length≤1000):Ze Xs Ms JR [.ptr 0 0,(.d (.agg [J eK,J eL,J eX,J eY,J eW,J eH,J aa,J ab,.bool ad,J ae,J eC,J eo,J ea,J ep,.bool et,.sl (ek.map Zf.enc)]))] [.box [.own 1,.own 2,.own 3,(.d (J sL)),(.d (J sC))],.deep 4 4 (sS.map Zb.enc) none,.row 5 (sO.map Zc.enc) true false,.row 5 (sD.map Zc.enc) true false] =
  some ((.d (.bool true)),[.box [.own 1,.own 2,.own 3,(.d (J sL)),(.d (J sC))],.row 4 ((sS.set a ⟨xL,xW,xH,xF++[⟨eX,eY,eW,eH⟩]⟩).map Zb.enc) true false,.row 5 (sO.map Zc.enc) true false,.row 5 (sD.map Zc.enc) true false]):=by
 have e1:=Vq sS eL (by omega);rw[ha] at e1;have h0:¬(a:Int)<0:=by omega
 have af : (0:Int)≤(a:Int):=by omega
 have ag:=(Kb.1 hx).1;have hr:(xF.length+1)*32≤140737488355328∧xF.length≤140737488355327:=by omega
 have ah:=Zp3 xF;refine cE ?_;simp +contextual -implicitDefEqProofs (maxSteps:=10^7) only[go_sem,seval,↓gZ,Zeb,e1,h0,af,hx,ag,hr,ah];simp[Zb.enc,Box.enc,LJ]
theorem Zno (sS:List Zb) (sO sD:List Zc) (sL sC:Int) (eK eL eX eY eW eH aa ab:Int) (ad:Bool) (ae eC eo ea ep:Int) (et:Bool) (ek:List Zf) (hn:¬WO ⟨⟨aa,ab,ad,ae⟩,eC⟩):Ze Xs Ms Vw [.ptr 0 0,(.d (.agg [J eK,J eL,J eX,J eY,J eW,J eH,J aa,J ab,.bool ad,J ae,J eC,J eo,J ea,J ep,.bool et,.sl (ek.map Zf.enc)]))] [.box [.own 1,.own 2,.own 3,(.d (J sL)),(.d (J sC))],.deep 4 4 (sS.map Zb.enc) none,.row 5 (sO.map Zc.enc) true false,.row 5 (sD.map Zc.enc) true false]=some ((.d (.bool false)),[.box [.own 1,.own 2,.own 3,(.d (J sL)),(.d (J sC))],.deep 4 4 (sS.map Zb.enc) none,.row 5 (sO.map Zc.enc) true false,.row 5 (sD.map Zc.enc) true false]):=by
 have e1:=Jt aa ab ad ae eC;rw[Kk hn] at e1;refine cE ?_;simp +contextual -implicitDefEqProofs (maxSteps:=10^7) only[go_sem,seval,↓gZ,ZaR,e1]
theorem Zl4 (sS:List Zb) (sO sD:List Zc) (sL sC:Int) (eK eL eX eY eW eH aa ab:Int) (ad:Bool) (ae eC eo ea ep:Int) (et:Bool) (ek:List Zf) (hv:ZS (Zq.mk sS sO sD sL sC)) (hn:WO ⟨⟨aa,ab,ad,ae⟩,eC⟩):Ze Xs Ms Vw [.ptr 0 0,(.d (.agg [J eK,J eL,J eX,J eY,J eW,J eH,J aa,J ab,.bool ad,J ae,J eC,J eo,J ea,J ep,.bool et,.sl (ek.map Zf.enc)]))] [.box [.own 1,.own 2,.own 3,(.d (J sL)),(.d (J sC))],.deep 4 4 (sS.map Zb.enc) none,.row 5 (sO.map Zc.enc) true false,.row 5 (sD.map Zc.enc) true false] =
  some ((.d (.bool true)),[.box [.own 1,.own 4,.own 3,(.d (J sL)),(.d (J sC))],.deep 4 4 (sS.map Zb.enc) none,.row 5 (sO.map Zc.enc) true false,.row 5 (sD.map Zc.enc) true false,.row 5 ((YS ⟨aa,ab,ad,ae⟩ eC sO).map Zc.enc) true false]):=by
 have e1:=Jt aa ab ad ae eC;rw[Ki hn] at e1;have e2:=ZcH sO aa ab ad ae eC (by have:=hv.2.1.1;simp only at this;omega) (fun x hx=>by have:=(QO hv.2.1 x hx).2;have:=hn.2;simp only at this;unfold R64;omega);refine cE ?_;simp +contextual -implicitDefEqProofs (maxSteps:=10^7) only[go_sem,seval,↓gZ,ZaR,e1,e2]
theorem Znp (sS:List Zb) (sO sD:List Zc) (sL sC:Int) (eK eL eX eY eW eH aa ab:Int) (ad:Bool) (ae eC eo ea ep:Int) (et:Bool) (ek:List Zf) (hv:ZS (Zq.mk sS sO sD sL sC)) (hn:¬(WO ⟨⟨aa,ab,ad,ae⟩,eC⟩∧Xq ⟨aa,ab,ad,ae⟩ eC false sD=true)):Ze Xs Ms Vx [.ptr 0 0,(.d (.agg [J eK,J eL,J eX,J eY,J eW,J eH,J aa,J ab,.bool ad,J ae,J eC,J eo,J ea,J ep,.bool et,.sl (ek.map Zf.enc)]))] [.box [.own 1,.own 2,.own 3,(.d (J sL)),(.d (J sC))],.deep 4 4 (sS.map Zb.enc) none,.row 5 (sO.map Zc.enc) true false,.row 5 (sD.map Zc.enc) true false]=some ((.d (.bool false)),[.box [.own 1,.own 2,.own 3,(.d (J sL)),(.d (J sC))],.deep 4 4 (sS.map Zb.enc) none,.row 5 (sO.map Zc.enc) true false,.row 5 (sD.map Zc.enc) true false]):=by
 have e1:=Jt aa ab ad ae eC;by_cases hl:WO ⟨⟨aa,ab,ad,ae⟩,eC⟩
 ·rw[Ki hl] at e1;have e2:=ZbB sD aa ab ad ae eC (by have:=hv.2.2.1.1;simp only at this;omega) (ZkR hv.2.2.1) (fun x hx=>by have:=(QO hv.2.2.1 x hx).2;have:=hl.2;simp only at this;unfold R64;omega);unfold tkV at e2;rw[Ke (fun h=>hn ⟨hl,h⟩)] at e2;refine cE ?_;simp +contextual -implicitDefEqProofs (maxSteps:=10^7) only[go_sem,seval,↓gZ,Ue,e1,e2]
 ·rw[Kk hl] at e1;refine cE ?_;simp +contextual -implicitDefEqProofs (maxSteps:=10^7) only[go_sem,seval,↓gZ,Ue,e1]
theorem Zl5 (sS:List Zb) (sO sD:List Zc) (sL sC:Int) (eK eL eX eY eW eH aa ab:Int) (ad:Bool) (ae eC eo ea ep:Int) (et:Bool) (ek:List Zf) (hv:ZS (Zq.mk sS sO sD sL sC)) (hl:WO ⟨⟨aa,ab,ad,ae⟩,eC⟩) (hk:Xq ⟨aa,ab,ad,ae⟩ eC false sD=true):Ze Xs Ms Vx [.ptr 0 0,(.d (.agg [J eK,J eL,J eX,J eY,J eW,J eH,J aa,J ab,.bool ad,J ae,J eC,J eo,J ea,J ep,.bool et,.sl (ek.map Zf.enc)]))] [.box [.own 1,.own 2,.own 3,(.d (J sL)),(.d (J sC))],.deep 4 4 (sS.map Zb.enc) none,.row 5 (sO.map Zc.enc) true false,.row 5 (sD.map Zc.enc) true false] =
  some ((.d (.bool true)),[.box [.own 1,.own 4,.own 5,(.d (J (sL+eC*aa*ab))),(.d (J sC))],.deep 4 4 (sS.map Zb.enc) none,.row 5 (sO.map Zc.enc) true false,.row 5 (sD.map Zc.enc) true false,.row 5 ((YS ⟨aa,ab,ad,ae⟩ eC sO).map Zc.enc) true false,.row 5 ((X4 sD ⟨aa,ab,ad,ae⟩ eC).map Zc.enc) true false]):=by
 have e1:=Jt aa ab ad ae eC;rw[Ki hl] at e1;have e2:=ZbB sD aa ab ad ae eC (by have:=hv.2.2.1.1;simp only at this;omega) (ZkR hv.2.2.1) (fun x hx=>by have:=(QO hv.2.2.1 x hx).2;have:=hl.2;simp only at this;unfold R64;omega);unfold tkV at e2;rw[Kh hk] at e2;have e3:=ZcH sO aa ab ad ae eC (by have:=hv.2.1.1;simp only at this;omega) (fun x hx=>by have:=(QO hv.2.1 x hx).2;have:=hl.2;simp only at this;unfold R64;omega);have af:=Zfp hl;have h6:=hv.2.2.2;simp only at af h6;have u0:=wi (eC*aa) (by omega) (by omega);have u1:=wi (eC*aa*ab) (by omega) (by omega);have u2:=wi (sL+eC*aa*ab) (by omega) (by omega)
 refine cE ?_;simp +contextual -implicitDefEqProofs (maxSteps:=10^7) only[go_sem,seval,↓gZ,Ue,e1,e2,e3,u0,u1,u2]
theorem Znq (sS:List Zb) (sO sD:List Zc) (sL sC:Int) (eK eL eX eY eW eH aa ab:Int) (ad:Bool) (ae eC eo ea ep:Int) (et:Bool) (ek:List Zf) (hn:Qy 0 sS eL<0):Ze Xs Ms Vy [.ptr 0 0,(.d (.agg [J eK,J eL,J eX,J eY,J eW,J eH,J aa,J ab,.bool ad,J ae,J eC,J eo,J ea,J ep,.bool et,.sl (ek.map Zf.enc)]))] [.box [.own 1,.own 2,.own 3,(.d (J sL)),(.d (J sC))],.deep 4 4 (sS.map Zb.enc) none,.row 5 (sO.map Zc.enc) true false,.row 5 (sD.map Zc.enc) true false]=some ((.d (.bool false)),[.box [.own 1,.own 2,.own 3,(.d (J sL)),(.d (J sC))],.deep 4 4 (sS.map Zb.enc) none,.row 5 (sO.map Zc.enc) true false,.row 5 (sD.map Zc.enc) true false]):=by
 have e1:=Zhy sS eL (fun h=>by omega);refine cE ?_;simp +contextual -implicitDefEqProofs (maxSteps:=10^7) only[go_sem,seval,↓gZ,ZaS,e1]
theorem Zl6 (sS:List Zb) (sO sD:List Zc) (sL sC:Int) (eK eL eX eY eW eH aa ab:Int) (ad:Bool) (ae eC eo ea ep:Int) (et:Bool) (ek:List Zf) (hv:ZS (Zq.mk sS sO sD sL sC)) (a:Nat) (ha:Qy 0 sS eL=(a:Int)) (xL xW xH:Int) (xF:List Box) (hx:sS[a]?=some (Zb.mk xL xW xH xF)):Ze Xs Ms Vy [.ptr 0 0,(.d (.agg [J eK,J eL,J eX,J eY,J eW,J eH,J aa,J ab,.bool ad,J ae,J eC,J eo,J ea,J ep,.bool et,.sl (ek.map Zf.enc)]))] [.box [.own 1,.own 2,.own 3,(.d (J sL)),(.d (J sC))],.deep 4 4 (sS.map Zb.enc) none,.row 5 (sO.map Zc.enc) true false,.row 5 (sD.map Zc.enc) true false] =
  some ((.d (.bool true)),[.box [.own 4,.own 2,.own 3,(.d (J (sL+xW*xH))),(.d (J sC))],.deep 4 4 (sS.map Zb.enc) none,.row 5 (sO.map Zc.enc) true false,.row 5 (sD.map Zc.enc) true false,.row 4 ((sS.eraseIdx a).map Zb.enc) true false]):=by
 have e1:=ZgL sS eL hv.1 a ha xL xW xH xF hx;have af:=(Qr hv.1.2 _ (Kc hx)).1;simp only at af;have h6:=hv.2.2.2;simp only at h6;have hb:VB ⟨0,0,xW,xH⟩:=by simp only[VB];omega
 have h3:=ZcC hb;simp only at h3;have u0:=wi (xW*xH) (by omega) (by omega);have u1:=wi (sL+xW*xH) (by omega) (by omega);refine cE ?_;simp +contextual -implicitDefEqProofs (maxSteps:=10^7) only[go_sem,seval,↓gZ,ZaS,e1,u0,u1]
theorem ZwI (kW kH:Int) (kP:List Pane) (p:Zf) (hv:VK (ZI.mk kW kH kP) p=true):Ze Xs Ms ZdD [(.d (.agg [J kW,J kH,.sl (kP.map Pane.enc)])),.d p.enc] []=some (.own 0,[.row 1 ((Zd8 (ZI.mk kW kH kP) p).map YA) true false]):=by
 have ev:=Zal kW kH kP p;rw[hv] at ev;have e:=Zew kW kH kP p;obtain⟨b,hb,ai,ae,aj,aa,ab⟩:=Xx hv;simp only at aa ab;have af:=Zdx (x:=0) (y:=0) aa;have an:kP.length≤24:=ae.2.2.2.2.1;have ak:(plc b 0 0 kW kH).length≤255:=by
  have:=Kl XD (QI (ZI.mk kW kH kP) p);rw[ab,Zab,Wk] at this;omega
 unfold Zd8;rw[ab,Wk] at e ⊢;generalize plc b 0 0 kW kH=L at e af ak ⊢;have al:(kP.length:Int)*((8:Nat):Int)≤((140737488355328:Nat):Int)∧kP.length≤140737488355328:=by omega
 have ad:(kP.length:Int)*8≤140737488355328∧(kP.length:Int)≤140737488355328:=by omega
 clear hv hb ai ae ab aa;obtain⟨o,a,q,t,ks⟩:=p;rw[Zf.enc_mk] at e ev ⊢;refine cE ?_;simp +contextual -implicitDefEqProofs (maxSteps:=10^7) only[go_sem,seval,↓gZ,ZjJ,ev,e,rep_int,al,ad];refine LO (α:=Nat×List Int) (fun s=>[(20,.d (J (s.1:Int)))]) (fun s=>[(1,.row 1 (s.2.map YA) true false)]) (fun s=>s.1≤L.length∧s.2.length=kP.length∧(∀ v∈s.2,0≤v∧v≤s.1)∧Za2 s.2 (L.drop s.1)=Za2 (List.replicate kP.length 0) L) (fun s=>L.length-s.1) (0,List.replicate kP.length 0) ⟨by simp,by simp,fun w hw=>by rw[LL hw];omega,by simp⟩ ?_;intro⟨i,u⟩ ⟨hi,hul,huv,hp⟩ ih;simp only at hi hul huv hp
 by_cases ag:i<L.length
 ·obtain⟨x,hx⟩:=Zs ag;have hw:=Zj (k:=i) (by omega);obtain⟨n,hn,am⟩:=af x (Kc hx);rw[Zqb hx,hn] at hp;obtain⟨q',t',⟨X,Y,W,H⟩⟩:=x;simp only at hn;subst hn;have ah:n<u.length:=by omega
  obtain⟨z,hz⟩:=Zs ah;have ao:=huv z (Kc hz);have u1:=wi (z+1) (by omega) (by omega);rw[KB,hz] at hp;simp +contextual -implicitDefEqProofs (maxSteps:=10^7) only[go_sem,seval,↓gZ,hx,ag,hw,am,ah,hz,u1,Zok,hul];refine ih (i+1,u.set n (z+1)) _ ⟨by simp only;omega,by simpa using hul,fun v hv=>?_,hp⟩ (by simp only;omega) ?_
  ·simp only;rcases Lh hv with h1 | rfl
   ·have:=huv v h1;omega
   ·omega
  ·simp +contextual -implicitDefEqProofs (maxSteps:=10^7) only[go_sem,seval,↓gZ,List.headD_cons,Zok]
 ·have:i=L.length:=by omega
  subst this;rw[Ztw] at hp;simp +contextual -implicitDefEqProofs (maxSteps:=10^7) only[go_sem,seval,↓gZ,hp]
theorem Zfu:∀ (b:BT) (x y w h:Int),ZjF b=false↔plc b x y w h=[]
 | .waste,x,y,w,h=>by simp[ZjF,plc]
 | .pane i t,x,y,w,h=>by simp[ZjF,plc]
 | .cut d a l r,x,y,w,h=>by
  cases d
  ·simp only[ZjF,plc,L3,Ka,Kq,LU,Zfu l x y w a,Zfu r x (y+a) w (h-a)]
  ·simp only[ZjF,plc,L3,Km,LU,Zfu l x y a h,Zfu r (x+a) y (w-a) h]
theorem Zql:∀ (l:List L.Place) (u:List Int) (i:Nat) (v:Int),u[i]?=some v→∃ z,(Za2 u l)[i]?=some z∧v≤z
 | [],u,i,v,h=>⟨v,h,Int.le_refl _⟩
 | x :: l,u,i,v,h=>by
  rw[Za2];by_cases hi:x.Pane.toNat=i
  ·obtain⟨z,h1,h2⟩:=Zql l (u.set x.Pane.toNat (u[x.Pane.toNat]?.getD 0+1)) i (v+1) (by
    rw[hi,h,LB];have:=(Kb.1 h).1;simp[this])
   exact⟨z,h1,by omega⟩
  ·obtain⟨z,h1,h2⟩:=Zql l (u.set x.Pane.toNat (u[x.Pane.toNat]?.getD 0+1)) i v (by
    rw[List.getElem?_set_ne hi,h])
   exact⟨z,h1,h2⟩
theorem ZAq {l:List L.Place} {u:List Int} (hl:l≠[]) (hu:∀ v∈u,0≤v) (hn:∀ c∈l,∃ n:Nat,c.Pane=(n:Int)∧n<u.length):∃ v∈Za2 u l,v≠0:=by
 cases l with
 | nil=>exact absurd rfl hl
 | cons x l=>
  obtain⟨n,h1,h2⟩:=hn x (by simp);obtain⟨v,hv⟩:=Zs h2;have h0:=hu v (Kc hv);rw[Za2,h1,KB,hv];obtain⟨z,h3,h4⟩:=Zql l (u.set n (v+1)) n (v+1) (by rw[LB];simp[h2]);refine⟨z,Kc (by simpa using h3),by omega⟩
theorem ZAr {k:ZI} {p:Zf} (hv:VK k p=true) (hp:Zrx p=true):∃ v∈Zd8 k p,v≠0:=by
 obtain⟨b,hb,ae,af,ab,aa,ad⟩:=Xx hv;unfold Zrx at hp;rw[hb] at hp;simp only at hp;unfold Zd8;rw[ad,Wk];refine ZAq (fun h=>?_) (fun v hv=>by rw[LL hv];omega) (fun c hc=>?_)
 ·rw[(Zfu b _ _ _ _).2 h] at hp;cases hp
 ·obtain⟨n,h1,h2⟩:=Zdx aa c hc;exact⟨n,h1,by simpa using h2⟩
theorem Zyf {k:ZI} {p:Zf} (hv:VK k p=true):(((QI k p).filterMap XD).length=0)↔Zrx p=false:=by
 obtain⟨b,hb,ae,af,aa,ab,ad⟩:=Xx hv;unfold Zrx;rw[hb,ad,Wk,List.length_eq_zero_iff];exact(Zfu b _ _ _ _).symm
def cpV (S:List Zb) (O D:List Zc) (L C:Int):Option Zq→AV×List Zm
 | some t=>((.d (.bool true)),[.box [.own 4,.own 5,.own 6,(.d (J (t.Lost))),(.d (J (t.Came)))],.deep 4 4 (S.map Zb.enc) none,.row 5 (O.map Zc.enc) true false,.row 5 (D.map Zc.enc) true false,.row 4 (t.Stock.map Zb.enc) true false,.row 5 (t.Opn.map Zc.enc) true false,.row 5 (t.Done.map Zc.enc) true false])
 | none=>((.d (.bool false)),[.box [.own 1,.own 2,.own 3,(.d (J L)),(.d (J C))],.deep 4 4 (S.map Zb.enc) none,.row 5 (O.map Zc.enc) true false,.row 5 (D.map Zc.enc) true false])
theorem ZrC (sS:List Zb) (sO sD:List Zc) (sL sC:Int) (eK eL eX eY eW eH ah ai:Int) (aj:Bool) (ak eC eo ea ep:Int) (et:Bool) (ek:List Zf) (hv:ZS (Zq.mk sS sO sD sL sC)):Ze Xs Ms Zay [.ptr 0 0,(.d (.agg [J eK,J eL,J eX,J eY,J eW,J eH,J ah,J ai,.bool aj,J ak,J eC,J eo,J ea,J ep,.bool et,.sl (ek.map Zf.enc)]))] [.box [.own 1,.own 2,.own 3,(.d (J sL)),(.d (J sC))],.deep 4 4 (sS.map Zb.enc) none,.row 5 (sO.map Zc.enc) true false,.row 5 (sD.map Zc.enc) true false]=some (cpV sS sO sD sL sC (Zfq (Zq.mk sS sO sD sL sC) (Zl.mk eK eL (Box.mk eX eY eW eH) (Zc.mk (Pane.mk ah ai aj ak) eC) (Zf.mk eo ea ep et ek)))):=by
 obtain⟨⟨h1,h2,h3,h4⟩,h5,h6,h7,h8,h9⟩:=ZlX hv;simp only at h1 h2 h3 h4 h5 h6 h7 h8 h9;have hO:=hv.2.1;have hD:=hv.2.2.1;simp only at hO hD;have az:=hO.1;have a4:=hD.1;have e1:=ZuG sS sO sD sL sC eL;unfold ZBL at e1;rw[Kh hv] at e1;by_cases hf:Qy 0 sS eL<0
 ·have ec:Zfq (Zq.mk sS sO sD sL sC) (Zl.mk eK eL (Box.mk eX eY eW eH) (Zc.mk (Pane.mk ah ai aj ak) eC) (Zf.mk eo ea ep et ek))=none:=by
   unfold Zfq;simp only;split
   ·rfl
   ·rw[ZtA hf]
  rw[ec];simp only[Zfr hf] at e1;unfold wkV at e1;simp only at e1;unfold cpV;refine cE ?_;simp +contextual -implicitDefEqProofs (maxSteps:=10^7) only[go_sem,seval,↓gZ,UB,e1]
 ·obtain⟨a,x,ha,hx⟩:=ZbN (by omega:0≤Qy 0 sS eL);simp only[Zfs ha hx] at e1;unfold wkV at e1;simp only at e1;have e3:=Zrs sS eL x.W x.H (sO.map Zc.Pane) (.mk eo ea ep et ek) 5;have aw:Zfq (Zq.mk sS sO sD sL sC) (Zl.mk eK eL (Box.mk eX eY eW eH) (Zc.mk (Pane.mk ah ai aj ak) eC) (Zf.mk eo ea ep et ek))=match Zdu sS eL ⟨x.W,x.H,sO.map Zc.Pane⟩ (.mk eo ea ep et ek) 5 with
   | none=>none
   | some R=>if Zrx (.mk eo ea ep et ek)=true then
     match U3 (sO.map Zc.Pane) (Zd8 ⟨x.W,x.H,sO.map Zc.Pane⟩ (.mk eo ea ep et ek)) sO sD with
     | none=>none
     | some (o,d)=>some ⟨R,o,d,sL+X9 (Zfb ⟨x.W,x.H,sO.map Zc.Pane⟩ (.mk eo ea ep et ek) 5),sC⟩
    else none:=by
   unfold Zfq;simp only[ha,KB,hx];try rfl
  rw[aw];clear aw;obtain⟨xL,xW,xH,xF⟩:=x;simp only at e1 e3 ⊢;cases hcs:Zdu sS eL ⟨xW,xH,sO.map Zc.Pane⟩ (.mk eo ea ep et ek) 5 with
  | none=>
   rw[hcs] at e3;unfold ZgQ at e3;simp only;unfold cpV;rw[Zf.enc_mk] at e3;refine cE ?_;simp +contextual -implicitDefEqProofs (maxSteps:=10^7) only[go_sem,seval,↓gZ,UB,e1,e3]
  | some R=>
   obtain⟨ab,a5,_⟩:=Zqc hcs;rw[hcs] at e3;unfold ZgQ at e3;simp only;have e4:=Zew xW xH (sO.map Zc.Pane) (.mk eo ea ep et ek);have ad:=Zyf ab;have e5:=Zrq xW xH (sO.map Zc.Pane) (.mk eo ea ep et ek) 5 ab (by omega) (by omega);have e6:=ZwI xW xH (sO.map Zc.Pane) (.mk eo ea ep et ek) ab;have hu:=Zm0 ab;obtain⟨b,hb,a6,a7,aq,a0,a1⟩:=Xx ab;have a2:=Zhd (l:=Zfb ⟨xW,xH,sO.map Zc.Pane⟩ (.mk eo ea ep et ek) 5) (fun c hc=>by
    obtain⟨z,hz,al⟩:=Lm.1 hc;unfold JK at al;split at al
    ·cases al;exact Zfc ab c hz
    ·cases al)
   have a8:(Zfb ⟨xW,xH,sO.map Zc.Pane⟩ (.mk eo ea ep et ek) 5).length≤255:=by
    refine Kz (Kl _ _) (Kz (Kl _ _) ?_);rw[a1,Zab];exact aq
   have ax:=ZAr ab;generalize X9 (Zfb ⟨xW,xH,sO.map Zc.Pane⟩ (.mk eo ea ep et ek) 5)=A at e5 a2 ⊢;generalize Zd8 ⟨xW,xH,sO.map Zc.Pane⟩ (.mk eo ea ep et ek)=us at e6 hu ax ⊢;generalize (QI ⟨xW,xH,sO.map Zc.Pane⟩ (.mk eo ea ep et ek)).filterMap XD=pl at e4 ad;rw[Zf.enc_mk] at e3 e4 e5 e6;simp only[KP] at hu;have u1:=wi (sL+A) (by omega) (by omega);cases hhb:Zrx (.mk eo ea ep et ek) with
   | false=>
    have ar:((pl.length:Int)=0):=by have:=ad.2 hhb;omega
    rw[Ke (by simp)];unfold cpV;refine cE ?_;simp +contextual -implicitDefEqProofs (maxSteps:=10^7) only[go_sem,seval,↓gZ,UB,e1,e3,e4,ar]
   | true=>
    have ar:¬((pl.length:Int)=0):=fun h=>by
     have h1:pl.length=0:=by omega
     rw[ad.1 h1] at hhb;cases hhb
    obtain⟨vz,a3,au⟩:=ax hhb;rw[Kh rfl];refine cE ?_;simp +contextual -implicitDefEqProofs (maxSteps:=10^7) only[go_sem,seval,↓gZ,UB,e1,e3,e4,e6,ar];refine LO (α:=Nat) (fun s=>[(65,.d (J (s:Int)))]) (fun _=>[]) (fun i=>i≤us.length∧U3 ((sO.map Zc.Pane).drop i) (us.drop i) sO sD=U3 (sO.map Zc.Pane) us sO sD∧∀ v∈us.take i,v=0) (fun i=>us.length-i) 0 ⟨by omega,rfl,by simp⟩ ?_;intro i ⟨hi,hp,av⟩ ih;by_cases am:i<us.length
    ·obtain⟨c,hc⟩:=Zs am;have an:i<sO.length:=by omega
     obtain⟨y,hy⟩:=Zs an;have hw:=Zj (k:=i) (by omega);have ae:=hu.2 c (Kc hc);have af:(sO.map Zc.Pane)[i]?=some y.Pane:=by rw[KX,hy];rfl
     rw[ZjG af hc] at hp;obtain⟨⟨W,H,T,K⟩,C⟩:=y;simp only at hp af;by_cases aa:c=0
     ·rw[Kh aa] at hp;simp +contextual -implicitDefEqProofs (maxSteps:=10^7) only[go_sem,seval,↓gZ,am,an,hy,hc,aa,hw];refine ih (i+1) _ ⟨by omega,hp,fun v hv=>?_⟩ (by omega) ?_
      ·rw[KL,hc,Kg] at hv;rcases hv with hv | hv
       ·exact av v hv
       ·simp at hv;omega
      ·simp +contextual -implicitDefEqProofs (maxSteps:=10^7) only[go_sem,seval,↓gZ]
     ·rw[Ke aa] at hp;have et:=ZbB sO W H T K c (by omega) (ZkR hO) (fun x hx=>by have:=(QO hO x hx).2;unfold R64;omega);have ea:=ZcH sD W H T K c (by omega) (fun x hx=>by have:=(QO hD x hx).2;unfold R64;omega);unfold tkV at et;by_cases ag:Xq ⟨W,H,T,K⟩ c false sO=true
      ·rw[Kh ag] at hp et;simp +contextual -implicitDefEqProofs (maxSteps:=10^7) only[go_sem,seval,↓gZ,am,an,hy,hc,aa,hw,et,ea];refine Zh5 Xs Ms (st0:=?st1) (α:=Nat×List Zc×List Zc) (fun s=>[(65,.d (J (s.1:Int)))]) (fun s=>[(4,.row 5 (s.2.2.map Zc.enc) true false),(5,.row 5 (s.2.1.map Zc.enc) true false)]) (fun s=>s.1≤us.length∧U3 ((sO.map Zc.Pane).drop s.1) (us.drop s.1) s.2.1 s.2.2=U3 (sO.map Zc.Pane) us sO sD∧s.2.1.length≤8∧s.2.2.length≤8+s.1∧UL s.2.1∧UL s.2.2∧(∀ x∈s.2.1,0≤x.Count∧x.Count≤24)∧(∀ x∈s.2.2,0≤x.Count∧x.Count≤24+255*s.1)) (fun s=>us.length-s.1) (i+1,X4 sO ⟨W,H,T,K⟩ c,YS ⟨W,H,T,K⟩ c sD) ?hc2 ⟨by simp only;omega,hp,Kz (Kl _ _) az,Kz (Zdv _ _ _) (by simp only;omega),ZwG (ZkR hO),Zy9 (ZkR hD) (by omega),ZlY ae.1 (fun x hx=>(QO hO x hx).2.2),fun x hx=>by
        have:=ZkO (hi:=24) ae.1 (by omega) (fun x hx=>by have:=(QO hD x hx).2;omega) x hx;simp only;omega⟩ ?h02 ?step2
       case hc2=>simp +contextual -implicitDefEqProofs (maxSteps:=10^7) only[go_sem,seval,↓gZ]<;>exact rfl
       case h02=>rfl
       case step2=>
        intro⟨j,o,d⟩ ⟨hj,hp,ho8,hd8,uo,ud,hoc,hdc⟩ ih;simp only at hj hp ho8 hd8 uo ud hoc hdc;by_cases ao:j<us.length
        ·obtain⟨c,hc⟩:=Zs ao;have ap:j<sO.length:=by omega
         obtain⟨y,hy⟩:=Zs ap;have hw:=Zj (k:=j) (by omega);have ae:=hu.2 c (Kc hc);have af:(sO.map Zc.Pane)[j]?=some y.Pane:=by rw[KX,hy];rfl
         rw[ZjG af hc] at hp;obtain⟨⟨W,H,T,K⟩,C⟩:=y;simp only at hp af;by_cases aa:c=0
         ·rw[Kh aa] at hp;simp +contextual -implicitDefEqProofs (maxSteps:=10^7) only[go_sem,seval,↓gZ,ao,ap,hy,hc,aa,hw];refine ih (j+1,o,d) _ ⟨by simp only;omega,hp,ho8,by simp only;omega,uo,ud,hoc,fun x hx=>by have:=hdc x hx;simp only;omega⟩ (by simp only;omega) ?_;simp +contextual -implicitDefEqProofs (maxSteps:=10^7) only[go_sem,seval,↓gZ]
         ·rw[Ke aa] at hp;have et:=ZbB o W H T K c (by omega) uo (fun x hx=>by have:=hoc x hx;unfold R64;omega);have ea:=ZcH d W H T K c (by omega) (fun x hx=>by have:=hdc x hx;unfold R64;omega);unfold tkV at et;by_cases ag:Xq ⟨W,H,T,K⟩ c false o=true
          ·rw[Kh ag] at hp et;simp +contextual -implicitDefEqProofs (maxSteps:=10^7) only[go_sem,seval,↓gZ,ao,ap,hy,hc,aa,hw,et,ea];refine ih (j+1,X4 o ⟨W,H,T,K⟩ c,YS ⟨W,H,T,K⟩ c d) _ ⟨by simp only;omega,hp,Kz (Kl _ _) ho8,Kz (Zdv _ _ _) (by simp only;omega),ZwG uo,Zy9 ud (by omega),ZlY ae.1 (fun x hx=>(hoc x hx).2),fun x hx=>?_⟩ (by simp only;omega) ?_
           ·have:=ZkO ae.1 (by omega) hdc x hx;simp only;omega
           ·simp +contextual -implicitDefEqProofs (maxSteps:=10^7) only[go_sem,seval,↓gZ]
          ·rw[Ke ag] at hp et;simp +contextual -implicitDefEqProofs (maxSteps:=10^7) only[go_sem,seval,↓gZ,ao,ap,hy,hc,aa,hw,et];rw[← hp];rfl
        ·have:j=sO.length:=by omega
         subst this;have ay:=@Ztz (sO.map Zc.Pane) (us.drop sO.length) o d;rw[KP] at ay;rw[ay] at hp;rw[← hp];unfold cpV;simp +contextual -implicitDefEqProofs (maxSteps:=10^7) only[go_sem,seval,↓gZ,e5,u1]
      ·rw[Ke ag] at hp et;simp +contextual -implicitDefEqProofs (maxSteps:=10^7) only[go_sem,seval,↓gZ,am,an,hy,hc,aa,hw,et];rw[← hp];rfl
    ·have:us.take i=us:=KN (by omega);rw[this] at av;exact absurd (av vz a3) au
theorem ZtE {q x:Zb}:∀ {l:List Zb} {b:Int} {a:Nat},XC b l→l[a]?=some x→q.Label=x.Label→QC q (l.eraseIdx a)=l.set a q
 | [],b,a,_,h,_=>by simp at h
 | y :: l,b,0,hs,h,e=>by
  simp only[Lp,Option.some.injEq] at h;subst h;simp only[List.eraseIdx_cons_zero,List.set_cons_zero];cases l with
  | nil=>rfl
  | cons z l=>
   have:=hs.2.2.2.1;unfold QC;rw[Kh (by omega)]
 | y :: l,b,a+1,hs,h,e=>by
  simp only[Lq] at h;have ih:=ZtE hs.2.2 h e;have:=Zis hs.2.2 x (Kc h);simp only[List.eraseIdx_cons_succ,List.set_cons_succ];unfold QC;rw[Ke (by omega),ih]
theorem ZAs {s:Zq} {e:Zl} {a:Nat} {q:Zb} (hv:ZS s) (hk:e.kind=1) (ha:Qy 0 s.Stock e.label=(a:Int)) (hx:s.Stock[a]?=some q) :
  QW s e=Vd (some { s with Stock:=s.Stock.set a { q with Flaws:=q.Flaws++[e.box] } }):=by
 have h1:=ZtE (q := { q with Flaws:=q.Flaws++[e.box] }) hv.1.2 hx rfl;have h2:XC 0 (s.Stock.eraseIdx a):=Zhz a hv.1.2;unfold QW evS;rw[Ke (by omega),Kh hk];simp only[Zfs ha hx];by_cases hr:WS { q with Flaws:=q.Flaws++[e.box] } (s.Stock.eraseIdx a)
 ·rw[Kh hr,h1]
 ·rw[Ke hr];unfold Vd;simp only;rw[Ke];intro hs;refine hr ⟨⟨⟨?_,h2⟩,?_⟩,?_⟩
  ·have:=hv.1.1;rw[List.length_eraseIdx];split<;>omega
  ·exact Qr hs.1.2 _ (Kc (i:=a) (by rw[LB];simp[(Kb.1 hx).1]))
  ·rw[h1];exact hs.1
theorem Znr (sS:List Zb) (sO sD:List Zc) (sL sC:Int) (eK eL eX eY eW eH aa ab:Int) (ad:Bool) (ae eC eo ea ep:Int) (et:Bool) (ek:List Zf) (hv:ZS (Zq.mk sS sO sD sL sC)) (h0:eK=0) (ha:WS ⟨eL,eW,eH,[]⟩ sS) (hx:eX=0) (hy:eY=0):Ze Xs Ms ZF [.ptr 0 0,(.d (.agg [J eK,J eL,J eX,J eY,J eW,J eH,J aa,J ab,.bool ad,J ae,J eC,J eo,J ea,J ep,.bool et,.sl (ek.map Zf.enc)]))] [.box [.own 1,.own 2,.own 3,(.d (J sL)),(.d (J sC))],.deep 4 4 (sS.map Zb.enc) none,.row 5 (sO.map Zc.enc) true false,.row 5 (sD.map Zc.enc) true false]=some ((.d (.bool true)),[.box [.own 4,.own 2,.own 3,(.d (J sL)),(.d (J (sC+eW*eH)))],.deep 4 4 (sS.map Zb.enc) none,.row 5 (sO.map Zc.enc) true false,.row 5 (sD.map Zc.enc) true false,.row 4 ((QC ⟨eL,eW,eH,[]⟩ sS).map Zb.enc) true false]):=by
 have e1:=Zqk sS sO sD sL sC eK eL eX eY eW eH aa ab ad ae eC eo ea ep et ek hv ha hx hy;subst h0;generalize QC ⟨eL,eW,eH,[]⟩ sS=Q at *;refine cE ?_;simp +contextual -implicitDefEqProofs (maxSteps:=10^7) only[go_sem,seval,↓gZ,Z7,e1]
theorem Zns (sS:List Zb) (sO sD:List Zc) (sL sC:Int) (eK eL eX eY eW eH aa ab:Int) (ad:Bool) (ae eC eo ea ep:Int) (et:Bool) (ek:List Zf) (hv:ZS (Zq.mk sS sO sD sL sC)) (h0:eK=0) (hl:sS.length≤100000) (hn:¬((WS ⟨eL,eW,eH,[]⟩ sS∧eX=0)∧eY=0)):Ze Xs Ms ZF [.ptr 0 0,(.d (.agg [J eK,J eL,J eX,J eY,J eW,J eH,J aa,J ab,.bool ad,J ae,J eC,J eo,J ea,J ep,.bool et,.sl (ek.map Zf.enc)]))] [.box [.own 1,.own 2,.own 3,(.d (J sL)),(.d (J sC))],.deep 4 4 (sS.map Zb.enc) none,.row 5 (sO.map Zc.enc) true false,.row 5 (sD.map Zc.enc) true false]=some ((.d (.bool false)),[.box [.own 1,.own 2,.own 3,(.d (J sL)),(.d (J sC))],.deep 4 4 (sS.map Zb.enc) none,.row 5 (sO.map Zc.enc) true false,.row 5 (sD.map Zc.enc) true false]):=by
 have e1:=ZrA sS sO sD sL sC eK eL eX eY eW eH aa ab ad ae eC eo ea ep et ek hl hn;subst h0;refine cE ?_;simp +contextual -implicitDefEqProofs (maxSteps:=10^7) only[go_sem,seval,↓gZ,Z7,e1]
theorem Znt (sS:List Zb) (sO sD:List Zc) (sL sC:Int) (eK eL eX eY eW eH aa ab:Int) (ad:Bool) (ae eC eo ea ep:Int) (et:Bool) (ek:List Zf) (hv:ZS (Zq.mk sS sO sD sL sC)) (h0:eK=1) (hl:sS.length≤100000) (a:Nat) (ha:Qy 0 sS eL=(a:Int)) (xL xW xH:Int) (xF:List Box) (hx:sS[a]?=some (Zb.mk xL xW xH xF)) (hF:xF.length≤1000):Ze Xs Ms ZF [.ptr 0 0,(.d (.agg [J eK,J eL,J eX,J eY,J eW,J eH,J aa,J ab,.bool ad,J ae,J eC,J eo,J ea,J ep,.bool et,.sl (ek.map Zf.enc)]))] [.box [.own 1,.own 2,.own 3,(.d (J sL)),(.d (J sC))],.deep 4 4 (sS.map Zb.enc) none,.row 5 (sO.map Zc.enc) true false,.row 5 (sD.map Zc.enc) true false]=some ((.d (.bool true)),[.box [.own 1,.own 2,.own 3,(.d (J sL)),(.d (J sC))],.row 4 ((sS.set a ⟨xL,xW,xH,xF++[⟨eX,eY,eW,eH⟩]⟩).map Zb.enc) true false,.row 5 (sO.map Zc.enc) true false,.row 5 (sD.map Zc.enc) true false]):=by
 have e1:=ZrB sS sO sD sL sC eK eL eX eY eW eH aa ab ad ae eC eo ea ep et ek hl a ha xL xW xH xF hx hF;subst h0;generalize sS.set a ⟨xL,xW,xH,xF++[⟨eX,eY,eW,eH⟩]⟩=Q at *;refine cE ?_;simp +contextual -implicitDefEqProofs (maxSteps:=10^7) only[go_sem,seval,↓gZ,Z7,e1]
theorem Znu (sS:List Zb) (sO sD:List Zc) (sL sC:Int) (eK eL eX eY eW eH aa ab:Int) (ad:Bool) (ae eC eo ea ep:Int) (et:Bool) (ek:List Zf) (hv:ZS (Zq.mk sS sO sD sL sC)) (h0:eK=1) (hl:sS.length≤100000) (hn:Qy 0 sS eL<0):Ze Xs Ms ZF [.ptr 0 0,(.d (.agg [J eK,J eL,J eX,J eY,J eW,J eH,J aa,J ab,.bool ad,J ae,J eC,J eo,J ea,J ep,.bool et,.sl (ek.map Zf.enc)]))] [.box [.own 1,.own 2,.own 3,(.d (J sL)),(.d (J sC))],.deep 4 4 (sS.map Zb.enc) none,.row 5 (sO.map Zc.enc) true false,.row 5 (sD.map Zc.enc) true false]=some ((.d (.bool false)),[.box [.own 1,.own 2,.own 3,(.d (J sL)),(.d (J sC))],.deep 4 4 (sS.map Zb.enc) none,.row 5 (sO.map Zc.enc) true false,.row 5 (sD.map Zc.enc) true false]):=by
 have e1:=ZuH sS sO sD sL sC eK eL eX eY eW eH aa ab ad ae eC eo ea ep et ek hl hn;subst h0;refine cE ?_;simp +contextual -implicitDefEqProofs (maxSteps:=10^7) only[go_sem,seval,↓gZ,Z7,e1]
theorem Znv (sS:List Zb) (sO sD:List Zc) (sL sC:Int) (eK eL eX eY eW eH aa ab:Int) (ad:Bool) (ae eC eo ea ep:Int) (et:Bool) (ek:List Zf) (hv:ZS (Zq.mk sS sO sD sL sC)) (h0:eK=2) (hn:WO ⟨⟨aa,ab,ad,ae⟩,eC⟩):Ze Xs Ms ZF [.ptr 0 0,(.d (.agg [J eK,J eL,J eX,J eY,J eW,J eH,J aa,J ab,.bool ad,J ae,J eC,J eo,J ea,J ep,.bool et,.sl (ek.map Zf.enc)]))] [.box [.own 1,.own 2,.own 3,(.d (J sL)),(.d (J sC))],.deep 4 4 (sS.map Zb.enc) none,.row 5 (sO.map Zc.enc) true false,.row 5 (sD.map Zc.enc) true false]=some ((.d (.bool true)),[.box [.own 1,.own 4,.own 3,(.d (J sL)),(.d (J sC))],.deep 4 4 (sS.map Zb.enc) none,.row 5 (sO.map Zc.enc) true false,.row 5 (sD.map Zc.enc) true false,.row 5 ((YS ⟨aa,ab,ad,ae⟩ eC sO).map Zc.enc) true false]):=by
 have e1:=Zl4 sS sO sD sL sC eK eL eX eY eW eH aa ab ad ae eC eo ea ep et ek hv hn;subst h0;generalize YS ⟨aa,ab,ad,ae⟩ eC sO=Q at *;refine cE ?_;simp +contextual -implicitDefEqProofs (maxSteps:=10^7) only[go_sem,seval,↓gZ,Z7,e1]
theorem Znw (sS:List Zb) (sO sD:List Zc) (sL sC:Int) (eK eL eX eY eW eH aa ab:Int) (ad:Bool) (ae eC eo ea ep:Int) (et:Bool) (ek:List Zf) (hv:ZS (Zq.mk sS sO sD sL sC)) (h0:eK=2) (hn:¬WO ⟨⟨aa,ab,ad,ae⟩,eC⟩):Ze Xs Ms ZF [.ptr 0 0,(.d (.agg [J eK,J eL,J eX,J eY,J eW,J eH,J aa,J ab,.bool ad,J ae,J eC,J eo,J ea,J ep,.bool et,.sl (ek.map Zf.enc)]))] [.box [.own 1,.own 2,.own 3,(.d (J sL)),(.d (J sC))],.deep 4 4 (sS.map Zb.enc) none,.row 5 (sO.map Zc.enc) true false,.row 5 (sD.map Zc.enc) true false]=some ((.d (.bool false)),[.box [.own 1,.own 2,.own 3,(.d (J sL)),(.d (J sC))],.deep 4 4 (sS.map Zb.enc) none,.row 5 (sO.map Zc.enc) true false,.row 5 (sD.map Zc.enc) true false]):=by
 have e1:=Zno sS sO sD sL sC eK eL eX eY eW eH aa ab ad ae eC eo ea ep et ek hn;subst h0;refine cE ?_;simp +contextual -implicitDefEqProofs (maxSteps:=10^7) only[go_sem,seval,↓gZ,Z7,e1]
theorem Znx (sS:List Zb) (sO sD:List Zc) (sL sC:Int) (eK eL eX eY eW eH aa ab:Int) (ad:Bool) (ae eC eo ea ep:Int) (et:Bool) (ek:List Zf) (hv:ZS (Zq.mk sS sO sD sL sC)) (h0:eK=4) (hl:WO ⟨⟨aa,ab,ad,ae⟩,eC⟩) (hk:Xq ⟨aa,ab,ad,ae⟩ eC false sD=true):Ze Xs Ms ZF [.ptr 0 0,(.d (.agg [J eK,J eL,J eX,J eY,J eW,J eH,J aa,J ab,.bool ad,J ae,J eC,J eo,J ea,J ep,.bool et,.sl (ek.map Zf.enc)]))] [.box [.own 1,.own 2,.own 3,(.d (J sL)),(.d (J sC))],.deep 4 4 (sS.map Zb.enc) none,.row 5 (sO.map Zc.enc) true false,.row 5 (sD.map Zc.enc) true false]=some ((.d (.bool true)),[.box [.own 1,.own 4,.own 5,(.d (J (sL+eC*aa*ab))),(.d (J sC))],.deep 4 4 (sS.map Zb.enc) none,.row 5 (sO.map Zc.enc) true false,.row 5 (sD.map Zc.enc) true false,.row 5 ((YS ⟨aa,ab,ad,ae⟩ eC sO).map Zc.enc) true false,.row 5 ((X4 sD ⟨aa,ab,ad,ae⟩ eC).map Zc.enc) true false]):=by
 have e1:=Zl5 sS sO sD sL sC eK eL eX eY eW eH aa ab ad ae eC eo ea ep et ek hv hl hk;subst h0;generalize YS ⟨aa,ab,ad,ae⟩ eC sO=Q at *;generalize X4 sD ⟨aa,ab,ad,ae⟩ eC=Q2 at *;refine cE ?_;simp +contextual -implicitDefEqProofs (maxSteps:=10^7) only[go_sem,seval,↓gZ,Z7,e1]
theorem Zny (sS:List Zb) (sO sD:List Zc) (sL sC:Int) (eK eL eX eY eW eH aa ab:Int) (ad:Bool) (ae eC eo ea ep:Int) (et:Bool) (ek:List Zf) (hv:ZS (Zq.mk sS sO sD sL sC)) (h0:eK=4) (hn:¬(WO ⟨⟨aa,ab,ad,ae⟩,eC⟩∧Xq ⟨aa,ab,ad,ae⟩ eC false sD=true)):Ze Xs Ms ZF [.ptr 0 0,(.d (.agg [J eK,J eL,J eX,J eY,J eW,J eH,J aa,J ab,.bool ad,J ae,J eC,J eo,J ea,J ep,.bool et,.sl (ek.map Zf.enc)]))] [.box [.own 1,.own 2,.own 3,(.d (J sL)),(.d (J sC))],.deep 4 4 (sS.map Zb.enc) none,.row 5 (sO.map Zc.enc) true false,.row 5 (sD.map Zc.enc) true false]=some ((.d (.bool false)),[.box [.own 1,.own 2,.own 3,(.d (J sL)),(.d (J sC))],.deep 4 4 (sS.map Zb.enc) none,.row 5 (sO.map Zc.enc) true false,.row 5 (sD.map Zc.enc) true false]):=by
 have e1:=Znp sS sO sD sL sC eK eL eX eY eW eH aa ab ad ae eC eo ea ep et ek hv hn;subst h0;refine cE ?_;simp +contextual -implicitDefEqProofs (maxSteps:=10^7) only[go_sem,seval,↓gZ,Z7,e1]
theorem Znz (sS:List Zb) (sO sD:List Zc) (sL sC:Int) (eK eL eX eY eW eH aa ab:Int) (ad:Bool) (ae eC eo ea ep:Int) (et:Bool) (ek:List Zf) (hv:ZS (Zq.mk sS sO sD sL sC)) (h0:eK=5) (a:Nat) (ha:Qy 0 sS eL=(a:Int)) (xL xW xH:Int) (xF:List Box) (hx:sS[a]?=some (Zb.mk xL xW xH xF)):Ze Xs Ms ZF [.ptr 0 0,(.d (.agg [J eK,J eL,J eX,J eY,J eW,J eH,J aa,J ab,.bool ad,J ae,J eC,J eo,J ea,J ep,.bool et,.sl (ek.map Zf.enc)]))] [.box [.own 1,.own 2,.own 3,(.d (J sL)),(.d (J sC))],.deep 4 4 (sS.map Zb.enc) none,.row 5 (sO.map Zc.enc) true false,.row 5 (sD.map Zc.enc) true false]=some ((.d (.bool true)),[.box [.own 4,.own 2,.own 3,(.d (J (sL+xW*xH))),(.d (J sC))],.deep 4 4 (sS.map Zb.enc) none,.row 5 (sO.map Zc.enc) true false,.row 5 (sD.map Zc.enc) true false,.row 4 ((sS.eraseIdx a).map Zb.enc) true false]):=by
 have e1:=Zl6 sS sO sD sL sC eK eL eX eY eW eH aa ab ad ae eC eo ea ep et ek hv a ha xL xW xH xF hx;subst h0;generalize sS.eraseIdx a=Q at *;refine cE ?_;simp +contextual -implicitDefEqProofs (maxSteps:=10^7) only[go_sem,seval,↓gZ,Z7,e1]
theorem ZnA (sS:List Zb) (sO sD:List Zc) (sL sC:Int) (eK eL eX eY eW eH aa ab:Int) (ad:Bool) (ae eC eo ea ep:Int) (et:Bool) (ek:List Zf) (hv:ZS (Zq.mk sS sO sD sL sC)) (h0:eK=5) (hn:Qy 0 sS eL<0):Ze Xs Ms ZF [.ptr 0 0,(.d (.agg [J eK,J eL,J eX,J eY,J eW,J eH,J aa,J ab,.bool ad,J ae,J eC,J eo,J ea,J ep,.bool et,.sl (ek.map Zf.enc)]))] [.box [.own 1,.own 2,.own 3,(.d (J sL)),(.d (J sC))],.deep 4 4 (sS.map Zb.enc) none,.row 5 (sO.map Zc.enc) true false,.row 5 (sD.map Zc.enc) true false]=some ((.d (.bool false)),[.box [.own 1,.own 2,.own 3,(.d (J sL)),(.d (J sC))],.deep 4 4 (sS.map Zb.enc) none,.row 5 (sO.map Zc.enc) true false,.row 5 (sD.map Zc.enc) true false]):=by
 have e1:=Znq sS sO sD sL sC eK eL eX eY eW eH aa ab ad ae eC eo ea ep et ek hn;subst h0;refine cE ?_;simp +contextual -implicitDefEqProofs (maxSteps:=10^7) only[go_sem,seval,↓gZ,Z7,e1]
theorem Zqm (sS:List Zb) (sO sD:List Zc) (sL sC:Int) (eK eL eX eY eW eH aa ab:Int) (ad:Bool) (ae eC eo ea ep:Int) (et:Bool) (ek:List Zf) (hv:ZS (Zq.mk sS sO sD sL sC)) (h0:eK=3):Ze Xs Ms ZF [.ptr 0 0,(.d (.agg [J eK,J eL,J eX,J eY,J eW,J eH,J aa,J ab,.bool ad,J ae,J eC,J eo,J ea,J ep,.bool et,.sl (ek.map Zf.enc)]))] [.box [.own 1,.own 2,.own 3,(.d (J sL)),(.d (J sC))],.deep 4 4 (sS.map Zb.enc) none,.row 5 (sO.map Zc.enc) true false,.row 5 (sD.map Zc.enc) true false]=some (cpV sS sO sD sL sC (Zfq (Zq.mk sS sO sD sL sC) (Zl.mk eK eL (Box.mk eX eY eW eH) (Zc.mk (Pane.mk aa ab ad ae) eC) (Zf.mk eo ea ep et ek)))):=by
 have e1:=ZrC sS sO sD sL sC eK eL eX eY eW eH aa ab ad ae eC eo ea ep et ek hv;subst h0;generalize Zfq (Zq.mk sS sO sD sL sC) (Zl.mk 3 eL (Box.mk eX eY eW eH) (Zc.mk (Pane.mk aa ab ad ae) eC) (Zf.mk eo ea ep et ek))=t at *;cases t with
 | none=>
  unfold cpV at e1 ⊢;refine cE ?_;simp +contextual -implicitDefEqProofs (maxSteps:=10^7) only[go_sem,seval,↓gZ,Z7,e1]
 | some t=>
  unfold cpV at e1 ⊢;obtain⟨a,b,c,d,f⟩:=t;simp only at e1 ⊢;refine cE ?_;simp +contextual -implicitDefEqProofs (maxSteps:=10^7) only[go_sem,seval,↓gZ,Z7,e1]
theorem Zqn (sS:List Zb) (sO sD:List Zc) (sL sC:Int) (eK eL eX eY eW eH aa ab:Int) (ad:Bool) (ae eC eo ea ep:Int) (et:Bool) (ek:List Zf) (h0:¬eK=0) (h1:¬eK=1) (h2:¬eK=2) (h3:¬eK=3) (h4:¬eK=4) (h5:¬eK=5):Ze Xs Ms ZF [.ptr 0 0,(.d (.agg [J eK,J eL,J eX,J eY,J eW,J eH,J aa,J ab,.bool ad,J ae,J eC,J eo,J ea,J ep,.bool et,.sl (ek.map Zf.enc)]))] [.box [.own 1,.own 2,.own 3,(.d (J sL)),(.d (J sC))],.deep 4 4 (sS.map Zb.enc) none,.row 5 (sO.map Zc.enc) true false,.row 5 (sD.map Zc.enc) true false]=some ((.d (.bool false)),[.box [.own 1,.own 2,.own 3,(.d (J sL)),(.d (J sC))],.deep 4 4 (sS.map Zb.enc) none,.row 5 (sO.map Zc.enc) true false,.row 5 (sD.map Zc.enc) true false]):=by
 refine cE ?_;simp +contextual -implicitDefEqProofs (maxSteps:=10^7) only[go_sem,seval,↓gZ,Z7,h0,h1,h2,h3,h4,h5]
theorem Zl7 (sS:List Zb) (sO sD:List Zc) (sL sC:Int) (eK eL eX eY eW eH aa ab:Int) (ad:Bool) (ae eC eo ea ep:Int) (et:Bool) (ek:List Zf) (hv:¬ZS (Zq.mk sS sO sD sL sC)):Ze Xs Ms Qt [(.d (.agg [.sl (sS.map Zb.enc),.sl (sO.map Zc.enc),.sl (sD.map Zc.enc),J sL,J sC])),(.d (.agg [J eK,J eL,J eX,J eY,J eW,J eH,J aa,J ab,.bool ad,J ae,J eC,J eo,J ea,J ep,.bool et,.sl (ek.map Zf.enc)]))] []=some (shV none):=by
 have e1:=Qk sS sO sD sL sC;rw[Kk hv] at e1;unfold shV;refine cE ?_;simp +contextual -implicitDefEqProofs (maxSteps:=10^7) only[go_sem,seval,↓gZ,Qb,e1]
theorem X7 (sS:List Zb) (sO sD:List Zc) (sL sC:Int) (eK eL eX eY eW eH aa ab:Int) (ad:Bool) (ae eC eo ea ep:Int) (et:Bool) (ek:List Zf) (hv:ZS (Zq.mk sS sO sD sL sC)) (hc:Ze Xs Ms ZF [.ptr 0 0,(.d (.agg [J eK,J eL,J eX,J eY,J eW,J eH,J aa,J ab,.bool ad,J ae,J eC,J eo,J ea,J ep,.bool et,.sl (ek.map Zf.enc)]))] [.box [.own 1,.own 2,.own 3,(.d (J sL)),(.d (J sC))],.deep 4 4 (sS.map Zb.enc) none,.row 5 (sO.map Zc.enc) true false,.row 5 (sD.map Zc.enc) true false]=some ((.d (.bool false)),[.box [.own 1,.own 2,.own 3,(.d (J sL)),(.d (J sC))],.deep 4 4 (sS.map Zb.enc) none,.row 5 (sO.map Zc.enc) true false,.row 5 (sD.map Zc.enc) true false])):Ze Xs Ms Qt [(.d (.agg [.sl (sS.map Zb.enc),.sl (sO.map Zc.enc),.sl (sD.map Zc.enc),J sL,J sC])),(.d (.agg [J eK,J eL,J eX,J eY,J eW,J eH,J aa,J ab,.bool ad,J ae,J eC,J eo,J ea,J ep,.bool et,.sl (ek.map Zf.enc)]))] []=some (shV none):=by
 have e1:=Qk sS sO sD sL sC;rw[Ki hv] at e1;have e2:=Wo sS sO sD sL sC (Zdw hv);unfold shV;refine cE ?_;simp +contextual -implicitDefEqProofs (maxSteps:=10^7) only[go_sem,seval,↓gZ,Qb,e1,e2,hc]
theorem ZgN (sS:List Zb) (sO sD:List Zc) (sL sC:Int) (eK eL eX eY eW eH ab ad:Int) (ae:Bool) (af eC eo ea ep:Int) (et:Bool) (ek:List Zf) (hv:ZS (Zq.mk sS sO sD sL sC)) (tS:List Zb) (tO tD:List Zc) (tL tC:Int) (hc:Ze Xs Ms ZF [.ptr 0 0,(.d (.agg [J eK,J eL,J eX,J eY,J eW,J eH,J ab,J ad,.bool ae,J af,J eC,J eo,J ea,J ep,.bool et,.sl (ek.map Zf.enc)]))] [.box [.own 1,.own 2,.own 3,(.d (J sL)),(.d (J sC))],.deep 4 4 (sS.map Zb.enc) none,.row 5 (sO.map Zc.enc) true false,.row 5 (sD.map Zc.enc) true false]=some ((.d (.bool true)),[.box [.own 4,.own 2,.own 3,(.d (J tL)),(.d (J tC))],.deep 4 4 (sS.map Zb.enc) none,.row 5 (sO.map Zc.enc) true false,.row 5 (sD.map Zc.enc) true false,.row 4 (tS.map Zb.enc) true false])):Ze Xs Ms Qt [(.d (.agg [.sl (sS.map Zb.enc),.sl (sO.map Zc.enc),.sl (sD.map Zc.enc),J sL,J sC])),(.d (.agg [J eK,J eL,J eX,J eY,J eW,J eH,J ab,J ad,.bool ae,J af,J eC,J eo,J ea,J ep,.bool et,.sl (ek.map Zf.enc)]))] []=some (shV (Vd (some ⟨tS,sO,sD,tL,tC⟩))):=by
 have e1:=Qk sS sO sD sL sC;rw[Ki hv] at e1;have e2:=Wo sS sO sD sL sC (Zdw hv);have e3:=Qk tS sO sD tL tC;unfold Vd;by_cases aa:ZS ⟨tS,sO,sD,tL,tC⟩
 ·rw[Ki aa] at e3;simp only[Kh aa];unfold shV;refine cE ?_;simp +contextual -implicitDefEqProofs (maxSteps:=10^7) only[go_sem,seval,↓gZ,Qb,e1,e2,hc,e3]
 ·rw[Kk aa] at e3;simp only[Ke aa];unfold shV;refine cE ?_;simp +contextual -implicitDefEqProofs (maxSteps:=10^7) only[go_sem,seval,↓gZ,Qb,e1,e2,hc,e3]
theorem ZnB (sS:List Zb) (sO sD:List Zc) (sL sC:Int) (eK eL eX eY eW eH ab ad:Int) (ae:Bool) (af eC eo ea ep:Int) (et:Bool) (ek:List Zf) (hv:ZS (Zq.mk sS sO sD sL sC)) (tS:List Zb) (tO tD:List Zc) (tL tC:Int) (hc:Ze Xs Ms ZF [.ptr 0 0,(.d (.agg [J eK,J eL,J eX,J eY,J eW,J eH,J ab,J ad,.bool ae,J af,J eC,J eo,J ea,J ep,.bool et,.sl (ek.map Zf.enc)]))] [.box [.own 1,.own 2,.own 3,(.d (J sL)),(.d (J sC))],.deep 4 4 (sS.map Zb.enc) none,.row 5 (sO.map Zc.enc) true false,.row 5 (sD.map Zc.enc) true false]=some ((.d (.bool true)),[.box [.own 1,.own 2,.own 3,(.d (J tL)),(.d (J tC))],.row 4 (tS.map Zb.enc) true false,.row 5 (sO.map Zc.enc) true false,.row 5 (sD.map Zc.enc) true false])):Ze Xs Ms Qt [(.d (.agg [.sl (sS.map Zb.enc),.sl (sO.map Zc.enc),.sl (sD.map Zc.enc),J sL,J sC])),(.d (.agg [J eK,J eL,J eX,J eY,J eW,J eH,J ab,J ad,.bool ae,J af,J eC,J eo,J ea,J ep,.bool et,.sl (ek.map Zf.enc)]))] []=some (shV (Vd (some ⟨tS,sO,sD,tL,tC⟩))):=by
 have e1:=Qk sS sO sD sL sC;rw[Ki hv] at e1;have e2:=Wo sS sO sD sL sC (Zdw hv);have e3:=Qk tS sO sD tL tC;unfold Vd;by_cases aa:ZS ⟨tS,sO,sD,tL,tC⟩
 ·rw[Ki aa] at e3;simp only[Kh aa];unfold shV;refine cE ?_;simp +contextual -implicitDefEqProofs (maxSteps:=10^7) only[go_sem,seval,↓gZ,Qb,e1,e2,hc,e3]
 ·rw[Kk aa] at e3;simp only[Ke aa];unfold shV;refine cE ?_;simp +contextual -implicitDefEqProofs (maxSteps:=10^7) only[go_sem,seval,↓gZ,Qb,e1,e2,hc,e3]
theorem ZnC (sS:List Zb) (sO sD:List Zc) (sL sC:Int) (eK eL eX eY eW eH ab ad:Int) (ae:Bool) (af eC eo ea ep:Int) (et:Bool) (ek:List Zf) (hv:ZS (Zq.mk sS sO sD sL sC)) (tS:List Zb) (tO tD:List Zc) (tL tC:Int) (hc:Ze Xs Ms ZF [.ptr 0 0,(.d (.agg [J eK,J eL,J eX,J eY,J eW,J eH,J ab,J ad,.bool ae,J af,J eC,J eo,J ea,J ep,.bool et,.sl (ek.map Zf.enc)]))] [.box [.own 1,.own 2,.own 3,(.d (J sL)),(.d (J sC))],.deep 4 4 (sS.map Zb.enc) none,.row 5 (sO.map Zc.enc) true false,.row 5 (sD.map Zc.enc) true false]=some ((.d (.bool true)),[.box [.own 1,.own 4,.own 3,(.d (J tL)),(.d (J tC))],.deep 4 4 (sS.map Zb.enc) none,.row 5 (sO.map Zc.enc) true false,.row 5 (sD.map Zc.enc) true false,.row 5 (tO.map Zc.enc) true false])):Ze Xs Ms Qt [(.d (.agg [.sl (sS.map Zb.enc),.sl (sO.map Zc.enc),.sl (sD.map Zc.enc),J sL,J sC])),(.d (.agg [J eK,J eL,J eX,J eY,J eW,J eH,J ab,J ad,.bool ae,J af,J eC,J eo,J ea,J ep,.bool et,.sl (ek.map Zf.enc)]))] []=some (shV (Vd (some ⟨sS,tO,sD,tL,tC⟩))):=by
 have e1:=Qk sS sO sD sL sC;rw[Ki hv] at e1;have e2:=Wo sS sO sD sL sC (Zdw hv);have e3:=Qk sS tO sD tL tC;unfold Vd;by_cases aa:ZS ⟨sS,tO,sD,tL,tC⟩
 ·rw[Ki aa] at e3;simp only[Kh aa];unfold shV;refine cE ?_;simp +contextual -implicitDefEqProofs (maxSteps:=10^7) only[go_sem,seval,↓gZ,Qb,e1,e2,hc,e3]
 ·rw[Kk aa] at e3;simp only[Ke aa];unfold shV;refine cE ?_;simp +contextual -implicitDefEqProofs (maxSteps:=10^7) only[go_sem,seval,↓gZ,Qb,e1,e2,hc,e3]
theorem ZnD (sS:List Zb) (sO sD:List Zc) (sL sC:Int) (eK eL eX eY eW eH ab ad:Int) (ae:Bool) (af eC eo ea ep:Int) (et:Bool) (ek:List Zf) (hv:ZS (Zq.mk sS sO sD sL sC)) (tS:List Zb) (tO tD:List Zc) (tL tC:Int) (hc:Ze Xs Ms ZF [.ptr 0 0,(.d (.agg [J eK,J eL,J eX,J eY,J eW,J eH,J ab,J ad,.bool ae,J af,J eC,J eo,J ea,J ep,.bool et,.sl (ek.map Zf.enc)]))] [.box [.own 1,.own 2,.own 3,(.d (J sL)),(.d (J sC))],.deep 4 4 (sS.map Zb.enc) none,.row 5 (sO.map Zc.enc) true false,.row 5 (sD.map Zc.enc) true false]=some ((.d (.bool true)),[.box [.own 1,.own 4,.own 5,(.d (J tL)),(.d (J tC))],.deep 4 4 (sS.map Zb.enc) none,.row 5 (sO.map Zc.enc) true false,.row 5 (sD.map Zc.enc) true false,.row 5 (tO.map Zc.enc) true false,.row 5 (tD.map Zc.enc) true false])):Ze Xs Ms Qt [(.d (.agg [.sl (sS.map Zb.enc),.sl (sO.map Zc.enc),.sl (sD.map Zc.enc),J sL,J sC])),(.d (.agg [J eK,J eL,J eX,J eY,J eW,J eH,J ab,J ad,.bool ae,J af,J eC,J eo,J ea,J ep,.bool et,.sl (ek.map Zf.enc)]))] []=some (shV (Vd (some ⟨sS,tO,tD,tL,tC⟩))):=by
 have e1:=Qk sS sO sD sL sC;rw[Ki hv] at e1;have e2:=Wo sS sO sD sL sC (Zdw hv);have e3:=Qk sS tO tD tL tC;unfold Vd;by_cases aa:ZS ⟨sS,tO,tD,tL,tC⟩
 ·rw[Ki aa] at e3;simp only[Kh aa];unfold shV;refine cE ?_;simp +contextual -implicitDefEqProofs (maxSteps:=10^7) only[go_sem,seval,↓gZ,Qb,e1,e2,hc,e3]
 ·rw[Kk aa] at e3;simp only[Ke aa];unfold shV;refine cE ?_;simp +contextual -implicitDefEqProofs (maxSteps:=10^7) only[go_sem,seval,↓gZ,Qb,e1,e2,hc,e3]
theorem ZnE (sS:List Zb) (sO sD:List Zc) (sL sC:Int) (eK eL eX eY eW eH ab ad:Int) (ae:Bool) (af eC eo ea ep:Int) (et:Bool) (ek:List Zf) (hv:ZS (Zq.mk sS sO sD sL sC)) (tS:List Zb) (tO tD:List Zc) (tL tC:Int) (hc:Ze Xs Ms ZF [.ptr 0 0,(.d (.agg [J eK,J eL,J eX,J eY,J eW,J eH,J ab,J ad,.bool ae,J af,J eC,J eo,J ea,J ep,.bool et,.sl (ek.map Zf.enc)]))] [.box [.own 1,.own 2,.own 3,(.d (J sL)),(.d (J sC))],.deep 4 4 (sS.map Zb.enc) none,.row 5 (sO.map Zc.enc) true false,.row 5 (sD.map Zc.enc) true false]=some ((.d (.bool true)),[.box [.own 4,.own 5,.own 6,(.d (J tL)),(.d (J tC))],.deep 4 4 (sS.map Zb.enc) none,.row 5 (sO.map Zc.enc) true false,.row 5 (sD.map Zc.enc) true false,.row 4 (tS.map Zb.enc) true false,.row 5 (tO.map Zc.enc) true false,.row 5 (tD.map Zc.enc) true false])):Ze Xs Ms Qt [(.d (.agg [.sl (sS.map Zb.enc),.sl (sO.map Zc.enc),.sl (sD.map Zc.enc),J sL,J sC])),(.d (.agg [J eK,J eL,J eX,J eY,J eW,J eH,J ab,J ad,.bool ae,J af,J eC,J eo,J ea,J ep,.bool et,.sl (ek.map Zf.enc)]))] []=some (shV (Vd (some ⟨tS,tO,tD,tL,tC⟩))):=by
 have e1:=Qk sS sO sD sL sC;rw[Ki hv] at e1;have e2:=Wo sS sO sD sL sC (Zdw hv);have e3:=Qk tS tO tD tL tC;unfold Vd;by_cases aa:ZS ⟨tS,tO,tD,tL,tC⟩
 ·rw[Ki aa] at e3;simp only[Kh aa];unfold shV;refine cE ?_;simp +contextual -implicitDefEqProofs (maxSteps:=10^7) only[go_sem,seval,↓gZ,Qb,e1,e2,hc,e3]
 ·rw[Kk aa] at e3;simp only[Ke aa];unfold shV;refine cE ?_;simp +contextual -implicitDefEqProofs (maxSteps:=10^7) only[go_sem,seval,↓gZ,Qb,e1,e2,hc,e3]
theorem ZnF (sS:List Zb) (sO sD:List Zc) (sL sC:Int) (eK eL eX eY eW eH aa ab:Int) (ad:Bool) (ae eC eo ea ep:Int) (et:Bool) (ek:List Zf):Ze Xs Ms Qt [(.d (.agg [.sl (sS.map Zb.enc),.sl (sO.map Zc.enc),.sl (sD.map Zc.enc),J sL,J sC])),(.d (.agg [J eK,J eL,J eX,J eY,J eW,J eH,J aa,J ab,.bool ad,J ae,J eC,J eo,J ea,J ep,.bool et,.sl (ek.map Zf.enc)]))] []=some (shV (if ZS (Zq.mk sS sO sD sL sC) then QW (Zq.mk sS sO sD sL sC) (Zl.mk eK eL (Box.mk eX eY eW eH) (Zc.mk (Pane.mk aa ab ad ae) eC) (Zf.mk eo ea ep et ek)) else none)):=by
 by_cases hv:ZS (Zq.mk sS sO sD sL sC)
 ·rw[Kh hv];have af:sS.length≤100000:=by have:=hv.1.1;simp only at this;omega
  by_cases k0:eK=0
  ·by_cases hr:(WS ⟨eL,eW,eH,[]⟩ sS∧eX=0)∧eY=0
   ·have ee:QW (Zq.mk sS sO sD sL sC) (Zl.mk eK eL (Box.mk eX eY eW eH) (Zc.mk (Pane.mk aa ab ad ae) eC) (Zf.mk eo ea ep et ek))=Vd (some (Zq.mk (QC ⟨eL,eW,eH,[]⟩ sS) sO sD sL (sC+eW*eH))):=by unfold QW evS;simp only[k0,hr,Km,and_self]
    rw[ee];exact ZgN sS sO sD sL sC eK eL eX eY eW eH aa ab ad ae eC eo ea ep et ek hv _ sO sD _ _ (Znr sS sO sD sL sC eK eL eX eY eW eH aa ab ad ae eC eo ea ep et ek hv k0 hr.1.1 hr.1.2 hr.2)
   ·have ee:QW (Zq.mk sS sO sD sL sC) (Zl.mk eK eL (Box.mk eX eY eW eH) (Zc.mk (Pane.mk aa ab ad ae) eC) (Zf.mk eo ea ep et ek))=none:=by unfold QW evS;simp only[k0,Km];rw[Ke hr];rfl
    rw[ee];exact X7 sS sO sD sL sC eK eL eX eY eW eH aa ab ad ae eC eo ea ep et ek hv (Zns sS sO sD sL sC eK eL eX eY eW eH aa ab ad ae eC eo ea ep et ek hv k0 af hr)
  ·by_cases k1:eK=1
   ·by_cases hf:Qy 0 sS eL<0
    ·have ee:QW (Zq.mk sS sO sD sL sC) (Zl.mk eK eL (Box.mk eX eY eW eH) (Zc.mk (Pane.mk aa ab ad ae) eC) (Zf.mk eo ea ep et ek))=none:=by unfold QW evS;simp[k1,Zfr hf,Vd]
     rw[ee];exact X7 sS sO sD sL sC eK eL eX eY eW eH aa ab ad ae eC eo ea ep et ek hv (Znu sS sO sD sL sC eK eL eX eY eW eH aa ab ad ae eC eo ea ep et ek hv k1 af hf)
    ·obtain⟨a,x,ha,hx⟩:=ZbN (by omega:0≤Qy 0 sS eL);have ag:=(Qr hv.1.2 x (Kc hx)).1;obtain⟨xL,xW,xH,xF⟩:=x;simp only at ag;rw[ZAs hv k1 ha hx];exact ZnB sS sO sD sL sC eK eL eX eY eW eH aa ab ad ae eC eo ea ep et ek hv _ sO sD _ _ (Znt sS sO sD sL sC eK eL eX eY eW eH aa ab ad ae eC eo ea ep et ek hv k1 af a ha xL xW xH xF hx (by omega))
   ·by_cases k5:eK=5
    ·by_cases hf:Qy 0 sS eL<0
     ·have ee:QW (Zq.mk sS sO sD sL sC) (Zl.mk eK eL (Box.mk eX eY eW eH) (Zc.mk (Pane.mk aa ab ad ae) eC) (Zf.mk eo ea ep et ek))=none:=by unfold QW evS;simp[k5,Zfr hf,Vd]
      rw[ee];exact X7 sS sO sD sL sC eK eL eX eY eW eH aa ab ad ae eC eo ea ep et ek hv (ZnA sS sO sD sL sC eK eL eX eY eW eH aa ab ad ae eC eo ea ep et ek hv k5 hf)
     ·obtain⟨a,x,ha,hx⟩:=ZbN (by omega:0≤Qy 0 sS eL);obtain⟨xL,xW,xH,xF⟩:=x;have ee:QW (Zq.mk sS sO sD sL sC) (Zl.mk eK eL (Box.mk eX eY eW eH) (Zc.mk (Pane.mk aa ab ad ae) eC) (Zf.mk eo ea ep et ek))=Vd (some (Zq.mk (sS.eraseIdx a) sO sD (sL+xW*xH) sC)):=by unfold QW evS;simp[k5,Zfs ha hx]
      rw[ee];exact ZgN sS sO sD sL sC eK eL eX eY eW eH aa ab ad ae eC eo ea ep et ek hv _ sO sD _ _ (Znz sS sO sD sL sC eK eL eX eY eW eH aa ab ad ae eC eo ea ep et ek hv k5 a ha xL xW xH xF hx)
    ·by_cases k2:eK=2
     ·by_cases hl:WO ⟨⟨aa,ab,ad,ae⟩,eC⟩
      ·have ee:QW (Zq.mk sS sO sD sL sC) (Zl.mk eK eL (Box.mk eX eY eW eH) (Zc.mk (Pane.mk aa ab ad ae) eC) (Zf.mk eo ea ep et ek))=Vd (some (Zq.mk sS (YS ⟨aa,ab,ad,ae⟩ eC sO) sD sL sC)):=by unfold QW evS;simp[k2,hl]
       rw[ee];exact ZnC sS sO sD sL sC eK eL eX eY eW eH aa ab ad ae eC eo ea ep et ek hv sS _ sD _ _ (Znv sS sO sD sL sC eK eL eX eY eW eH aa ab ad ae eC eo ea ep et ek hv k2 hl)
      ·have ee:QW (Zq.mk sS sO sD sL sC) (Zl.mk eK eL (Box.mk eX eY eW eH) (Zc.mk (Pane.mk aa ab ad ae) eC) (Zf.mk eo ea ep et ek))=none:=by unfold QW evS;simp[k2,hl,Vd]
       rw[ee];exact X7 sS sO sD sL sC eK eL eX eY eW eH aa ab ad ae eC eo ea ep et ek hv (Znw sS sO sD sL sC eK eL eX eY eW eH aa ab ad ae eC eo ea ep et ek hv k2 hl)
     ·by_cases k4:eK=4
      ·by_cases hl:WO ⟨⟨aa,ab,ad,ae⟩,eC⟩∧Xq ⟨aa,ab,ad,ae⟩ eC false sD=true
       ·have ee:QW (Zq.mk sS sO sD sL sC) (Zl.mk eK eL (Box.mk eX eY eW eH) (Zc.mk (Pane.mk aa ab ad ae) eC) (Zf.mk eo ea ep et ek))=Vd (some (Zq.mk sS (YS ⟨aa,ab,ad,ae⟩ eC sO) (X4 sD ⟨aa,ab,ad,ae⟩ eC) (sL+eC*aa*ab) sC)):=by unfold QW evS;simp[k4,hl]
        rw[ee];exact ZnD sS sO sD sL sC eK eL eX eY eW eH aa ab ad ae eC eo ea ep et ek hv sS _ _ _ _ (Znx sS sO sD sL sC eK eL eX eY eW eH aa ab ad ae eC eo ea ep et ek hv k4 hl.1 hl.2)
       ·have ee:QW (Zq.mk sS sO sD sL sC) (Zl.mk eK eL (Box.mk eX eY eW eH) (Zc.mk (Pane.mk aa ab ad ae) eC) (Zf.mk eo ea ep et ek))=none:=by unfold QW evS;simp only[k4];simp[hl,Vd]
        rw[ee];exact X7 sS sO sD sL sC eK eL eX eY eW eH aa ab ad ae eC eo ea ep et ek hv (Zny sS sO sD sL sC eK eL eX eY eW eH aa ab ad ae eC eo ea ep et ek hv k4 hl)
      ·by_cases k3:eK=3
       ·have hc:=Zqm sS sO sD sL sC eK eL eX eY eW eH aa ab ad ae eC eo ea ep et ek hv k3;have ee:QW (Zq.mk sS sO sD sL sC) (Zl.mk eK eL (Box.mk eX eY eW eH) (Zc.mk (Pane.mk aa ab ad ae) eC) (Zf.mk eo ea ep et ek))=Vd (Zfq (Zq.mk sS sO sD sL sC) (Zl.mk eK eL (Box.mk eX eY eW eH) (Zc.mk (Pane.mk aa ab ad ae) eC) (Zf.mk eo ea ep et ek))):=by unfold QW evS;simp[k3]
        rw[ee];generalize Zfq (Zq.mk sS sO sD sL sC) (Zl.mk eK eL (Box.mk eX eY eW eH) (Zc.mk (Pane.mk aa ab ad ae) eC) (Zf.mk eo ea ep et ek))=t at hc;cases t with
        | none=>exact X7 sS sO sD sL sC eK eL eX eY eW eH aa ab ad ae eC eo ea ep et ek hv hc
        | some t=>
         obtain⟨a,b,c,d,f⟩:=t;exact ZnE sS sO sD sL sC eK eL eX eY eW eH aa ab ad ae eC eo ea ep et ek hv a b c d f hc
       ·have ee:QW (Zq.mk sS sO sD sL sC) (Zl.mk eK eL (Box.mk eX eY eW eH) (Zc.mk (Pane.mk aa ab ad ae) eC) (Zf.mk eo ea ep et ek))=none:=by unfold QW evS;simp[k0,k1,k2,k3,k4,k5,Vd]
        rw[ee];exact X7 sS sO sD sL sC eK eL eX eY eW eH aa ab ad ae eC eo ea ep et ek hv (Zqn sS sO sD sL sC eK eL eX eY eW eH aa ab ad ae eC eo ea ep et ek k0 k1 k2 k3 k4 k5)
 ·rw[Ke hv];exact Zl7 sS sO sD sL sC eK eL eX eY eW eH aa ab ad ae eC eo ea ep et ek hv
end Go.Proofs.YtcefneehgbiebaaGreatDoor
