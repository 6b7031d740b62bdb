/- Own text. -/
import Derived.Test.YtdhgppkldoopaaaGreatACode
import Derived.Test.YtdhgppkldoopaaaGreatAbsParts
import Derived.Test.YtdhgppkldoopaaaGreatAC6
import Derived.Test.YtdhgppkldoopaaaGreatAbsOkD
namespace Go.Proofs.YtdhgppkldoopaaaGreat
open Go Go.Abs Go.Abs.E Go.Abs.L
open Nat (reduceMul reduceSub reduceLeDiff reduceEqDiff)
open Int (reduceLE reduceEq reduceToNat reduceNeg)
set_option linter.unusedSimpArgs false
set_option linter.unusedVariables false
set_option maxRecDepth 20000
set_option maxHeartbeats 4000000
def UL (l:List Zc):Prop:=(l.map Zc.Pane).Nodup∧∀ x∈l,1≤x.Count
theorem Zox:∀ {l:List Zc} {q:List Pane},ZiT q l→(l.map Zc.Pane).Nodup∧∀ p∈l.map Zc.Pane,p∉q
 | [],_,_=>by simp
 | x :: l,q,h=>by
  obtain⟨h1,h2,h3,h4,h5⟩:=h;obtain⟨a,b⟩:=Zox h5;refine⟨?_,?_⟩
  ·rw[Kp,KU];exact⟨fun hm=>b _ hm (by simp),a⟩
  ·intro p hp;rw[Kp,Kf] at hp;rcases hp with rfl | hp
   ·exact h2
   ·exact fun hq=>b p hp (by simp[hq])
theorem Zj1 {l:List Zc} (h:JM l):UL l:=⟨(Zox h.2.1).1,fun x hx=>(Xq h x hx).2.1⟩
theorem Zlq:∀ {l:List Zc} {k:Nat} {p:Pane},0≤VC k l p→∃ a x,VC k l p=((k+a:Nat):Int)∧l[a]?=some x∧x.Pane=p∧p∉(l.take a).map Zc.Pane
 | [],k,p,h=>by simp[VC] at h
 | x :: l,k,p,h=>by
  unfold VC at h ⊢;split
  ·rename_i e;exact⟨0,x,by simp,by simp,e,by simp⟩
  ·rename_i e;rw[Kj e] at h;obtain⟨a,y,h1,h2,h3,h4⟩:=Zlq h;refine⟨a+1,y,by rw[h1];congr 1;omega,by simpa using h2,h3,?_⟩;simp only[LR,Kp,Kf,not_or];exact⟨fun e'=>e e'.symm,h4⟩
theorem Zoy:∀ {l:List Zc} {k:Nat} {p:Pane},VC k l p<0→p∉l.map Zc.Pane
 | [],k,p,h=>by simp
 | x :: l,k,p,h=>by
  unfold VC at h;split at h
  ·omega
  ·rename_i e;simp only[Kp,Kf,not_or];exact⟨fun e'=>e e'.symm,Zoy h⟩
theorem Zlr {p:Pane} {c:Int}:∀ {l:List Zc} {b:Bool},p∉l.map Zc.Pane→Q3 p c b l=b
 | [],b,_=>rfl
 | x :: l,b,h=>by
  simp only[Kp,Kf,not_or] at h;rw[Q3,Kj (fun e=>h.1 e.symm),Zlr h.2]
theorem ZtD {p:Pane} {c:Int}:∀ {l:List Zc},p∉l.map Zc.Pane→(∀ x∈l,1≤x.Count)→Xz l p c=l
 | [],_,_=>rfl
 | x :: l,h,hc=>by
  simp only[Kp,Kf,not_or] at h;have h0:=hc x (by simp);have ih:=ZtD (p:=p) (c:=c) h.2 (fun y hy=>hc y (by simp[hy]));unfold Xz at ih ⊢;rw[Lh,ZfN,Kj (fun e=>h.1 e.symm),Kl (by omega),ih]
theorem ZtE {p:Pane} {c:Int}:∀ {l:List Zc} {a:Nat} {x:Zc},UL l→l[a]?=some x→x.Pane=p→Q3 p c false l=decide (0≤x.Count-c)∧Xz l p c=if 0<x.Count-c then l.set a ⟨p,x.Count-c⟩ else l.eraseIdx a
 | [],a,x,_,h,_=>by simp at h
 | y :: l,0,x,hu,h,e=>by
  simp only[Lc,Option.some.injEq] at h;subst h;obtain⟨h1,h2⟩:=hu;rw[Kp,KU,e] at h1;have hl:=ZtD (p:=p) (c:=c) h1.1 (fun z hz=>h2 z (by simp[hz]));refine⟨by rw[Q3,Kl e,Zlr h1.1],?_⟩;unfold Xz at hl ⊢;rw[Lh,ZfN,Kl e];by_cases hc:0<y.Count-c
  ·rw[Kl hc,Kl hc,hl,e];rfl
  ·rw[Kj hc,Kj hc,hl];rfl
 | y :: l,a+1,x,hu,h,e=>by
  simp only[KS] at h;obtain⟨h1,h2⟩:=hu;rw[Kp,KU] at h1;have aa:y.Pane≠p:=fun e'=>h1.1 (by rw[e',← e];exact Kaj (Kb h));obtain⟨i1,i2⟩:=ZtE (p:=p) (c:=c) (l:=l) ⟨h1.2,fun z hz=>h2 z (by simp[hz])⟩ h e;refine⟨by rw[Q3,Kj aa,i1],?_⟩;have h0:=h2 y (by simp);unfold Xz at i2 ⊢;rw[Lh,ZfN,Kj aa,Kl (by omega),i2];by_cases hc:0<x.Count-c
  ·rw[Kl hc,Kl hc];rfl
  ·rw[Kj hc,Kj hc];rfl
theorem ZtF {l:List Zc} {p:Pane} {c:Int} (h:UL l):UL (Xz l p c):=by
 have hs:∀ (l:List Zc),((Xz l p c).map Zc.Pane).Sublist (l.map Zc.Pane):=by
  intro l
  induction l with
  | nil=>simp[Xz]
  | cons x l ih=>
   unfold Xz at ih ⊢;rw[Lh];unfold ZfN at ih ⊢;split
   ·exact ih.trans (by simp)
   ·rename_i y hy;split at hy
    ·split at hy
     ·cases hy;simpa using ih
     ·cases hy
    ·split at hy
     ·cases hy;simpa using ih
     ·cases hy
 refine⟨List.Nodup.sublist (hs l) h.1,fun y hy=>?_⟩;obtain⟨x,hx,e⟩:=Lu.1 hy;have:=h.2 x hx;unfold ZfN at e;split at e
 ·split at e
  ·cases e;simp only;omega
  ·cases e
 ·split at e
  ·cases e;omega
  ·cases e
theorem Zoz (p:Pane) (c:Int):∀ (l:List Zc),(Yb p c l).map Zc.Pane=if p∈l.map Zc.Pane then l.map Zc.Pane else l.map Zc.Pane++[p]
 | []=>by simp[Yb]
 | x :: l=>by
  unfold Yb;by_cases e:x.Pane=p
  ·simp[e]
  ·have ih:=Zoz p c l;have e' : ¬p=x.Pane:=fun h=>e h.symm;simp only[Kj e,Kp,Kf,e',false_or,ih];split<;>simp
theorem Zwb {l:List Zc} {p:Pane} {c:Int} (h:UL l) (hc:1≤c):UL (Yb p c l):=by
 refine⟨?_,?_⟩
 ·rw[Zoz];split
  ·exact h.1
  ·rename_i hn;refine LL.2 ⟨h.1,by simp,fun a ha b hb=>?_⟩;simp only[KL] at hb;subst hb;exact fun e=>hn (e ▸ ha)
 ·have aa:∀ (l:List Zc),(∀ x∈l,1≤x.Count)→∀ x∈Yb p c l,1≤x.Count:=by
   intro l
   induction l with
   | nil=>intro _ x hx;simp[Yb] at hx;subst hx;exact hc
   | cons y l ih=>
    intro h x hx;have hy:=h y (by simp);unfold Yb at hx;split at hx
    ·rcases Kf.1 hx with rfl | hx
     ·simp only;omega
     ·exact h x (by simp[hx])
    ·rcases Kf.1 hx with rfl | hx
     ·exact hy
     ·exact ih (fun z hz=>h z (by simp[hz])) x hx
  exact aa l h.2
theorem Zhf : ∀ {l:List Zb} {b:Int},Xy b l→∀ x∈l,b<x.Label
 | [],_,_,x,hx=>by simp at hx
 | y :: l,b,h,x,hx=>by
  rcases Kf.1 hx with rfl | hx
  ·exact h.2.1
  ·have:=Zhf h.2.2 x hx;have:=h.2.1;omega
theorem ZoA (q:Zb):∀ (l:List Zb),q∈Qq q l
 | []=>by simp[Qq]
 | x :: l=>by
  unfold Qq;split
  ·simp
  ·exact Kr _ (ZoA q l)
theorem Zmm {q:Zb} (hq:VPc q):∀ {l:List Zb} {b:Int},Xy b l→b<q.Label→(Xy b (Qq q l)↔q.Label∉l.map Zb.Label)
 | [],b,h,hb=>by simp[Qq,Xy,hq,hb]
 | x :: l,b,h,hb=>by
  obtain⟨h1,h2,h3⟩:=h;unfold Qq;by_cases aa:q.Label<x.Label
  ·rw[Kl aa];refine⟨fun _ hm=>?_,fun _=>⟨hq,hb,h1,aa,h3⟩⟩;rw[Kp,Kf] at hm;rcases hm with hm | hm
   ·omega
   ·obtain⟨y,hy,e⟩:=Lk.1 hm;have:=Zhf h3 y hy;omega
  ·rw[Kj aa];by_cases he:x.Label=q.Label
   ·constructor
    ·intro hs;have:=Zhf hs.2.2 q (ZoA q l);omega
    ·intro hn;exact absurd (by simp[he]) hn
   ·have ih:=Zmm hq h3 (by omega:x.Label<q.Label);rw[Kp,Kf,not_or,Xy,ih];exact⟨fun h=>⟨fun e=>he e.symm,h.2.2⟩,fun h=>⟨h1,h2,h.2⟩⟩
theorem ZtG:∀ {l:List Zb} {k:Nat} {n:Int},Qu k l n<0↔n∉l.map Zb.Label
 | [],k,n=>by simp[Qu]
 | x :: l,k,n=>by
  unfold Qu;have ih:=ZtG (l:=l) (k:=k+1) (n:=n);by_cases he:x.Label=n
  ·rw[Kl he];simp only[Kp,Kf,he,true_or,not_true,iff_false];omega
  ·rw[Kj he,ih,Kp,Kf,not_or];exact⟨fun h=>⟨fun e=>he e.symm,h⟩,fun h=>h.2⟩
theorem Zya {q:Zb} {l:List Zb} (h1:VSt l) (h2:VPc q):Va q l↔l.length≠20∧Qu 0 l q.Label<0:=by
 have h3:=Zmm h2 h1.2 (by have:=h2.1.1;omega:0<q.Label);have h4:=h1.1;unfold Va;rw[ZtG,← h3];simp only[VSt,Zln];constructor
 ·rintro ⟨_,a,b⟩;exact⟨by omega,b⟩
 ·rintro ⟨a,b⟩;exact⟨⟨⟨h4,h1.2⟩,h2⟩,by omega,b⟩
theorem ZhR (l:List Zb) (qL qW qH:Int) (qF:List Box) (hl:l.length≤100000):Zf Xs Ms UY [(.d (.sl (l.map Zb.enc))),(.d (.agg [J qL,J qW,J qH,.sl (qF.map Box.enc)]))] [] =
  some (.tup [.own 0,(.d (.bool (decide (Va (Zb.mk qL qW qH qF) l))))],[if Va (Zb.mk qL qW qH qF) l then .tree 4 4 ((Qq (Zb.mk qL qW qH qF) l).map Zb.enc) none else .row 4 [] true false]):=by
 have e1:=Y8 l;have e2:=Q0 qL qW qH qF;have e3:=YE l qL (by omega);by_cases v1:VSt l
 ·rw[Kg v1] at e1;by_cases v2:VPc (Zb.mk qL qW qH qF)
  ·rw[Kg v2] at e2;have hA:=Zya v1 v2;simp only at hA;have hF:=(Zdp v1).2;have ah:qF.length≤1048576:=by have:=v2.1.2.2.2.2.2.2;simp only at this;omega
   by_cases v3:l.length=20
   ·have h:¬Va (Zb.mk qL qW qH qF) l:=fun h=>(hA.1 h).1 v3;have ab : ((l.length:Int)=20):=by omega
    rw[Kh h,Kj h];refine cE ?_;simp +contextual -implicitDefEqProofs (maxSteps:=10^7) only[go_sem,seval,↓gZ,Y2,e1,e2,ab]
   ·have ab : ¬((l.length:Int)=20):=by omega
    by_cases v4:Qu 0 l qL<0
    ·have h:Va (Zb.mk qL qW qH qF) l:=hA.2 ⟨v3,v4⟩;have aa : ¬(0≤Qu 0 l qL):=by omega
     have eq:=UI qL qW qH qF ah;rw[Kg h,Kl h];generalize Qu 0 l qL=fl at e3 aa;have aj:=v1.1;refine cE ?_;simp +contextual -implicitDefEqProofs (maxSteps:=10^7) only[go_sem,seval,↓gZ,Y2,e1,e2,ab,e3,aa];refine LO (α:=Nat×Bool×List Zb) (fun s=>[(32,.d (J (s.1:Int))),(7,.d (.bool s.2.1))]) (fun s=>[(0,.tree 4 4 (s.2.2.map Zb.enc) none)]) (fun s=>s.1≤l.length∧s.2.2++(if s.2.1 then l.drop s.1 else Qq (Zb.mk qL qW qH qF) (l.drop s.1))=Qq (Zb.mk qL qW qH qF) l∧s.2.2.length≤s.1+s.2.1.toNat) (fun s=>l.length-s.1) (0,false,[]) ⟨by simp,by simp,by simp⟩ ?_;intro⟨i,b,o⟩ ⟨hi,hp,ho⟩ ih;simp only at hi hp ho
     have hb:=Bool.toNat_le b;by_cases ad:i<l.length
     ·obtain⟨x,hx⟩:=Zr ad;have hw:=Zj (k:=i) (by omega);have hr:(o.length+1)*48≤140737488355328∧o.length≤140737488355327:=by omega
      have ae:∀ n:Nat,n=o.length+1→(n+1)*48≤140737488355328∧n≤140737488355327:=fun n hn=>by omega
      have ae:=ae _ rfl;have ai:o.length≤140737488355326:=by omega
      have e:=UI x.Label x.W x.H x.Flaws (hF x (Kb hx));rw[Zor hx] at hp;have hd:l.drop i=x :: l.drop (i+1):=by
       obtain⟨h1,h2⟩:=Ka.1 hx;rw[Kw h1,h2]
      obtain⟨L,W,H,F⟩:=x;simp only at e hp;have af:=Zbl F;have ag:=Zbl qF;cases b with
      | true=>
       simp only[Bool.toNat_true] at ho;rw[Kl rfl] at hp;simp +contextual -implicitDefEqProofs (maxSteps:=10^7) only[go_sem,seval,↓gZ,hx,ad,hw,e,hr,af];refine ih (i+1,true,o++[⟨L,W,H,F⟩]) _ ⟨by simp only;omega,?_,by simp;omega⟩ (by simp only;omega) ?_
       ·rw[← hp,hd];simp
       ·simp +contextual -implicitDefEqProofs (maxSteps:=10^7) only[go_sem,seval,↓gZ];try (simp[Zb.enc];done)
      | false=>
       simp only[Bool.toNat_false] at ho;rw[Kj (by simp)] at hp;by_cases hc:qL<L
       ·rw[Kl hc] at hp;simp +contextual -implicitDefEqProofs (maxSteps:=10^7) only[go_sem,seval,↓gZ,hx,ad,hw,e,eq,hc,hr,ae,ai,af,ag];refine ih (i+1,true,o++[(Zb.mk qL qW qH qF),⟨L,W,H,F⟩]) _ ⟨by simp only;omega,?_,by simp;omega⟩ (by simp only;omega) ?_
        ·rw[← hp,hd];simp
        ·simp +contextual -implicitDefEqProofs (maxSteps:=10^7) only[go_sem,seval,↓gZ];try (simp[Zb.enc];done)
       ·rw[Kj hc] at hp;simp +contextual -implicitDefEqProofs (maxSteps:=10^7) only[go_sem,seval,↓gZ,hx,ad,hw,e,hc,hr,af];refine ih (i+1,false,o++[⟨L,W,H,F⟩]) _ ⟨by simp only;omega,?_,by simp;omega⟩ (by simp only;omega) ?_
        ·rw[← hp];simp
        ·simp +contextual -implicitDefEqProofs (maxSteps:=10^7) only[go_sem,seval,↓gZ];try (simp[Zb.enc];done)
     ·have:i=l.length:=by omega
      subst this;have hr:(o.length+1)*48≤140737488355328∧o.length≤140737488355327:=by omega
      cases b with
      | true=>
       simp at hp;simp +contextual -implicitDefEqProofs (maxSteps:=10^7) only[go_sem,seval,↓gZ];rw[hp]
      | false=>
       simp[Qq] at hp;have ag:=Zbl qF;simp +contextual -implicitDefEqProofs (maxSteps:=10^7) only[go_sem,seval,↓gZ,eq,hr,ag];rw[← hp];try (simp[Zb.enc];done)
    ·have h:¬Va (Zb.mk qL qW qH qF) l:=fun h=>v4 (hA.1 h).2;have aa : 0≤Qu 0 l qL:=by omega
     rw[Kh h,Kj h];generalize Qu 0 l qL=fl at e3 aa;refine cE ?_;simp +contextual -implicitDefEqProofs (maxSteps:=10^7) only[go_sem,seval,↓gZ,Y2,e1,e2,ab,e3,aa]
  ·rw[Kh v2] at e2;have h:¬Va (Zb.mk qL qW qH qF) l:=fun h=>v2 h.1.2;rw[Kh h,Kj h];refine cE ?_;simp +contextual -implicitDefEqProofs (maxSteps:=10^7) only[go_sem,seval,↓gZ,Y2,e1,e2]
 ·rw[Kh v1] at e1;have h:¬Va (Zb.mk qL qW qH qF) l:=fun h=>v1 h.1.1;rw[Kh h,Kj h];refine cE ?_;simp +contextual -implicitDefEqProofs (maxSteps:=10^7) only[go_sem,seval,↓gZ,Y2,e1]
theorem Zff (l:List Zc) (hl:l.length≤1048576):Zf Xs Ms Xb [(.d (.sl (l.map Zc.enc)))] []=some (.own 0,[.row 5 (l.map Zc.enc) true false]):=by
 refine ZpU Xs Ms Zlw ?_;unfold ZoW;simp only;rw[Kl ⟨by rw[Zui];trivial,by rw[Zrx];trivial,by simp[ZI];omega,by simp[ZI];omega⟩]
theorem ZhS {α β:Type} (f:α→β):∀ (l:List α) (i:Nat),(l.map f).eraseIdx i=(l.eraseIdx i).map f
 | [],_=>rfl
 | _ :: _,0=>rfl
 | x :: l,i+1=>by simp[ZhS f l i]
theorem Zls (l:List Zc) (i:Nat) (hi:i<l.length):Zf Xs Ms ZP [.own 0,(.d (J i)),(.d (J ((i:Int)+1)))] [.row 5 (l.map Zc.enc) true false]=some (.own 1,[.gone,.row 5 ((l.eraseIdx i).map Zc.enc) true false]):=by
 refine ZpU Xs Ms Zj2 ?_;unfold ZkA;simp only;rw[Kl ⟨rfl,by omega,rfl,by simp;omega,by rw[Zui];trivial,by rw[Zrx];trivial,rfl,rfl⟩,Le,ZhS]
theorem ZaT (l:List Zc) (xW xH:Int) (xT:Bool) (xK xC:Int) (hl:l.length≤1048576) (hc:∀ y∈l,R64 (y.Count+xC)):Zf Xs Ms V0 [(.d (.sl (l.map Zc.enc))),(.d (.agg [J xW,J xH,.bool xT,J xK,J xC]))] []=some (.own 0,[.row 5 ((Yb ⟨xW,xH,xT,xK⟩ xC l).map Zc.enc) true false]):=by
 have e1:=Zff l hl;have e2:=ZcG l xW xH xT xK (by omega);have hr:(l.length+1)*40≤140737488355328∧l.length≤140737488355327:=by omega
 by_cases hf:VC 0 l ⟨xW,xH,xT,xK⟩<0
 ·have hn:¬0≤VC 0 l ⟨xW,xH,xT,xK⟩:=by omega
  rw[Zsk _ _ _ (Zoy hf)];refine cE ?_;simp +contextual -implicitDefEqProofs (maxSteps:=10^7) only[go_sem,seval,↓gZ,Zcl,e1,e2,hn,hr];try (simp[Zc.enc];done)
 ·obtain⟨a,x,h1,h2,h3,h4⟩:=Zlq (by omega:0≤VC 0 l ⟨xW,xH,xT,xK⟩);rw[L0] at h1;rw[h1] at e2;rw[Zsj _ _ _ a x h2 h3 h4];have aa:=hc x (Kb h2);obtain⟨⟨W,H,T,K⟩,C⟩:=x;simp only[Pane.mk.injEq] at h3 aa;obtain⟨rfl,rfl,rfl,rfl⟩:=h3;have u0:=wi (C+xC) aa.1 aa.2;have ab:=(Ka.1 h2).1;have ha:(0:Int)≤(a:Int):=by omega
  refine cE ?_;simp +contextual -implicitDefEqProofs (maxSteps:=10^7) only[go_sem,seval,↓gZ,Zcl,e1,e2,ha,h2,ab,u0];try (simp[Zc.enc,LJ];done)
def tkV (l:List Zc) (p:Pane) (c:Int):AV×List Zn:=
 if Q3 p c false l=true then (.tup [.own 0,(.d (.bool true))],[.row 5 ((Xz l p c).map Zc.enc) true false]) else (.tup [.own 0,(.d (.bool false))],[.row 5 [] true false])
theorem Zaa (l:List Zc) (xW xH:Int) (xT:Bool) (xK xC:Int) (hl:l.length≤1048576) (hu:UL l) (hc:∀ y∈l,R64 (y.Count-xC)):Zf Xs Ms Wn [(.d (.sl (l.map Zc.enc))),(.d (.agg [J xW,J xH,.bool xT,J xK,J xC]))] []=some (tkV l ⟨xW,xH,xT,xK⟩ xC):=by
 have e1:=Zff l hl;have e2:=ZcG l xW xH xT xK (by omega);by_cases hf:VC 0 l ⟨xW,xH,xT,xK⟩<0
 ·have hn:=Zlr (c:=xC) (b:=false) (Zoy hf);have ek:tkV l ⟨xW,xH,xT,xK⟩ xC=(.tup [.own 0,(.d (.bool false))],[.row 5 [] true false]):=by unfold tkV;rw[hn,Kj (by simp)]
  rw[ek];refine cE ?_;simp +contextual -implicitDefEqProofs (maxSteps:=10^7) only[go_sem,seval,↓gZ,Ww,e1,e2,hf]
 ·obtain⟨a,x,h1,h2,h3,h4⟩:=Zlq (by omega:0≤VC 0 l ⟨xW,xH,xT,xK⟩);rw[L0] at h1;rw[h1] at e2;obtain⟨k1,k2⟩:=ZtE (c:=xC) hu h2 h3;have ad:=hc x (Kb h2);obtain⟨⟨W,H,T,K⟩,C⟩:=x;simp only[Pane.mk.injEq] at h3 ad k1 k2;obtain⟨rfl,rfl,rfl,rfl⟩:=h3;have u0:=wi (C-xC) ad.1 ad.2;have ab:=(Ka.1 h2).1;have ha:¬(a:Int)<0:=by omega
  have hw:=Zj (k:=a) (by omega);have e3:=Zls (l.set a ⟨⟨W,H,T,K⟩,0⟩) a (by simpa using ab);by_cases ae:C<xC
  ·have hx:¬0≤C-xC:=by omega
   have ek:tkV l ⟨W,H,T,K⟩ xC=(.tup [.own 0,(.d (.bool false))],[.row 5 [] true false]):=by unfold tkV;rw[k1,Kh hx,Kj (by simp)]
   rw[ek];refine cE ?_;simp +contextual -implicitDefEqProofs (maxSteps:=10^7) only[go_sem,seval,↓gZ,Ww,e1,e2,ha,h2,ab,ae]
  ·have hx:0≤C-xC:=by omega
   by_cases hz:C-xC=0
   ·have ek:tkV l ⟨W,H,T,K⟩ xC=(.tup [.own 0,(.d (.bool true))],[.row 5 ((l.eraseIdx a).map Zc.enc) true false]):=by unfold tkV;rw[k1,Kg hx,Kl rfl,k2,Kj (by omega)]
    rw[ek];have es:(l.set a ⟨⟨W,H,T,K⟩,0⟩).eraseIdx a=l.eraseIdx a:=by simp[List.eraseIdx_set_eq]
    rw[es,LJ] at e3;simp only[Zc.enc] at e3;have aa:((a:Int)+1)=((a+1:Nat):Int):=by omega
    rw[aa] at e3;rw[hz] at u0;refine cE ?_;simp +contextual -implicitDefEqProofs (maxSteps:=10^7) only[go_sem,seval,↓gZ,Ww,e1,e2,ha,h2,ab,ae,hz,u0,hw,e3,LJ,LD,LF]
   ·have ek:tkV l ⟨W,H,T,K⟩ xC=(.tup [.own 0,(.d (.bool true))],[.row 5 ((l.set a ⟨⟨W,H,T,K⟩,C-xC⟩).map Zc.enc) true false]):=by unfold tkV;rw[k1,Kg hx,Kl rfl,k2,Kl (by omega)]
    rw[ek];refine cE ?_;simp +contextual -implicitDefEqProofs (maxSteps:=10^7) only[go_sem,seval,↓gZ,Ww,e1,e2,ha,h2,ab,ae,hz,u0,LJ,LD,LF]
theorem Vh (sS:List Zb) (sO sD:List Zc) (sL sC:Int) (h:Ub (Zs.mk sS sO sD sL sC)):Zf Xs Ms UQ [(.d (.agg [.sl (sS.map Zb.enc),.sl (sO.map Zc.enc),.sl (sD.map Zc.enc),J sL,J sC]))] []=some (.agg [.own 0,.own 1,.own 2,(.d (J sL)),(.d (J sC))],[.tree 4 4 (sS.map Zb.enc) none,.row 5 (sO.map Zc.enc) true false,.row 5 (sD.map Zc.enc) true false]):=by
 obtain⟨h1,h2,h3,h4⟩:=h;simp only at h1 h2 h3 h4;have e1:=Zbm sS (by omega) (fun x hx=>by have:=(h2 x hx).1;omega);have r1:sO.length*40≤140737488355328∧sO.length≤140737488355328:=by omega
 have r2:sD.length*40≤140737488355328∧sD.length≤140737488355328:=by omega
 refine cE ?_;simp +contextual -implicitDefEqProofs (maxSteps:=10^7) only[go_sem,seval,↓gZ,Zd9,e1,r1,r2]
theorem W5 (xW xH:Int) (xT:Bool) (xK xC:Int):Zf Xs Ms YL [(.d (.agg [J xW,J xH,.bool xT,J xK,J xC]))] []=some ((.d (.bool (decide (VD ⟨⟨xW,xH,xT,xK⟩,xC⟩)))),[]):=by
 have e1:=Zbh xW xH xT xK;refine cE ?_;by_cases v1:VP ⟨xW,xH,xT,xK⟩
 ·rw[Kg v1] at e1;by_cases v2:1≤xC
  ·by_cases v3:xC≤24
   ·have h:VD ⟨⟨xW,xH,xT,xK⟩,xC⟩:=⟨v1,v2,v3⟩
    simp +contextual -implicitDefEqProofs (maxSteps:=10^7) only[go_sem,seval,↓gZ,YN,e1,v2,v3,h]
   ·have h:¬VD ⟨⟨xW,xH,xT,xK⟩,xC⟩:=fun h=>v3 h.2.2;simp +contextual -implicitDefEqProofs (maxSteps:=10^7) only[go_sem,seval,↓gZ,YN,e1,v2,v3,h]
  ·have h:¬VD ⟨⟨xW,xH,xT,xK⟩,xC⟩:=fun h=>v2 h.2.1;simp +contextual -implicitDefEqProofs (maxSteps:=10^7) only[go_sem,seval,↓gZ,YN,e1,v2,h]
 ·rw[Kh v1] at e1;have h:¬VD ⟨⟨xW,xH,xT,xK⟩,xC⟩:=fun h=>v1 h.1;simp +contextual -implicitDefEqProofs (maxSteps:=10^7) only[go_sem,seval,↓gZ,YN,e1,h]
theorem ZqD (sS:List Zb) (sO sD:List Zc) (sL sC:Int) (eK eL eX eY eW eH aa ab:Int) (ad:Bool) (ae eC eo ea ep:Int) (et:Bool) (ek:List Zd) (hl:sS.length≤100000) (hn:¬((Va ⟨eL,eW,eH,[]⟩ sS∧eX=0)∧eY=0)):Zf Xs Ms Wk [.ptr 0 0,(.d (.agg [J eK,J eL,J eX,J eY,J eW,J eH,J aa,J ab,.bool ad,J ae,J eC,J eo,J ea,J ep,.bool et,.sl (ek.map Zd.enc)]))] [.box [.own 1,.own 2,.own 3,(.d (J sL)),(.d (J sC))],.tree 4 4 (sS.map Zb.enc) none,.row 5 (sO.map Zc.enc) true false,.row 5 (sD.map Zc.enc) true false]=some ((.d (.bool false)),[.box [.own 1,.own 2,.own 3,(.d (J sL)),(.d (J sC))],.tree 4 4 (sS.map Zb.enc) none,.row 5 (sO.map Zc.enc) true false,.row 5 (sD.map Zc.enc) true false]):=by
 by_cases hx:eX=0
 ·by_cases hy:eY=0
  ·have ha:¬Va ⟨eL,eW,eH,[]⟩ sS:=fun h=>hn ⟨⟨h,hx⟩,hy⟩;have e1:=ZhR sS eL eW eH [] hl;rw[Kh ha,Kj ha] at e1;simp only[KX] at e1;refine cE ?_;simp +contextual -implicitDefEqProofs (maxSteps:=10^7) only[go_sem,seval,↓gZ,Wt,hx,hy,e1]
  ·refine cE ?_;simp +contextual -implicitDefEqProofs (maxSteps:=10^7) only[go_sem,seval,↓gZ,Wt,hx,hy]
 ·refine cE ?_;simp +contextual -implicitDefEqProofs (maxSteps:=10^7) only[go_sem,seval,↓gZ,Wt,hx]
theorem ZoB (sS:List Zb) (sO sD:List Zc) (sL sC:Int) (eK eL eX eY eW eH aa ab:Int) (ad:Bool) (ae eC eo ea ep:Int) (et:Bool) (ek:List Zd) (hv:ZM (Zs.mk sS sO sD sL sC)) (ha:Va ⟨eL,eW,eH,[]⟩ sS) (hx:eX=0) (hy:eY=0):Zf Xs Ms Wk [.ptr 0 0,(.d (.agg [J eK,J eL,J eX,J eY,J eW,J eH,J aa,J ab,.bool ad,J ae,J eC,J eo,J ea,J ep,.bool et,.sl (ek.map Zd.enc)]))] [.box [.own 1,.own 2,.own 3,(.d (J sL)),(.d (J sC))],.tree 4 4 (sS.map Zb.enc) none,.row 5 (sO.map Zc.enc) true false,.row 5 (sD.map Zc.enc) true false] =
  some ((.d (.bool true)),[.box [.own 4,.own 2,.own 3,(.d (J sL)),(.d (J (sC+eW*eH)))],.tree 4 4 (sS.map Zb.enc) none,.row 5 (sO.map Zc.enc) true false,.row 5 (sD.map Zc.enc) true false,.tree 4 4 ((Qq ⟨eL,eW,eH,[]⟩ sS).map Zb.enc) none]):=by
 have af:=hv.1.1;simp only at af;have e1:=ZhR sS eL eW eH [] (by omega);rw[Kg ha,Kl ha] at e1;simp only[KX] at e1;have hp:=ha.1.2.1;simp only at hp;subst hx hy;have hb:VB ⟨0,0,eW,eH⟩:=by simp only[VB];omega
 have e2:=ZjV 0 0 eW eH hb;have h3:=Zhx hb;simp only at h3;have h4:=hv.2.2.2;simp only at h4;have u0:=wi (sC+eW*eH) (by omega) (by omega);generalize Qq ⟨eL,eW,eH,[]⟩ sS=Q at *;refine cE ?_;simp +contextual -implicitDefEqProofs (maxSteps:=10^7) only[go_sem,seval,↓gZ,Wt,e1,e2,u0]
theorem Zsm (sS:List Zb) (sO sD:List Zc) (sL sC:Int) (eK eL eX eY eW eH aa ab:Int) (ad:Bool) (ae eC eo ea ep:Int) (et:Bool) (ek:List Zd) (hl:sS.length≤100000) (hn:Qu 0 sS eL<0):Zf Xs Ms Ur [.ptr 0 0,(.d (.agg [J eK,J eL,J eX,J eY,J eW,J eH,J aa,J ab,.bool ad,J ae,J eC,J eo,J ea,J ep,.bool et,.sl (ek.map Zd.enc)]))] [.box [.own 1,.own 2,.own 3,(.d (J sL)),(.d (J sC))],.tree 4 4 (sS.map Zb.enc) none,.row 5 (sO.map Zc.enc) true false,.row 5 (sD.map Zc.enc) true false]=some ((.d (.bool false)),[.box [.own 1,.own 2,.own 3,(.d (J sL)),(.d (J sC))],.tree 4 4 (sS.map Zb.enc) none,.row 5 (sO.map Zc.enc) true false,.row 5 (sD.map Zc.enc) true false]):=by
 have e1:=YE sS eL (by omega);refine cE ?_;simp +contextual -implicitDefEqProofs (maxSteps:=10^7) only[go_sem,seval,↓gZ,Zcj,e1,hn]
theorem ZqE (sS:List Zb) (sO sD:List Zc) (sL sC:Int) (eK eL eX eY eW eH ab ad:Int) (ae:Bool) (af eC eo ea ep:Int) (et:Bool) (ek:List Zd) (hl:sS.length≤100000) (a:Nat) (ha:Qu 0 sS eL=(a:Int)) (xL xW xH:Int) (xF:List Box) (hx:sS[a]?=some (Zb.mk xL xW xH xF)) (hF:xF.length≤1000):Zf Xs Ms Ur [.ptr 0 0,(.d (.agg [J eK,J eL,J eX,J eY,J eW,J eH,J ab,J ad,.bool ae,J af,J eC,J eo,J ea,J ep,.bool et,.sl (ek.map Zd.enc)]))] [.box [.own 1,.own 2,.own 3,(.d (J sL)),(.d (J sC))],.tree 4 4 (sS.map Zb.enc) none,.row 5 (sO.map Zc.enc) true false,.row 5 (sD.map Zc.enc) true false] =
  some ((.d (.bool true)),[.box [.own 1,.own 2,.own 3,(.d (J sL)),(.d (J sC))],.tree 4 4 ((sS.set a ⟨xL,xW,xH,xF++[⟨eX,eY,eW,eH⟩]⟩).map Zb.enc) none,.row 5 (sO.map Zc.enc) true false,.row 5 (sD.map Zc.enc) true false]):=by
 have e1:=YE sS eL (by omega);rw[ha] at e1;have h0:¬(a:Int)<0:=by omega
 have ag : (0:Int)≤(a:Int):=by omega
 have ah:=(Ka.1 hx).1;have hr:(xF.length+1)*32≤140737488355328∧xF.length≤140737488355327:=by omega
 have ai:=Zbl xF;have aa:=Zbl (xF++[⟨eX,eY,eW,eH⟩]);rw[Kak] at aa;simp only[Kp,KX,Box.enc] at aa;refine cE ?_;simp +contextual -implicitDefEqProofs (maxSteps:=10^7) only[go_sem,seval,↓gZ,Zcj,e1,h0,ag,hx,ah,hr,ai,aa,LF,KM,Kan];simp[Zb.enc,Box.enc,LJ]
theorem ZnI (sS:List Zb) (sO sD:List Zc) (sL sC:Int) (eK eL eX eY eW eH aa ab:Int) (ad:Bool) (ae eC eo ea ep:Int) (et:Bool) (ek:List Zd) (hn:¬VD ⟨⟨aa,ab,ad,ae⟩,eC⟩):Zf Xs Ms YH [.ptr 0 0,(.d (.agg [J eK,J eL,J eX,J eY,J eW,J eH,J aa,J ab,.bool ad,J ae,J eC,J eo,J ea,J ep,.bool et,.sl (ek.map Zd.enc)]))] [.box [.own 1,.own 2,.own 3,(.d (J sL)),(.d (J sC))],.tree 4 4 (sS.map Zb.enc) none,.row 5 (sO.map Zc.enc) true false,.row 5 (sD.map Zc.enc) true false]=some ((.d (.bool false)),[.box [.own 1,.own 2,.own 3,(.d (J sL)),(.d (J sC))],.tree 4 4 (sS.map Zb.enc) none,.row 5 (sO.map Zc.enc) true false,.row 5 (sD.map Zc.enc) true false]):=by
 have e1:=W5 aa ab ad ae eC;rw[Kh hn] at e1;refine cE ?_;simp +contextual -implicitDefEqProofs (maxSteps:=10^7) only[go_sem,seval,↓gZ,Jc,e1]
theorem Zlt (sS:List Zb) (sO sD:List Zc) (sL sC:Int) (eK eL eX eY eW eH aa ab:Int) (ad:Bool) (ae eC eo ea ep:Int) (et:Bool) (ek:List Zd) (hv:ZM (Zs.mk sS sO sD sL sC)) (hn:VD ⟨⟨aa,ab,ad,ae⟩,eC⟩):Zf Xs Ms YH [.ptr 0 0,(.d (.agg [J eK,J eL,J eX,J eY,J eW,J eH,J aa,J ab,.bool ad,J ae,J eC,J eo,J ea,J ep,.bool et,.sl (ek.map Zd.enc)]))] [.box [.own 1,.own 2,.own 3,(.d (J sL)),(.d (J sC))],.tree 4 4 (sS.map Zb.enc) none,.row 5 (sO.map Zc.enc) true false,.row 5 (sD.map Zc.enc) true false] =
  some ((.d (.bool true)),[.box [.own 1,.own 4,.own 3,(.d (J sL)),(.d (J sC))],.tree 4 4 (sS.map Zb.enc) none,.row 5 (sO.map Zc.enc) true false,.row 5 (sD.map Zc.enc) true false,.row 5 ((Yb ⟨aa,ab,ad,ae⟩ eC sO).map Zc.enc) true false]):=by
 have e1:=W5 aa ab ad ae eC;rw[Kg hn] at e1;have e2:=ZaT sO aa ab ad ae eC (by have:=hv.2.1.1;simp only at this;omega) (fun x hx=>by have:=(Xq hv.2.1 x hx).2;have:=hn.2;simp only at this;unfold R64;omega);refine cE ?_;simp +contextual -implicitDefEqProofs (maxSteps:=10^7) only[go_sem,seval,↓gZ,Jc,e1,e2]
theorem ZnJ (sS:List Zb) (sO sD:List Zc) (sL sC:Int) (eK eL eX eY eW eH aa ab:Int) (ad:Bool) (ae eC eo ea ep:Int) (et:Bool) (ek:List Zd) (hv:ZM (Zs.mk sS sO sD sL sC)) (hn:¬(VD ⟨⟨aa,ab,ad,ae⟩,eC⟩∧Q3 ⟨aa,ab,ad,ae⟩ eC false sD=true)):Zf Xs Ms YI [.ptr 0 0,(.d (.agg [J eK,J eL,J eX,J eY,J eW,J eH,J aa,J ab,.bool ad,J ae,J eC,J eo,J ea,J ep,.bool et,.sl (ek.map Zd.enc)]))] [.box [.own 1,.own 2,.own 3,(.d (J sL)),(.d (J sC))],.tree 4 4 (sS.map Zb.enc) none,.row 5 (sO.map Zc.enc) true false,.row 5 (sD.map Zc.enc) true false]=some ((.d (.bool false)),[.box [.own 1,.own 2,.own 3,(.d (J sL)),(.d (J sC))],.tree 4 4 (sS.map Zb.enc) none,.row 5 (sO.map Zc.enc) true false,.row 5 (sD.map Zc.enc) true false]):=by
 have e1:=W5 aa ab ad ae eC;by_cases hl:VD ⟨⟨aa,ab,ad,ae⟩,eC⟩
 ·rw[Kg hl] at e1;have e2:=Zaa sD aa ab ad ae eC (by have:=hv.2.2.1.1;simp only at this;omega) (Zj1 hv.2.2.1) (fun x hx=>by have:=(Xq hv.2.2.1 x hx).2;have:=hl.2;simp only at this;unfold R64;omega);unfold tkV at e2;rw[Kj (fun h=>hn ⟨hl,h⟩)] at e2;refine cE ?_;simp +contextual -implicitDefEqProofs (maxSteps:=10^7) only[go_sem,seval,↓gZ,V5,e1,e2]
 ·rw[Kh hl] at e1;refine cE ?_;simp +contextual -implicitDefEqProofs (maxSteps:=10^7) only[go_sem,seval,↓gZ,V5,e1]
theorem Zlu (sS:List Zb) (sO sD:List Zc) (sL sC:Int) (eK eL eX eY eW eH aa ab:Int) (ad:Bool) (ae eC eo ea ep:Int) (et:Bool) (ek:List Zd) (hv:ZM (Zs.mk sS sO sD sL sC)) (hl:VD ⟨⟨aa,ab,ad,ae⟩,eC⟩) (hk:Q3 ⟨aa,ab,ad,ae⟩ eC false sD=true):Zf Xs Ms YI [.ptr 0 0,(.d (.agg [J eK,J eL,J eX,J eY,J eW,J eH,J aa,J ab,.bool ad,J ae,J eC,J eo,J ea,J ep,.bool et,.sl (ek.map Zd.enc)]))] [.box [.own 1,.own 2,.own 3,(.d (J sL)),(.d (J sC))],.tree 4 4 (sS.map Zb.enc) none,.row 5 (sO.map Zc.enc) true false,.row 5 (sD.map Zc.enc) true false] =
  some ((.d (.bool true)),[.box [.own 1,.own 4,.own 5,(.d (J (sL+eC*aa*ab))),(.d (J sC))],.tree 4 4 (sS.map Zb.enc) none,.row 5 (sO.map Zc.enc) true false,.row 5 (sD.map Zc.enc) true false,.row 5 ((Yb ⟨aa,ab,ad,ae⟩ eC sO).map Zc.enc) true false,.row 5 ((Xz sD ⟨aa,ab,ad,ae⟩ eC).map Zc.enc) true false]):=by
 have e1:=W5 aa ab ad ae eC;rw[Kg hl] at e1;have e2:=Zaa sD aa ab ad ae eC (by have:=hv.2.2.1.1;simp only at this;omega) (Zj1 hv.2.2.1) (fun x hx=>by have:=(Xq hv.2.2.1 x hx).2;have:=hl.2;simp only at this;unfold R64;omega);unfold tkV at e2;rw[Kl hk] at e2;have e3:=ZaT sO aa ab ad ae eC (by have:=hv.2.1.1;simp only at this;omega) (fun x hx=>by have:=(Xq hv.2.1 x hx).2;have:=hl.2;simp only at this;unfold R64;omega);have af:=Zdq hl;have h6:=hv.2.2.2;simp only at af h6;have u0:=wi (eC*aa) (by omega) (by omega);have u1:=wi (eC*aa*ab) (by omega) (by omega);have u2:=wi (sL+eC*aa*ab) (by omega) (by omega)
 refine cE ?_;simp +contextual -implicitDefEqProofs (maxSteps:=10^7) only[go_sem,seval,↓gZ,V5,e1,e2,e3,u0,u1,u2]
theorem ZnK (sS:List Zb) (sO sD:List Zc) (sL sC:Int) (eK eL eX eY eW eH aa ab:Int) (ad:Bool) (ae eC eo ea ep:Int) (et:Bool) (ek:List Zd) (hn:Qu 0 sS eL<0):Zf Xs Ms YJ [.ptr 0 0,(.d (.agg [J eK,J eL,J eX,J eY,J eW,J eH,J aa,J ab,.bool ad,J ae,J eC,J eo,J ea,J ep,.bool et,.sl (ek.map Zd.enc)]))] [.box [.own 1,.own 2,.own 3,(.d (J sL)),(.d (J sC))],.tree 4 4 (sS.map Zb.enc) none,.row 5 (sO.map Zc.enc) true false,.row 5 (sD.map Zc.enc) true false]=some ((.d (.bool false)),[.box [.own 1,.own 2,.own 3,(.d (J sL)),(.d (J sC))],.tree 4 4 (sS.map Zb.enc) none,.row 5 (sO.map Zc.enc) true false,.row 5 (sD.map Zc.enc) true false]):=by
 have e1:=ZfL sS eL (fun h=>by omega);refine cE ?_;simp +contextual -implicitDefEqProofs (maxSteps:=10^7) only[go_sem,seval,↓gZ,Jd,e1]
theorem Zlv (sS:List Zb) (sO sD:List Zc) (sL sC:Int) (eK eL eX eY eW eH aa ab:Int) (ad:Bool) (ae eC eo ea ep:Int) (et:Bool) (ek:List Zd) (hv:ZM (Zs.mk sS sO sD sL sC)) (a:Nat) (ha:Qu 0 sS eL=(a:Int)) (xL xW xH:Int) (xF:List Box) (hx:sS[a]?=some (Zb.mk xL xW xH xF)):Zf Xs Ms YJ [.ptr 0 0,(.d (.agg [J eK,J eL,J eX,J eY,J eW,J eH,J aa,J ab,.bool ad,J ae,J eC,J eo,J ea,J ep,.bool et,.sl (ek.map Zd.enc)]))] [.box [.own 1,.own 2,.own 3,(.d (J sL)),(.d (J sC))],.tree 4 4 (sS.map Zb.enc) none,.row 5 (sO.map Zc.enc) true false,.row 5 (sD.map Zc.enc) true false] =
  some ((.d (.bool true)),[.box [.own 4,.own 2,.own 3,(.d (J (sL+xW*xH))),(.d (J sC))],.tree 4 4 (sS.map Zb.enc) none,.row 5 (sO.map Zc.enc) true false,.row 5 (sD.map Zc.enc) true false,.tree 4 4 ((sS.eraseIdx a).map Zb.enc) none]):=by
 have e1:=Zfc sS eL hv.1 a ha xL xW xH xF hx;have af:=(Qo hv.1.2 _ (Kb hx)).1;simp only at af;have h6:=hv.2.2.2;simp only at h6;have hb:VB ⟨0,0,xW,xH⟩:=by simp only[VB];omega
 have h3:=Zhx hb;simp only at h3;have u0:=wi (xW*xH) (by omega) (by omega);have u1:=wi (sL+xW*xH) (by omega) (by omega);refine cE ?_;simp +contextual -implicitDefEqProofs (maxSteps:=10^7) only[go_sem,seval,↓gZ,Jd,e1,u0,u1]
end Go.Proofs.YtdhgppkldoopaaaGreat
