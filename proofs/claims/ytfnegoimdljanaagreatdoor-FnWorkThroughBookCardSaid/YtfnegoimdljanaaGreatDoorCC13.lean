import Derived.Test.YtfnegoimdljanaaGreatDoorCC8
set_option linter.unusedSimpArgs false
set_option linter.unusedVariables false
namespace Go.Proofs.YtfnegoimdljanaaGreatDoor
open Go Go.Abs Go.Abs.E Go.Abs.L
set_option maxRecDepth 20000
set_option maxHeartbeats 4000000
def UL (l:List Zc):Prop:=(l.map Zc.Pane).Nodup∧∀ x∈l,1≤x.Count
theorem ZqM:∀ {l:List Zc} {q:List Pane},ZjZ q l→(l.map Zc.Pane).Nodup∧∀ p∈l.map Zc.Pane,p∉q
 | [],_,_=>by simp
 | x :: l,q,h=>by
  obtain⟨h1,h2,h3,h4,h5⟩:=h;obtain⟨a,b⟩:=ZqM h5;refine⟨?_,?_⟩
  ·rw[Kk,Lj];exact⟨fun hm=>b _ hm (by simp),a⟩
  ·intro p hp;rw[Kk,Kd] at hp;rcases hp with rfl | hp
   ·exact h2
   ·exact fun hq=>b p hp (by simp[hq])
theorem Zfk {l:List Zc} (h:JX l):UL l:=⟨(ZqM h.2.1).1,fun x hx=>(QK h x hx).2.1⟩
theorem Ziy:∀ {l:List Zc} {k:Nat} {p:Pane},0≤YZ k l p→∃ a x,YZ k l p=((k+a:Nat):Int)∧l[a]?=some x∧x.Pane=p∧p∉(l.take a).map Zc.Pane
 | [],k,p,h=>by simp[YZ] at h
 | x :: l,k,p,h=>by
  unfold YZ at h ⊢;split
  ·rename_i e;exact⟨0,x,by simp,by simp,e,by simp⟩
  ·rename_i e;rw[Ke e] at h;obtain⟨a,y,h1,h2,h3,h4⟩:=Ziy h;refine⟨a+1,y,by rw[h1];congr 1;omega,by simpa using h2,h3,?_⟩;simp only[Lu,Kk,Kd,not_or];exact⟨fun e'=>e e'.symm,h4⟩
theorem Zla:∀ {l:List Zc} {k:Nat} {p:Pane},YZ k l p<0→p∉l.map Zc.Pane
 | [],k,p,h=>by simp
 | x :: l,k,p,h=>by
  unfold YZ at h;split at h
  ·omega
  ·rename_i e;simp only[Kk,Kd,not_or];exact⟨fun e'=>e e'.symm,Zla h⟩
theorem Ziz {p:Pane} {c:Int}:∀ {l:List Zc} {b:Bool},p∉l.map Zc.Pane→Xe p c b l=b
 | [],b,_=>rfl
 | x :: l,b,h=>by
  simp only[Kk,Kd,not_or] at h;rw[Xe,Ke (fun e=>h.1 e.symm),Ziz h.2]
theorem Zwf {p:Pane} {c:Int}:∀ {l:List Zc},p∉l.map Zc.Pane→(∀ x∈l,1≤x.Count)→XF l p c=l
 | [],_,_=>rfl
 | x :: l,h,hc=>by
  simp only[Kk,Kd,not_or] at h;have h0:=hc x (by simp);have ih:=Zwf (p:=p) (c:=c) h.2 (fun y hy=>hc y (by simp[hy]));unfold XF at ih ⊢;rw[Lq,Zhp,Ke (fun e=>h.1 e.symm),Kj o_,ih]
theorem ZqN {p:Pane} {c:Int}:∀ {l:List Zc} {a:Nat} {x:Zc},UL l→l[a]?=some x→x.Pane=p→Xe p c false l=decide (0≤x.Count-c)∧XF l p c=if 0<x.Count-c then l.set a ⟨p,x.Count-c⟩ else l.eraseIdx a
 | [],a,x,_,h,_=>by simp at h
 | y :: l,0,x,hu,h,e=>by
  simp only[KT,Option.some.injEq] at h;subst h;obtain⟨h1,h2⟩:=hu;rw[Kk,Lj,e] at h1;have hl:=Zwf (p:=p) (c:=c) h1.1 (fun z hz=>h2 z (by simp[hz]));refine⟨by rw[Xe,Kj e,Ziz h1.1],?_⟩;unfold XF at hl ⊢;rw[Lq,Zhp,Kj e];by_cases hc:0<y.Count-c
  ·rw[Kj hc,Kj hc,hl,e];rfl
  ·rw[Ke hc,Ke hc,hl];rfl
 | y :: l,a+1,x,hu,h,e=>by
  simp only[KU] at h;obtain⟨h1,h2⟩:=hu;rw[Kk,Lj] at h1;have aa:y.Pane≠p:=fun e'=>h1.1 (by rw[e',← e];exact Kat (Kb h));obtain⟨i1,i2⟩:=ZqN (p:=p) (c:=c) (l:=l) ⟨h1.2,fun z hz=>h2 z (by simp[hz])⟩ h e;refine⟨by rw[Xe,Ke aa,i1],?_⟩;have h0:=h2 y (by simp);unfold XF at i2 ⊢;rw[Lq,Zhp,Ke aa,Kj o_,i2];by_cases hc:0<x.Count-c
  ·rw[Kj hc,Kj hc];rfl
  ·rw[Ke hc,Ke hc];rfl
theorem ZqO {l:List Zc} {p:Pane} {c:Int} (h:UL l):UL (XF l p c):=by
 have hs:∀ (l:List Zc),((XF l p c).map Zc.Pane).Sublist (l.map Zc.Pane):=by
  intro l
  induction l with
  | nil=>simp[XF]
  | cons x l ih=>
   unfold XF at ih ⊢;rw[Lq];unfold Zhp at ih ⊢;split
   ·exact ih.trans (by simp)
   ·rename_i y hy;split at hy
    ·split at hy
     ·cases hy;simpa using ih
     ·cases hy
    ·split at hy
     ·cases hy;simpa using ih
     ·cases hy
 refine⟨List.Nodup.sublist (hs l) h.1,fun y hy=>?_⟩;obtain⟨x,hx,e⟩:=Ls.1 hy;have:=h.2 x hx;unfold Zhp at e;split at e
 ·split at e
  ·cases e;simp only;omega
  ·cases e
 ·split at e
  ·cases e;omega
  ·cases e
theorem ZqP (p:Pane) (c:Int):∀ (l:List Zc),(Yc p c l).map Zc.Pane=if p∈l.map Zc.Pane then l.map Zc.Pane else l.map Zc.Pane++[p]
 | []=>by simp[Yc]
 | x :: l=>by
  unfold Yc;by_cases e:x.Pane=p
  ·simp[e]
  ·have ih:=ZqP p c l;have e' : ¬p=x.Pane:=fun h=>e h.symm;simp only[Ke e,Kk,Kd,e',false_or,ih];split<;>simp
theorem Zy2 {l:List Zc} {p:Pane} {c:Int} (h:UL l) (hc:1≤c):UL (Yc p c l):=by
 refine⟨?_,?_⟩
 ·rw[ZqP];split
  ·exact h.1
  ·rename_i hn;refine LQ.2 ⟨h.1,by simp,fun a ha b hb=>?_⟩;simp only[KG] at hb;subst hb;exact fun e=>hn (e ▸ ha)
 ·have aa:∀ (l:List Zc),(∀ x∈l,1≤x.Count)→∀ x∈Yc p c l,1≤x.Count:=by
   intro l
   induction l with
   | nil=>intro _ x hx;simp[Yc] at hx;subst hx;exact hc
   | cons y l ih=>
    intro h x hx;have hy:=h y (by simp);unfold Yc at hx;split at hx
    ·rcases Kd.1 hx with rfl | hx
     ·simp only;omega
     ·exact h x (by simp[hx])
    ·rcases Kd.1 hx with rfl | hx
     ·exact hy
     ·exact ih (fun z hz=>h z (by simp[hz])) x hx
  exact aa l h.2
theorem ZiA : ∀ {l:List Zb} {b:Int},Xv b l→∀ x∈l,b<x.Label
 | [],_,_,x,hx=>by simp at hx
 | y :: l,b,h,x,hx=>by
  rcases Kd.1 hx with rfl | hx
  ·exact h.2.1
  ·have:=ZiA h.2.2 x hx;have:=h.2.1;omega
theorem ZqQ (q:Zb):∀ (l:List Zb),q∈QB q l
 | []=>by simp[QB]
 | x :: l=>by
  unfold QB;split
  ·simp
  ·exact Kv _ (ZqQ q l)
theorem ZnR {q:Zb} (hq:VPc q):∀ {l:List Zb} {b:Int},Xv b l→b<q.Label→(Xv b (QB q l)↔q.Label∉l.map Zb.Label)
 | [],b,h,hb=>by simp[QB,Xv,hq,hb]
 | x :: l,b,h,hb=>by
  obtain⟨h1,h2,h3⟩:=h;unfold QB;by_cases aa:q.Label<x.Label
  ·rw[Kj aa];refine⟨fun _ hm=>?_,fun _=>⟨hq,hb,h1,aa,h3⟩⟩;rw[Kk,Kd] at hm;rcases hm with hm | hm
   ·omega
   ·obtain⟨y,hy,e⟩:=Lk.1 hm;have:=ZiA h3 y hy;omega
  ·rw[Ke aa];by_cases he:x.Label=q.Label
   ·constructor
    ·intro hs;have:=ZiA hs.2.2 q (ZqQ q l);omega
    ·intro hn;exact absurd (by simp[he]) hn
   ·have ih:=ZnR hq h3 (by omega:x.Label<q.Label);rw[Kk,Kd,not_or,Xv,ih];exact⟨fun h=>⟨fun e=>he e.symm,h.2.2⟩,fun h=>⟨h1,h2,h.2⟩⟩
theorem Zwg:∀ {l:List Zb} {k:Nat} {n:Int},Qz k l n<0↔n∉l.map Zb.Label
 | [],k,n=>by simp[Qz]
 | x :: l,k,n=>by
  unfold Qz;have ih:=Zwg (l:=l) (k:=k+1) (n:=n);by_cases he:x.Label=n
  ·rw[Kj he];simp only[Kk,Kd,he,true_or,not_true,iff_false];omega
  ·rw[Ke he,ih,Kk,Kd,not_or];exact⟨fun h=>⟨fun e=>he e.symm,h⟩,fun h=>h.2⟩
theorem ZBE {q:Zb} {l:List Zb} (h1:VSt l) (h2:VPc q):VA q l↔l.length≠20∧Qz 0 l q.Label<0:=by
 have h3:=ZnR h2 h1.2 (by have:=h2.1.1;omega:0<q.Label);have h4:=h1.1;unfold VA;rw[Zwg,← h3];simp only[VSt,Zm5];constructor
 ·rintro ⟨_,a,b⟩;exact⟨o_,b⟩
 ·rintro ⟨a,b⟩;exact⟨⟨⟨h4,h1.2⟩,h2⟩,o_,b⟩
theorem Zi2 (l:List Zb) (qL qW qH:Int) (qF:List Box) (hl:l.length≤100000):v_ 150 [(.d (.sl (l.map Zb.enc))),(.d (.agg [J qL,J qW,J qH,.sl (qF.map Box.enc)]))] [] =
  some (.tup [.own 0,(.d (.bool (decide (VA (Zb.mk qL qW qH qF) l))))],[if VA (Zb.mk qL qW qH qF) l then .tree 4 4 ((QB (Zb.mk qL qW qH qF) l).map Zb.enc) none else .row 4 [] true false]):=by
 have e1:=Ym l;have e2:=QT qL qW qH qF;have e3:=Ya l qL o_;by_cases v1:VSt l
 ·rw[Kg v1] at e1;by_cases v2:VPc (Zb.mk qL qW qH qF)
  ·rw[Kg v2] at e2;have hA:=ZBE v1 v2;simp only at hA;have hF:=(Zbw v1).2;have ah:qF.length≤1048576:=by have:=v2.1.2.2.2.2.2.2;simp only at this;omega
   by_cases v3:l.length=20
   ·have h:¬VA (Zb.mk qL qW qH qF) l:=fun h=>(hA.1 h).1 v3;have ab : ((l.length:Int)=20):=o_
    rw[Ki h,Ke h];refine cE ?_;simp (maxSteps:=10^7) +contextual -implicitDefEqProofs only[go_sem,seval,Ww,e1,e2,ab]
   ·have ab : ¬((l.length:Int)=20):=o_
    by_cases v4:Qz 0 l qL<0
    ·have h:VA (Zb.mk qL qW qH qF) l:=hA.2 ⟨v3,v4⟩;have aa : ¬(0≤Qz 0 l qL):=o_
     have eq:=U6 qL qW qH qF ah;rw[Kg h,Kj h];generalize Qz 0 l qL=fl at e3 aa;have aj:=v1.1;refine cE ?_;simp (maxSteps:=10^7) +contextual -implicitDefEqProofs only[go_sem,seval,Ww,e1,e2,ab,e3,aa];refine LO (α:=Nat×Bool×List Zb) (fun s=>[(32,.d (J (s.1:Int))),(7,.d (.bool s.2.1))]) (fun s=>[(0,.tree 4 4 (s.2.2.map Zb.enc) none)]) (fun s=>s.1≤l.length∧s.2.2++(if s.2.1 then l.drop s.1 else QB (Zb.mk qL qW qH qF) (l.drop s.1))=QB (Zb.mk qL qW qH qF) l∧s.2.2.length≤s.1+s.2.1.toNat) (fun s=>l.length-s.1) (0,false,[]) ⟨by simp,by simp,by simp⟩ ?_;intro⟨i,b,o⟩ ⟨hi,hp,ho⟩ ih;simp only at hi hp ho;have hb:=Bool.toNat_le b
     by_cases ad:i<l.length
     ·obtain⟨x,hx⟩:=Zp ad;have hw:=Zh (k:=i) o_;have hr:(o.length+1)*48≤140737488355328∧o.length≤140737488355327:=o_
      have ae:∀ n:Nat,n=o.length+1→(n+1)*48≤140737488355328∧n≤140737488355327:=fun n hn=>by omega
      have ae:=ae _ rfl;have ai:o.length≤140737488355326:=o_
      have e:=U6 x.Label x.W x.H x.Flaws (hF x (Kb hx));rw[Zrn hx] at hp;have hd:l.drop i=x :: l.drop (i+1):=by
       obtain⟨h1,h2⟩:=Kc.1 hx;rw[Kx h1,h2]
      obtain⟨L,W,H,F⟩:=x;simp only at e hp;have af:=Zcb F;have ag:=Zcb qF;cases b with
      | true=>
       simp only[Bool.toNat_true] at ho;rw[Kj rfl] at hp;simp (maxSteps:=10^7) +contextual -implicitDefEqProofs only[go_sem,seval,hx,ad,hw,e,hr,af];refine ih (i+1,true,o++[⟨L,W,H,F⟩]) _ ⟨p_,?_,by simp;omega⟩ p_ ?_
       ·rw[← hp,hd];simp
       ·simp (maxSteps:=10^7) +contextual -implicitDefEqProofs only[go_sem,seval];try (simp[Zb.enc];done)
      | false=>
       simp only[Bool.toNat_false] at ho;rw[Ke (by simp)] at hp;by_cases hc:qL<L
       ·rw[Kj hc] at hp;simp (maxSteps:=10^7) +contextual -implicitDefEqProofs only[go_sem,seval,hx,ad,hw,e,eq,hc,hr,ae,ai,af,ag];refine ih (i+1,true,o++[(Zb.mk qL qW qH qF),⟨L,W,H,F⟩]) _ ⟨p_,?_,by simp;omega⟩ p_ ?_
        ·rw[← hp,hd];simp
        ·simp (maxSteps:=10^7) +contextual -implicitDefEqProofs only[go_sem,seval];try (simp[Zb.enc];done)
       ·rw[Ke hc] at hp;simp (maxSteps:=10^7) +contextual -implicitDefEqProofs only[go_sem,seval,hx,ad,hw,e,hc,hr,af];refine ih (i+1,false,o++[⟨L,W,H,F⟩]) _ ⟨p_,?_,by simp;omega⟩ p_ ?_
        ·rw[← hp];simp
        ·simp (maxSteps:=10^7) +contextual -implicitDefEqProofs only[go_sem,seval];try (simp[Zb.enc];done)
     ·have:i=l.length:=o_
      subst this;have hr:(o.length+1)*48≤140737488355328∧o.length≤140737488355327:=o_
      cases b with
      | true=>
       simp at hp;simp (maxSteps:=10^7) +contextual -implicitDefEqProofs only[go_sem,seval];rw[hp]
      | false=>
       simp[QB] at hp;have ag:=Zcb qF;simp (maxSteps:=10^7) +contextual -implicitDefEqProofs only[go_sem,seval,eq,hr,ag];rw[← hp];try (simp[Zb.enc];done)
    ·have h:¬VA (Zb.mk qL qW qH qF) l:=fun h=>v4 (hA.1 h).2;have aa : 0≤Qz 0 l qL:=o_
     rw[Ki h,Ke h];generalize Qz 0 l qL=fl at e3 aa;refine cE ?_;simp (maxSteps:=10^7) +contextual -implicitDefEqProofs only[go_sem,seval,Ww,e1,e2,ab,e3,aa]
  ·rw[Ki v2] at e2;have h:¬VA (Zb.mk qL qW qH qF) l:=fun h=>v2 h.1.2;rw[Ki h,Ke h];refine cE ?_;simp (maxSteps:=10^7) +contextual -implicitDefEqProofs only[go_sem,seval,Ww,e1,e2]
 ·rw[Ki v1] at e1;have h:¬VA (Zb.mk qL qW qH qF) l:=fun h=>v1 h.1.1;rw[Ki h,Ke h];refine cE ?_;simp (maxSteps:=10^7) +contextual -implicitDefEqProofs only[go_sem,seval,Ww,e1]
theorem Zgb (l:List Zc) (hl:l.length≤1048576):v_ 201 [(.d (.sl (l.map Zc.enc)))] []=some (.own 0,[.row 5 (l.map Zc.enc) true false]):=by
 refine Y9 Xs Ms Znb ?_;unfold Zl6;simp only;rw[Kj ⟨by rw[ZvE];trivial,by rw[ZsO];trivial,by simp[ZL];omega,by simp[ZL];omega⟩]
theorem Zi3 {α β:Type} (f:α→β):∀ (l:List α) (i:Nat),(l.map f).eraseIdx i=(l.eraseIdx i).map f
 | [],_=>rfl
 | _ :: _,0=>rfl
 | x :: l,i+1=>by simp[Zi3 f l i]
theorem ZmG (l:List Zc) (i:Nat) (hi:i<l.length):v_ 206 [.own 0,(.d (J i)),(.d (J ((i:Int)+1)))] [.row 5 (l.map Zc.enc) true false]=some (.own 1,[.gone,.row 5 ((l.eraseIdx i).map Zc.enc) true false]):=by
 refine Y9 Xs Ms ZlC ?_;unfold Zh3;simp only;rw[Kj ⟨rfl,o_,rfl,by simp;omega,by rw[ZvE];trivial,by rw[ZsO];trivial,rfl,rfl⟩,Ky,Zi3]
theorem Zbb (l:List Zc) (xW xH:Int) (xT:Bool) (xK xC:Int) (hl:l.length≤1048576) (hc:∀ y∈l,R64 (y.Count+xC)):v_ 153 [(.d (.sl (l.map Zc.enc))),(.d (.agg [J xW,J xH,.bool xT,J xK,J xC]))] []=some (.own 0,[.row 5 ((Yc ⟨xW,xH,xT,xK⟩ xC l).map Zc.enc) true false]):=by
 have e1:=Zgb l hl;have e2:=ZdF l xW xH xT xK o_;have hr:(l.length+1)*40≤140737488355328∧l.length≤140737488355327:=o_
 by_cases hf:YZ 0 l ⟨xW,xH,xT,xK⟩<0
 ·have hn:¬0≤YZ 0 l ⟨xW,xH,xT,xK⟩:=o_
  rw[ZuZ _ _ _ (Zla hf)];refine cE ?_;simp (maxSteps:=10^7) +contextual -implicitDefEqProofs only[go_sem,seval,ZhY,e1,e2,hn,hr];try (simp[Zc.enc];done)
 ·obtain⟨a,x,h1,h2,h3,h4⟩:=Ziy (by omega:0≤YZ 0 l ⟨xW,xH,xT,xK⟩);rw[K8] at h1;rw[h1] at e2;rw[ZuY _ _ _ a x h2 h3 h4];have aa:=hc x (Kb h2);obtain⟨⟨W,H,T,K⟩,C⟩:=x;simp only[Pane.mk.injEq] at h3 aa;obtain⟨rfl,rfl,rfl,rfl⟩:=h3;have u0:=wi (C+xC) aa.1 aa.2;have ab:=(Kc.1 h2).1;have ha:(0:Int)≤(a:Int):=o_
  refine cE ?_;simp (maxSteps:=10^7) +contextual -implicitDefEqProofs only[go_sem,seval,ZhY,e1,e2,ha,h2,ab,u0];try (simp[Zc.enc,Kas];done)
def tkV (l:List Zc) (p:Pane) (c:Int):AV×List Zk:=
 if Xe p c false l=true then (.tup [.own 0,(.d (.bool true))],[.row 5 ((XF l p c).map Zc.enc) true false]) else (.tup [.own 0,(.d (.bool false))],[.row 5 [] true false])
theorem J8 (l:List Zc) (xW xH:Int) (xT:Bool) (xK xC:Int) (hl:l.length≤1048576) (hu:UL l) (hc:∀ y∈l,R64 (y.Count-xC)):v_ 157 [(.d (.sl (l.map Zc.enc))),(.d (.agg [J xW,J xH,.bool xT,J xK,J xC]))] []=some (tkV l ⟨xW,xH,xT,xK⟩ xC):=by
 have e1:=Zgb l hl;have e2:=ZdF l xW xH xT xK o_;by_cases hf:YZ 0 l ⟨xW,xH,xT,xK⟩<0
 ·have hn:=Ziz (c:=xC) (b:=false) (Zla hf);have ek:tkV l ⟨xW,xH,xT,xK⟩ xC=(.tup [.own 0,(.d (.bool false))],[.row 5 [] true false]):=by unfold tkV;rw[hn,Ke (by simp)]
  rw[ek];refine cE ?_;simp (maxSteps:=10^7) +contextual -implicitDefEqProofs only[go_sem,seval,Jr,e1,e2,hf]
 ·obtain⟨a,x,h1,h2,h3,h4⟩:=Ziy (by omega:0≤YZ 0 l ⟨xW,xH,xT,xK⟩);rw[K8] at h1;rw[h1] at e2;obtain⟨k1,k2⟩:=ZqN (c:=xC) hu h2 h3;have ad:=hc x (Kb h2);obtain⟨⟨W,H,T,K⟩,C⟩:=x;simp only[Pane.mk.injEq] at h3 ad k1 k2;obtain⟨rfl,rfl,rfl,rfl⟩:=h3;have u0:=wi (C-xC) ad.1 ad.2;have ab:=(Kc.1 h2).1;have ha:¬(a:Int)<0:=o_
  have hw:=Zh (k:=a) o_;have e3:=ZmG (l.set a ⟨⟨W,H,T,K⟩,0⟩) a (by simpa using ab);by_cases ae:C<xC
  ·have hx:¬0≤C-xC:=o_
   have ek:tkV l ⟨W,H,T,K⟩ xC=(.tup [.own 0,(.d (.bool false))],[.row 5 [] true false]):=by unfold tkV;rw[k1,Ki hx,Ke (by simp)]
   rw[ek];refine cE ?_;simp (maxSteps:=10^7) +contextual -implicitDefEqProofs only[go_sem,seval,Jr,e1,e2,ha,h2,ab,ae]
  ·have hx:0≤C-xC:=o_
   by_cases hz:C-xC=0
   ·have ek:tkV l ⟨W,H,T,K⟩ xC=(.tup [.own 0,(.d (.bool true))],[.row 5 ((l.eraseIdx a).map Zc.enc) true false]):=by unfold tkV;rw[k1,Kg hx,Kj rfl,k2,Ke o_]
    rw[ek];have es:(l.set a ⟨⟨W,H,T,K⟩,0⟩).eraseIdx a=l.eraseIdx a:=by simp[List.eraseIdx_set_eq]
    rw[es,Kas] at e3;simp only[Zc.enc] at e3;have aa:((a:Int)+1)=((a+1:Nat):Int):=o_
    rw[aa] at e3;rw[hz] at u0;refine cE ?_;simp (maxSteps:=10^7) +contextual -implicitDefEqProofs only[go_sem,seval,Jr,e1,e2,ha,h2,ab,ae,hz,u0,hw,e3,Kas,LR,List.length_set]
   ·have ek:tkV l ⟨W,H,T,K⟩ xC=(.tup [.own 0,(.d (.bool true))],[.row 5 ((l.set a ⟨⟨W,H,T,K⟩,C-xC⟩).map Zc.enc) true false]):=by unfold tkV;rw[k1,Kg hx,Kj rfl,k2,Kj o_]
    rw[ek];refine cE ?_;simp (maxSteps:=10^7) +contextual -implicitDefEqProofs only[go_sem,seval,Jr,e1,e2,ha,h2,ab,ae,hz,u0,Kas,LR,List.length_set]
theorem Yy (sS:List Zb) (sO sD:List Zc) (sL sC:Int) (h:Un (Zm.mk sS sO sD sL sC)):v_ 47 [(.d (.agg [.sl (sS.map Zb.enc),.sl (sO.map Zc.enc),.sl (sD.map Zc.enc),J sL,J sC]))] []=some (.agg [.own 0,.own 1,.own 2,(.d (J sL)),(.d (J sC))],[.tree 4 4 (sS.map Zb.enc) none,.row 5 (sO.map Zc.enc) true false,.row 5 (sD.map Zc.enc) true false]):=by
 obtain⟨h1,h2,h3,h4⟩:=h;simp only at h1 h2 h3 h4;have e1:=Zcc sS o_ (fun x hx=>by have:=(h2 x hx).1;omega);have r1:sO.length*40≤140737488355328∧sO.length≤140737488355328:=o_
 have r2:sD.length*40≤140737488355328∧sD.length≤140737488355328:=o_
 refine cE ?_;simp (maxSteps:=10^7) +contextual -implicitDefEqProofs only[go_sem,seval,ZlJ,e1,r1,r2]
theorem W4 (xW xH:Int) (xT:Bool) (xK xC:Int):v_ 152 [(.d (.agg [J xW,J xH,.bool xT,J xK,J xC]))] []=some ((.d (.bool (decide (Vn ⟨⟨xW,xH,xT,xK⟩,xC⟩)))),[]):=by
 have e1:=UZ xW xH xT xK;refine cE ?_;by_cases v1:VP ⟨xW,xH,xT,xK⟩
 ·rw[Kg v1] at e1;by_cases v2:1≤xC
  ·by_cases v3:xC≤24
   ·have h:Vn ⟨⟨xW,xH,xT,xK⟩,xC⟩:=⟨v1,v2,v3⟩
    simp (maxSteps:=10^7) +contextual -implicitDefEqProofs only[go_sem,seval,Wg,e1,v2,v3,h]
   ·have h:¬Vn ⟨⟨xW,xH,xT,xK⟩,xC⟩:=fun h=>v3 h.2.2;simp (maxSteps:=10^7) +contextual -implicitDefEqProofs only[go_sem,seval,Wg,e1,v2,v3,h]
  ·have h:¬Vn ⟨⟨xW,xH,xT,xK⟩,xC⟩:=fun h=>v2 h.2.1;simp (maxSteps:=10^7) +contextual -implicitDefEqProofs only[go_sem,seval,Wg,e1,v2,h]
 ·rw[Ki v1] at e1;have h:¬Vn ⟨⟨xW,xH,xT,xK⟩,xC⟩:=fun h=>v1 h.1;simp (maxSteps:=10^7) +contextual -implicitDefEqProofs only[go_sem,seval,Wg,e1,h]
theorem ZrY (sS:List Zb) (sO sD:List Zc) (sL sC:Int) (eK eL eX eY eW eH aa ab:Int) (ad:Bool) (ae eC eo ea ep:Int) (et:Bool) (ek:List Zf) (hl:sS.length≤100000) (hn:¬((VA ⟨eL,eW,eH,[]⟩ sS∧eX=0)∧eY=0)):v_ 105 [.ptr 0 0,(.d (.agg [J eK,J eL,J eX,J eY,J eW,J eH,J aa,J ab,.bool ad,J ae,J eC,J eo,J ea,J ep,.bool et,.sl (ek.map Zf.enc)]))] [.box [.own 1,.own 2,.own 3,(.d (J sL)),(.d (J sC))],.tree 4 4 (sS.map Zb.enc) none,.row 5 (sO.map Zc.enc) true false,.row 5 (sD.map Zc.enc) true false]=some ((.d (.bool false)),[.box [.own 1,.own 2,.own 3,(.d (J sL)),(.d (J sC))],.tree 4 4 (sS.map Zb.enc) none,.row 5 (sO.map Zc.enc) true false,.row 5 (sD.map Zc.enc) true false]):=by
 by_cases hx:eX=0
 ·by_cases hy:eY=0
  ·have ha:¬VA ⟨eL,eW,eH,[]⟩ sS:=fun h=>hn ⟨⟨h,hx⟩,hy⟩;have e1:=Zi2 sS eL eW eH [] hl;rw[Ki ha,Ke ha] at e1;simp only[Kt] at e1;refine cE ?_;simp (maxSteps:=10^7) +contextual -implicitDefEqProofs only[go_sem,seval,Jn,hx,hy,e1]
  ·refine cE ?_;simp (maxSteps:=10^7) +contextual -implicitDefEqProofs only[go_sem,seval,Jn,hx,hy]
 ·refine cE ?_;simp (maxSteps:=10^7) +contextual -implicitDefEqProofs only[go_sem,seval,Jn,hx]
theorem ZqR (sS:List Zb) (sO sD:List Zc) (sL sC:Int) (eK eL eX eY eW eH aa ab:Int) (ad:Bool) (ae eC eo ea ep:Int) (et:Bool) (ek:List Zf) (hv:ZE (Zm.mk sS sO sD sL sC)) (ha:VA ⟨eL,eW,eH,[]⟩ sS) (hx:eX=0) (hy:eY=0):v_ 105 [.ptr 0 0,(.d (.agg [J eK,J eL,J eX,J eY,J eW,J eH,J aa,J ab,.bool ad,J ae,J eC,J eo,J ea,J ep,.bool et,.sl (ek.map Zf.enc)]))] [.box [.own 1,.own 2,.own 3,(.d (J sL)),(.d (J sC))],.tree 4 4 (sS.map Zb.enc) none,.row 5 (sO.map Zc.enc) true false,.row 5 (sD.map Zc.enc) true false] =
  some ((.d (.bool true)),[.box [.own 4,.own 2,.own 3,(.d (J sL)),(.d (J (sC+eW*eH)))],.tree 4 4 (sS.map Zb.enc) none,.row 5 (sO.map Zc.enc) true false,.row 5 (sD.map Zc.enc) true false,.tree 4 4 ((QB ⟨eL,eW,eH,[]⟩ sS).map Zb.enc) none]):=by
 have af:=hv.1.1;simp only at af;have e1:=Zi2 sS eL eW eH [] o_;rw[Kg ha,Kj ha] at e1;simp only[Kt] at e1;have hp:=ha.1.2.1;simp only at hp;subst hx hy;have hb:VB ⟨0,0,eW,eH⟩:=by simp only[VB];omega
 have e2:=Zlg 0 0 eW eH hb;have h3:=UY hb;simp only at h3;have h4:=hv.2.2.2;simp only at h4;have u0:=wi (sC+eW*eH) o_ o_;generalize QB ⟨eL,eW,eH,[]⟩ sS=Q at *;refine cE ?_;simp (maxSteps:=10^7) +contextual -implicitDefEqProofs only[go_sem,seval,Jn,e1,e2,u0]
theorem ZuI (sS:List Zb) (sO sD:List Zc) (sL sC:Int) (eK eL eX eY eW eH aa ab:Int) (ad:Bool) (ae eC eo ea ep:Int) (et:Bool) (ek:List Zf) (hl:sS.length≤100000) (hn:Qz 0 sS eL<0):v_ 106 [.ptr 0 0,(.d (.agg [J eK,J eL,J eX,J eY,J eW,J eH,J aa,J ab,.bool ad,J ae,J eC,J eo,J ea,J ep,.bool et,.sl (ek.map Zf.enc)]))] [.box [.own 1,.own 2,.own 3,(.d (J sL)),(.d (J sC))],.tree 4 4 (sS.map Zb.enc) none,.row 5 (sO.map Zc.enc) true false,.row 5 (sD.map Zc.enc) true false]=some ((.d (.bool false)),[.box [.own 1,.own 2,.own 3,(.d (J sL)),(.d (J sC))],.tree 4 4 (sS.map Zb.enc) none,.row 5 (sO.map Zc.enc) true false,.row 5 (sD.map Zc.enc) true false]):=by
 have e1:=Ya sS eL o_;refine cE ?_;simp (maxSteps:=10^7) +contextual -implicitDefEqProofs only[go_sem,seval,ZhL,e1,hn]
theorem ZrZ (sS:List Zb) (sO sD:List Zc) (sL sC:Int) (eK eL eX eY eW eH ab ad:Int) (ae:Bool) (af eC eo ea ep:Int) (et:Bool) (ek:List Zf) (hl:sS.length≤100000) (a:Nat) (ha:Qz 0 sS eL=(a:Int)) (xL xW xH:Int) (xF:List Box) (hx:sS[a]?=some (Zb.mk xL xW xH xF)) (hF:xF.length≤1000):v_ 106 [.ptr 0 0,(.d (.agg [J eK,J eL,J eX,J eY,J eW,J eH,J ab,J ad,.bool ae,J af,J eC,J eo,J ea,J ep,.bool et,.sl (ek.map Zf.enc)]))] [.box [.own 1,.own 2,.own 3,(.d (J sL)),(.d (J sC))],.tree 4 4 (sS.map Zb.enc) none,.row 5 (sO.map Zc.enc) true false,.row 5 (sD.map Zc.enc) true false] =
  some ((.d (.bool true)),[.box [.own 1,.own 2,.own 3,(.d (J sL)),(.d (J sC))],.tree 4 4 ((sS.set a ⟨xL,xW,xH,xF++[⟨eX,eY,eW,eH⟩]⟩).map Zb.enc) none,.row 5 (sO.map Zc.enc) true false,.row 5 (sD.map Zc.enc) true false]):=by
 have e1:=Ya sS eL o_;rw[ha] at e1;have h0:¬(a:Int)<0:=o_
 have ag : (0:Int)≤(a:Int):=o_
 have ah:=(Kc.1 hx).1;have hr:(xF.length+1)*32≤140737488355328∧xF.length≤140737488355327:=o_
 have ai:=Zcb xF;have aa:=Zcb (xF++[⟨eX,eY,eW,eH⟩]);rw[KJ] at aa;simp only[Kk,Kt,Box.enc] at aa;refine cE ?_;simp (maxSteps:=10^7) +contextual -implicitDefEqProofs only[go_sem,seval,ZhL,e1,h0,ag,hx,ah,hr,ai,aa,List.length_set,LF,List.set_set];simp[Zb.enc,Box.enc,Kas]
theorem Zol (sS:List Zb) (sO sD:List Zc) (sL sC:Int) (eK eL eX eY eW eH aa ab:Int) (ad:Bool) (ae eC eo ea ep:Int) (et:Bool) (ek:List Zf) (hn:¬Vn ⟨⟨aa,ab,ad,ae⟩,eC⟩):v_ 107 [.ptr 0 0,(.d (.agg [J eK,J eL,J eX,J eY,J eW,J eH,J aa,J ab,.bool ad,J ae,J eC,J eo,J ea,J ep,.bool et,.sl (ek.map Zf.enc)]))] [.box [.own 1,.own 2,.own 3,(.d (J sL)),(.d (J sC))],.tree 4 4 (sS.map Zb.enc) none,.row 5 (sO.map Zc.enc) true false,.row 5 (sD.map Zc.enc) true false]=some ((.d (.bool false)),[.box [.own 1,.own 2,.own 3,(.d (J sL)),(.d (J sC))],.tree 4 4 (sS.map Zb.enc) none,.row 5 (sO.map Zc.enc) true false,.row 5 (sD.map Zc.enc) true false]):=by
 have e1:=W4 aa ab ad ae eC;rw[Ki hn] at e1;refine cE ?_;simp (maxSteps:=10^7) +contextual -implicitDefEqProofs only[go_sem,seval,ZcL,e1]
theorem ZmH (sS:List Zb) (sO sD:List Zc) (sL sC:Int) (eK eL eX eY eW eH aa ab:Int) (ad:Bool) (ae eC eo ea ep:Int) (et:Bool) (ek:List Zf) (hv:ZE (Zm.mk sS sO sD sL sC)) (hn:Vn ⟨⟨aa,ab,ad,ae⟩,eC⟩):v_ 107 [.ptr 0 0,(.d (.agg [J eK,J eL,J eX,J eY,J eW,J eH,J aa,J ab,.bool ad,J ae,J eC,J eo,J ea,J ep,.bool et,.sl (ek.map Zf.enc)]))] [.box [.own 1,.own 2,.own 3,(.d (J sL)),(.d (J sC))],.tree 4 4 (sS.map Zb.enc) none,.row 5 (sO.map Zc.enc) true false,.row 5 (sD.map Zc.enc) true false] =
  some ((.d (.bool true)),[.box [.own 1,.own 4,.own 3,(.d (J sL)),(.d (J sC))],.tree 4 4 (sS.map Zb.enc) none,.row 5 (sO.map Zc.enc) true false,.row 5 (sD.map Zc.enc) true false,.row 5 ((Yc ⟨aa,ab,ad,ae⟩ eC sO).map Zc.enc) true false]):=by
 have e1:=W4 aa ab ad ae eC;rw[Kg hn] at e1;have e2:=Zbb sO aa ab ad ae eC (by have:=hv.2.1.1;simp only at this;omega) (fun x hx=>by have:=(QK hv.2.1 x hx).2;have:=hn.2;simp only at this;unfold R64;omega);refine cE ?_;simp (maxSteps:=10^7) +contextual -implicitDefEqProofs only[go_sem,seval,ZcL,e1,e2]
theorem Zom (sS:List Zb) (sO sD:List Zc) (sL sC:Int) (eK eL eX eY eW eH aa ab:Int) (ad:Bool) (ae eC eo ea ep:Int) (et:Bool) (ek:List Zf) (hv:ZE (Zm.mk sS sO sD sL sC)) (hn:¬(Vn ⟨⟨aa,ab,ad,ae⟩,eC⟩∧Xe ⟨aa,ab,ad,ae⟩ eC false sD=true)):v_ 109 [.ptr 0 0,(.d (.agg [J eK,J eL,J eX,J eY,J eW,J eH,J aa,J ab,.bool ad,J ae,J eC,J eo,J ea,J ep,.bool et,.sl (ek.map Zf.enc)]))] [.box [.own 1,.own 2,.own 3,(.d (J sL)),(.d (J sC))],.tree 4 4 (sS.map Zb.enc) none,.row 5 (sO.map Zc.enc) true false,.row 5 (sD.map Zc.enc) true false]=some ((.d (.bool false)),[.box [.own 1,.own 2,.own 3,(.d (J sL)),(.d (J sC))],.tree 4 4 (sS.map Zb.enc) none,.row 5 (sO.map Zc.enc) true false,.row 5 (sD.map Zc.enc) true false]):=by
 have e1:=W4 aa ab ad ae eC;by_cases hl:Vn ⟨⟨aa,ab,ad,ae⟩,eC⟩
 ·rw[Kg hl] at e1;have e2:=J8 sD aa ab ad ae eC (by have:=hv.2.2.1.1;simp only at this;omega) (Zfk hv.2.2.1) (fun x hx=>by have:=(QK hv.2.2.1 x hx).2;have:=hl.2;simp only at this;unfold R64;omega);unfold tkV at e2;rw[Ke (fun h=>hn ⟨hl,h⟩)] at e2;refine cE ?_;simp (maxSteps:=10^7) +contextual -implicitDefEqProofs only[go_sem,seval,Jm,e1,e2]
 ·rw[Ki hl] at e1;refine cE ?_;simp (maxSteps:=10^7) +contextual -implicitDefEqProofs only[go_sem,seval,Jm,e1]
theorem ZmI (sS:List Zb) (sO sD:List Zc) (sL sC:Int) (eK eL eX eY eW eH aa ab:Int) (ad:Bool) (ae eC eo ea ep:Int) (et:Bool) (ek:List Zf) (hv:ZE (Zm.mk sS sO sD sL sC)) (hl:Vn ⟨⟨aa,ab,ad,ae⟩,eC⟩) (hk:Xe ⟨aa,ab,ad,ae⟩ eC false sD=true):v_ 109 [.ptr 0 0,(.d (.agg [J eK,J eL,J eX,J eY,J eW,J eH,J aa,J ab,.bool ad,J ae,J eC,J eo,J ea,J ep,.bool et,.sl (ek.map Zf.enc)]))] [.box [.own 1,.own 2,.own 3,(.d (J sL)),(.d (J sC))],.tree 4 4 (sS.map Zb.enc) none,.row 5 (sO.map Zc.enc) true false,.row 5 (sD.map Zc.enc) true false] =
  some ((.d (.bool true)),[.box [.own 1,.own 4,.own 5,(.d (J (sL+eC*aa*ab))),(.d (J sC))],.tree 4 4 (sS.map Zb.enc) none,.row 5 (sO.map Zc.enc) true false,.row 5 (sD.map Zc.enc) true false,.row 5 ((Yc ⟨aa,ab,ad,ae⟩ eC sO).map Zc.enc) true false,.row 5 ((XF sD ⟨aa,ab,ad,ae⟩ eC).map Zc.enc) true false]):=by
 have e1:=W4 aa ab ad ae eC;rw[Kg hl] at e1;have e2:=J8 sD aa ab ad ae eC (by have:=hv.2.2.1.1;simp only at this;omega) (Zfk hv.2.2.1) (fun x hx=>by have:=(QK hv.2.2.1 x hx).2;have:=hl.2;simp only at this;unfold R64;omega);unfold tkV at e2;rw[Kj hk] at e2;have e3:=Zbb sO aa ab ad ae eC (by have:=hv.2.1.1;simp only at this;omega) (fun x hx=>by have:=(QK hv.2.1 x hx).2;have:=hl.2;simp only at this;unfold R64;omega);have af:=Zbx hl;have h6:=hv.2.2.2;simp only at af h6;have u0:=wi (eC*aa) o_ o_;have u1:=wi (eC*aa*ab) o_ o_;have u2:=wi (sL+eC*aa*ab) o_ o_
 refine cE ?_;simp (maxSteps:=10^7) +contextual -implicitDefEqProofs only[go_sem,seval,Jm,e1,e2,e3,u0,u1,u2]
theorem Zon (sS:List Zb) (sO sD:List Zc) (sL sC:Int) (eK eL eX eY eW eH aa ab:Int) (ad:Bool) (ae eC eo ea ep:Int) (et:Bool) (ek:List Zf) (hn:Qz 0 sS eL<0):v_ 110 [.ptr 0 0,(.d (.agg [J eK,J eL,J eX,J eY,J eW,J eH,J aa,J ab,.bool ad,J ae,J eC,J eo,J ea,J ep,.bool et,.sl (ek.map Zf.enc)]))] [.box [.own 1,.own 2,.own 3,(.d (J sL)),(.d (J sC))],.tree 4 4 (sS.map Zb.enc) none,.row 5 (sO.map Zc.enc) true false,.row 5 (sD.map Zc.enc) true false]=some ((.d (.bool false)),[.box [.own 1,.own 2,.own 3,(.d (J sL)),(.d (J sC))],.tree 4 4 (sS.map Zb.enc) none,.row 5 (sO.map Zc.enc) true false,.row 5 (sD.map Zc.enc) true false]):=by
 have e1:=Zhn sS eL (fun h=>by omega);refine cE ?_;simp (maxSteps:=10^7) +contextual -implicitDefEqProofs only[go_sem,seval,ZcH,e1]
theorem ZmJ (sS:List Zb) (sO sD:List Zc) (sL sC:Int) (eK eL eX eY eW eH aa ab:Int) (ad:Bool) (ae eC eo ea ep:Int) (et:Bool) (ek:List Zf) (hv:ZE (Zm.mk sS sO sD sL sC)) (a:Nat) (ha:Qz 0 sS eL=(a:Int)) (xL xW xH:Int) (xF:List Box) (hx:sS[a]?=some (Zb.mk xL xW xH xF)):v_ 110 [.ptr 0 0,(.d (.agg [J eK,J eL,J eX,J eY,J eW,J eH,J aa,J ab,.bool ad,J ae,J eC,J eo,J ea,J ep,.bool et,.sl (ek.map Zf.enc)]))] [.box [.own 1,.own 2,.own 3,(.d (J sL)),(.d (J sC))],.tree 4 4 (sS.map Zb.enc) none,.row 5 (sO.map Zc.enc) true false,.row 5 (sD.map Zc.enc) true false] =
  some ((.d (.bool true)),[.box [.own 4,.own 2,.own 3,(.d (J (sL+xW*xH))),(.d (J sC))],.tree 4 4 (sS.map Zb.enc) none,.row 5 (sO.map Zc.enc) true false,.row 5 (sD.map Zc.enc) true false,.tree 4 4 ((sS.eraseIdx a).map Zb.enc) none]):=by
 have e1:=Zgh sS eL hv.1 a ha xL xW xH xF hx;have af:=(ZU hv.1.2 _ (Kb hx)).1;simp only at af;have h6:=hv.2.2.2;simp only at h6;have hb:VB ⟨0,0,xW,xH⟩:=by simp only[VB];omega
 have h3:=UY hb;simp only at h3;have u0:=wi (xW*xH) o_ o_;have u1:=wi (sL+xW*xH) o_ o_;refine cE ?_;simp (maxSteps:=10^7) +contextual -implicitDefEqProofs only[go_sem,seval,ZcH,e1,u0,u1]
end Go.Proofs.YtfnegoimdljanaaGreatDoor
namespace Go.Proofs.YtfnegoimdljanaaGreatDoor
open Go Go.Abs Go.Abs.E Go.Abs.L
set_option maxRecDepth 20000
set_option maxHeartbeats 4000000
theorem Zwh (kW kH:Int) (kP:List Pane) (p:Zf) (hv:YO (Zt.mk kW kH kP) p=true):v_ 156 [(.d (.agg [J kW,J kH,.sl (kP.map Pane.enc)])),.d p.enc] []=some (.own 0,[.row 1 ((ZaY (Zt.mk kW kH kP) p).map Yi) true false]):=by
 have ev:=U3 kW kH kP p;rw[hv] at ev;have e:=ZdD kW kH kP p;obtain⟨b,hb,ai,ae,aj,aa,ab⟩:=QM hv;simp only at aa ab;have af:=Zat (x:=0) (y:=0) aa;have an:kP.length≤24:=ae.2.2.2.2.1;have ak:(plc b 0 0 kW kH).length≤255:=by
  have:=Kq Q3 (Qt (Zt.mk kW kH kP) p);rw[ab,UX,Yl] at this;omega
 unfold ZaY;rw[ab,Yl] at e ⊢;generalize plc b 0 0 kW kH=L at e af ak ⊢;have al:(kP.length:Int)*((8:Nat):Int)≤((140737488355328:Nat):Int)∧kP.length≤140737488355328:=o_
 have ad:(kP.length:Int)*8≤140737488355328∧(kP.length:Int)≤140737488355328:=o_
 clear hv hb ai ae ab aa;obtain⟨o,a,q,t,ks⟩:=p;rw[Zf.enc_mk] at e ev ⊢;refine cE ?_;simp (maxSteps:=10^7) +contextual -implicitDefEqProofs only[go_sem,seval,ZrH,ev,e,rep_int,al,ad];refine LO (α:=Nat×List Int) (fun s=>[(20,.d (J (s.1:Int)))]) (fun s=>[(1,.row 1 (s.2.map Yi) true false)]) (fun s=>s.1≤L.length∧s.2.length=kP.length∧(∀ v∈s.2,0≤v∧v≤s.1)∧WR s.2 (L.drop s.1)=WR (List.replicate kP.length 0) L) (fun s=>L.length-s.1) (0,List.replicate kP.length 0) ⟨by simp,by simp,fun w hw=>by rw[L7 hw];omega,by simp⟩ ?_;intro⟨i,u⟩ ⟨hi,hul,huv,hp⟩ ih;simp only at hi hul huv hp;by_cases ag:i<L.length
 ·obtain⟨x,hx⟩:=Zp ag;have hw:=Zh (k:=i) o_;obtain⟨n,hn,am⟩:=af x (Kb hx);rw[Zrr hx,hn] at hp;obtain⟨q',t',⟨X,Y,W,H⟩⟩:=x;simp only at hn;subst hn;have ah:n<u.length:=o_
  obtain⟨z,hz⟩:=Zp ah;have ao:=huv z (Kb hz);have u1:=wi (z+1) o_ o_;rw[Ky,hz] at hp;simp (maxSteps:=10^7) +contextual -implicitDefEqProofs only[go_sem,seval,hx,ag,hw,am,ah,hz,u1,Zo2,hul];refine ih (i+1,u.set n (z+1)) _ ⟨p_,by simpa using hul,fun v hv=>?_,hp⟩ p_ ?_
  ·simp only;rcases List.mem_or_eq_of_mem_set hv with h1 | rfl
   ·have:=huv v h1;omega
   ·omega
  ·simp (maxSteps:=10^7) +contextual -implicitDefEqProofs only[go_sem,seval,List.headD_cons,Zo2]
 ·have:i=L.length:=o_
  subst this;rw[ZtL] at hp;simp (maxSteps:=10^7) +contextual -implicitDefEqProofs only[go_sem,seval,hp]
theorem Zew:∀ (b:BT) (x y w h:Int),Zj2 b=false↔plc b x y w h=[]
 | .waste,x,y,w,h=>by simp[Zj2,plc]
 | .pane i t,x,y,w,h=>by simp[Zj2,plc]
 | .cut d a l r,x,y,w,h=>by
  cases d
  ·simp only[Zj2,plc,Kak,Ka,Km,Kac,Zew l x y w a,Zew r x (y+a) w (h-a)]
  ·simp only[Zj2,plc,Kak,Kl,Kac,Zew l x y a h,Zew r (x+a) y (w-a) h]
theorem ZqS:∀ (l:List L.Place) (u:List Int) (i:Nat) (v:Int),u[i]?=some v→∃ z,(WR u l)[i]?=some z∧v≤z
 | [],u,i,v,h=>⟨v,h,Kab _⟩
 | x :: l,u,i,v,h=>by
  rw[WR];by_cases hi:x.Pane.toNat=i
  ·obtain⟨z,h1,h2⟩:=ZqS l (u.set x.Pane.toNat (u[x.Pane.toNat]?.getD 0+1)) i (v+1) (by
    rw[hi,h,LR];have:=(Kc.1 h).1;simp[this])
   exact⟨z,h1,o_⟩
  ·obtain⟨z,h1,h2⟩:=ZqS l (u.set x.Pane.toNat (u[x.Pane.toNat]?.getD 0+1)) i v (by
    rw[Ll hi,h])
   exact⟨z,h1,h2⟩
theorem ZAk {l:List L.Place} {u:List Int} (hl:l≠[]) (hu:∀ v∈u,0≤v) (hn:∀ c∈l,∃ n:Nat,c.Pane=(n:Int)∧n<u.length):∃ v∈WR u l,v≠0:=by
 cases l with
 | nil=>exact absurd rfl hl
 | cons x l=>
  obtain⟨n,h1,h2⟩:=hn x (by simp);obtain⟨v,hv⟩:=Zp h2;have h0:=hu v (Kb hv);rw[WR,h1,Ky,hv];obtain⟨z,h3,h4⟩:=ZqS l (u.set n (v+1)) n (v+1) (by rw[LR];simp[h2]);refine⟨z,Kb (by simpa using h3),o_⟩
theorem Ztq {k:Zt} {p:Zf} (hv:YO k p=true) (hp:Zsi p=true):∃ v∈ZaY k p,v≠0:=by
 obtain⟨b,hb,ae,af,ab,aa,ad⟩:=QM hv;unfold Zsi at hp;rw[hb] at hp;simp only at hp;unfold ZaY;rw[ad,Yl];refine ZAk (fun h=>?_) (fun v hv=>by rw[L7 hv];omega) (fun c hc=>?_)
 ·rw[(Zew b _ _ _ _).2 h] at hp;cases hp
 ·obtain⟨n,h1,h2⟩:=Zat aa c hc;exact⟨n,h1,by simpa using h2⟩
theorem ZxX {k:Zt} {p:Zf} (hv:YO k p=true):(((Qt k p).filterMap Q3).length=0)↔Zsi p=false:=by
 obtain⟨b,hb,ae,af,aa,ab,ad⟩:=QM hv;unfold Zsi;rw[hb,ad,Yl,List.length_eq_zero_iff];exact(Zew b _ _ _ _).symm
def cpV (S:List Zb) (O D:List Zc) (L C:Int):Option Zm→AV×List Zk
 | some t=>((.d (.bool true)),[.box [.own 4,.own 5,.own 6,(.d (J (t.Lost))),(.d (J (t.Came)))],.tree 4 4 (S.map Zb.enc) none,.row 5 (O.map Zc.enc) true false,.row 5 (D.map Zc.enc) true false,.tree 4 4 (t.Stock.map Zb.enc) none,.row 5 (t.Opn.map Zc.enc) true false,.row 5 (t.Done.map Zc.enc) true false])
 | none=>((.d (.bool false)),[.box [.own 1,.own 2,.own 3,(.d (J L)),(.d (J C))],.tree 4 4 (S.map Zb.enc) none,.row 5 (O.map Zc.enc) true false,.row 5 (D.map Zc.enc) true false])
theorem Zr0 (sS:List Zb) (sO sD:List Zc) (sL sC:Int) (eK eL eX eY eW eH ah ai:Int) (aj:Bool) (ak eC eo ea ep:Int) (et:Bool) (ek:List Zf) (hv:ZE (Zm.mk sS sO sD sL sC)):v_ 108 [.ptr 0 0,(.d (.agg [J eK,J eL,J eX,J eY,J eW,J eH,J ah,J ai,.bool aj,J ak,J eC,J eo,J ea,J ep,.bool et,.sl (ek.map Zf.enc)]))] [.box [.own 1,.own 2,.own 3,(.d (J sL)),(.d (J sC))],.tree 4 4 (sS.map Zb.enc) none,.row 5 (sO.map Zc.enc) true false,.row 5 (sD.map Zc.enc) true false]=some (cpV sS sO sD sL sC (ZcP (Zm.mk sS sO sD sL sC) (Zo.mk eK eL (Box.mk eX eY eW eH) (Zc.mk (Pane.mk ah ai aj ak) eC) (Zf.mk eo ea ep et ek)))):=by
 obtain⟨⟨h1,h2,h3,h4⟩,h5,h6,h7,h8,h9⟩:=Zm6 hv;simp only at h1 h2 h3 h4 h5 h6 h7 h8 h9;have hO:=hv.2.1;have hD:=hv.2.2.1;simp only at hO hD;have az:=hO.1;have a4:=hD.1;have e1:=ZlA sS sO sD sL sC eL;unfold Zza at e1;rw[Kj hv] at e1;by_cases hf:Qz 0 sS eL<0
 ·have ec:ZcP (Zm.mk sS sO sD sL sC) (Zo.mk eK eL (Box.mk eX eY eW eH) (Zc.mk (Pane.mk ah ai aj ak) eC) (Zf.mk eo ea ep et ek))=none:=by
   unfold ZcP;simp only;split
   ·rfl
   ·rw[ZtP hf]
  rw[ec];simp only[ZeD hf] at e1;unfold wkV at e1;simp only at e1;unfold cpV;refine cE ?_;simp (maxSteps:=10^7) +contextual -implicitDefEqProofs only[go_sem,seval,Jl,e1]
 ·obtain⟨a,x,ha,hx⟩:=Zas (by omega:0≤Qz 0 sS eL);simp only[Zby ha hx] at e1;unfold wkV at e1;simp only at e1;have e3:=Zsc sS eL x.W x.H (sO.map Zc.Pane) (.mk eo ea ep et ek) 5;have aw:ZcP (Zm.mk sS sO sD sL sC) (Zo.mk eK eL (Box.mk eX eY eW eH) (Zc.mk (Pane.mk ah ai aj ak) eC) (Zf.mk eo ea ep et ek))=match Zar sS eL ⟨x.W,x.H,sO.map Zc.Pane⟩ (.mk eo ea ep et ek) 5 with
   | none=>none
   | some R=>if Zsi (.mk eo ea ep et ek)=true then
     match YS (sO.map Zc.Pane) (ZaY ⟨x.W,x.H,sO.map Zc.Pane⟩ (.mk eo ea ep et ek)) sO sD with
     | none=>none
     | some (o,d)=>some ⟨R,o,d,sL+XS (Zc5 ⟨x.W,x.H,sO.map Zc.Pane⟩ (.mk eo ea ep et ek) 5),sC⟩
    else none:=by
   unfold ZcP;simp only[ha,Ky,hx];try rfl
  rw[aw];clear aw;obtain⟨xL,xW,xH,xF⟩:=x;simp only at e1 e3 ⊢;cases hcs:Zar sS eL ⟨xW,xH,sO.map Zc.Pane⟩ (.mk eo ea ep et ek) 5 with
  | none=>
   rw[hcs] at e3;unfold ZuX at e3;simp only;unfold cpV;rw[Zf.enc_mk] at e3;refine cE ?_;simp (maxSteps:=10^7) +contextual -implicitDefEqProofs only[go_sem,seval,Jl,e1,e3]
  | some R=>
   obtain⟨ab,a5,_⟩:=Zlv hcs;rw[hcs] at e3;unfold ZuX at e3;simp only;have e4:=ZdD xW xH (sO.map Zc.Pane) (.mk eo ea ep et ek);have ad:=ZxX ab;have e5:=Zr5 xW xH (sO.map Zc.Pane) (.mk eo ea ep et ek) 5 ab o_ o_;have e6:=Zwh xW xH (sO.map Zc.Pane) (.mk eo ea ep et ek) ab;have hu:=Zde ab;obtain⟨b,hb,a6,a7,aq,a0,a1⟩:=QM ab;have a2:=Zet (l:=Zc5 ⟨xW,xH,sO.map Zc.Pane⟩ (.mk eo ea ep et ek) 5) (fun c hc=>by
    obtain⟨z,hz,al⟩:=Ls.1 hc;unfold WM at al;split at al
    ·cases al;exact Zbq ab c hz
    ·cases al)
   have a8:(Zc5 ⟨xW,xH,sO.map Zc.Pane⟩ (.mk eo ea ep et ek) 5).length≤255:=by
    refine Ku (Kq _ _) (Ku (Kq _ _) ?_);rw[a1,UX];exact aq
   have ax:=Ztq ab;generalize XS (Zc5 ⟨xW,xH,sO.map Zc.Pane⟩ (.mk eo ea ep et ek) 5)=A at e5 a2 ⊢;generalize ZaY ⟨xW,xH,sO.map Zc.Pane⟩ (.mk eo ea ep et ek)=us at e6 hu ax ⊢;generalize (Qt ⟨xW,xH,sO.map Zc.Pane⟩ (.mk eo ea ep et ek)).filterMap Q3=pl at e4 ad;rw[Zf.enc_mk] at e3 e4 e5 e6;simp only[KB] at hu;have u1:=wi (sL+A) o_ o_;cases hhb:Zsi (.mk eo ea ep et ek) with
   | false=>
    have ar:((pl.length:Int)=0):=by have:=ad.2 hhb;omega
    rw[Ke (by simp)];unfold cpV;refine cE ?_;simp (maxSteps:=10^7) +contextual -implicitDefEqProofs only[go_sem,seval,Jl,e1,e3,e4,ar]
   | true=>
    have ar:¬((pl.length:Int)=0):=fun h=>by
     have h1:pl.length=0:=o_
     rw[ad.1 h1] at hhb;cases hhb
    obtain⟨vz,a3,au⟩:=ax hhb;rw[Kj rfl];refine cE ?_;simp (maxSteps:=10^7) +contextual -implicitDefEqProofs only[go_sem,seval,Jl,e1,e3,e4,e6,ar];refine LO (α:=Nat) (fun s=>[(65,.d (J (s:Int)))]) (fun _=>[]) (fun i=>i≤us.length∧YS ((sO.map Zc.Pane).drop i) (us.drop i) sO sD=YS (sO.map Zc.Pane) us sO sD∧∀ v∈us.take i,v=0) (fun i=>us.length-i) 0 ⟨o_,rfl,by simp⟩ ?_;intro i ⟨hi,hp,av⟩ ih;by_cases am:i<us.length
    ·obtain⟨c,hc⟩:=Zp am;have an:i<sO.length:=o_
     obtain⟨y,hy⟩:=Zp an;have hw:=Zh (k:=i) o_;have ae:=hu.2 c (Kb hc);have af:(sO.map Zc.Pane)[i]?=some y.Pane:=by rw[Ld,hy];rfl
     rw[Zj3 af hc] at hp;obtain⟨⟨W,H,T,K⟩,C⟩:=y;simp only at hp af;by_cases aa:c=0
     ·rw[Kj aa] at hp;simp (maxSteps:=10^7) +contextual -implicitDefEqProofs only[go_sem,seval,am,an,hy,hc,aa,hw];refine ih (i+1) _ ⟨o_,hp,fun v hv=>?_⟩ o_ ?_
      ·rw[KH,hc,Kh] at hv;rcases hv with hv | hv
       ·exact av v hv
       ·simp at hv;omega
      ·simp (maxSteps:=10^7) +contextual -implicitDefEqProofs only[go_sem,seval]
     ·rw[Ke aa] at hp;have et:=J8 sO W H T K c o_ (Zfk hO) (fun x hx=>by have:=(QK hO x hx).2;unfold R64;omega);have ea:=Zbb sD W H T K c o_ (fun x hx=>by have:=(QK hD x hx).2;unfold R64;omega);unfold tkV at et;by_cases ag:Xe ⟨W,H,T,K⟩ c false sO=true
      ·rw[Kj ag] at hp et;simp (maxSteps:=10^7) +contextual -implicitDefEqProofs only[go_sem,seval,am,an,hy,hc,aa,hw,et,ea];refine Yh Xs Ms (st0:=?st1) (α:=Nat×List Zc×List Zc) (fun s=>[(65,.d (J (s.1:Int)))]) (fun s=>[(4,.row 5 (s.2.2.map Zc.enc) true false),(5,.row 5 (s.2.1.map Zc.enc) true false)]) (fun s=>s.1≤us.length∧YS ((sO.map Zc.Pane).drop s.1) (us.drop s.1) s.2.1 s.2.2=YS (sO.map Zc.Pane) us sO sD∧s.2.1.length≤8∧s.2.2.length≤8+s.1∧UL s.2.1∧UL s.2.2∧(∀ x∈s.2.1,0≤x.Count∧x.Count≤24)∧(∀ x∈s.2.2,0≤x.Count∧x.Count≤24+255*s.1)) (fun s=>us.length-s.1) (i+1,XF sO ⟨W,H,T,K⟩ c,Yc ⟨W,H,T,K⟩ c sD) ?hc2 ⟨p_,hp,Ku (Kq _ _) az,Ku (Zcd _ _ _) p_,ZqO (Zfk hO),Zy2 (Zfk hD) o_,Zm7 ae.1 (fun x hx=>(QK hO x hx).2.2),fun x hx=>by
        have:=Zlu (hi:=24) ae.1 o_ (fun x hx=>by have:=(QK hD x hx).2;omega) x hx;simp only;omega⟩ ?h02 ?step2
       case hc2=>simp (maxSteps:=10^7) +contextual -implicitDefEqProofs only[go_sem,seval]<;>exact rfl
       case h02=>rfl
       case step2=>
        intro⟨j,o,d⟩ ⟨hj,hp,ho8,hd8,uo,ud,hoc,hdc⟩ ih;simp only at hj hp ho8 hd8 uo ud hoc hdc;by_cases ao:j<us.length
        ·obtain⟨c,hc⟩:=Zp ao;have ap:j<sO.length:=o_
         obtain⟨y,hy⟩:=Zp ap;have hw:=Zh (k:=j) o_;have ae:=hu.2 c (Kb hc);have af:(sO.map Zc.Pane)[j]?=some y.Pane:=by rw[Ld,hy];rfl
         rw[Zj3 af hc] at hp;obtain⟨⟨W,H,T,K⟩,C⟩:=y;simp only at hp af;by_cases aa:c=0
         ·rw[Kj aa] at hp;simp (maxSteps:=10^7) +contextual -implicitDefEqProofs only[go_sem,seval,ao,ap,hy,hc,aa,hw];refine ih (j+1,o,d) _ ⟨p_,hp,ho8,p_,uo,ud,hoc,fun x hx=>by have:=hdc x hx;simp only;omega⟩ p_ ?_;simp (maxSteps:=10^7) +contextual -implicitDefEqProofs only[go_sem,seval]
         ·rw[Ke aa] at hp;have et:=J8 o W H T K c o_ uo (fun x hx=>by have:=hoc x hx;unfold R64;omega);have ea:=Zbb d W H T K c o_ (fun x hx=>by have:=hdc x hx;unfold R64;omega);unfold tkV at et;by_cases ag:Xe ⟨W,H,T,K⟩ c false o=true
          ·rw[Kj ag] at hp et;simp (maxSteps:=10^7) +contextual -implicitDefEqProofs only[go_sem,seval,ao,ap,hy,hc,aa,hw,et,ea];refine ih (j+1,XF o ⟨W,H,T,K⟩ c,Yc ⟨W,H,T,K⟩ c d) _ ⟨p_,hp,Ku (Kq _ _) ho8,Ku (Zcd _ _ _) p_,ZqO uo,Zy2 ud o_,Zm7 ae.1 (fun x hx=>(hoc x hx).2),fun x hx=>?_⟩ p_ ?_
           ·have:=Zlu ae.1 o_ hdc x hx;simp only;omega
           ·simp (maxSteps:=10^7) +contextual -implicitDefEqProofs only[go_sem,seval]
          ·rw[Ke ag] at hp et;simp (maxSteps:=10^7) +contextual -implicitDefEqProofs only[go_sem,seval,ao,ap,hy,hc,aa,hw,et];rw[← hp];rfl
        ·have:j=sO.length:=o_
         subst this;have ay:=@ZtO (sO.map Zc.Pane) (us.drop sO.length) o d;rw[KB] at ay;rw[ay] at hp;rw[← hp];unfold cpV;simp (maxSteps:=10^7) +contextual -implicitDefEqProofs only[go_sem,seval,e5,u1]
      ·rw[Ke ag] at hp et;simp (maxSteps:=10^7) +contextual -implicitDefEqProofs only[go_sem,seval,am,an,hy,hc,aa,hw,et];rw[← hp];rfl
    ·have:us.take i=us:=Kw o_;rw[this] at av;exact absurd (av vz a3) au
end Go.Proofs.YtfnegoimdljanaaGreatDoor
namespace Go.Proofs.YtfnegoimdljanaaGreatDoor
open Go Go.Abs Go.Abs.E Go.Abs.L
set_option maxRecDepth 20000
set_option maxHeartbeats 4000000
theorem Ztr {q x:Zb}:∀ {l:List Zb} {b:Int} {a:Nat},Xv b l→l[a]?=some x→q.Label=x.Label→QB q (l.eraseIdx a)=l.set a q
 | [],b,a,_,h,_=>by simp at h
 | y :: l,b,0,hs,h,e=>by
  simp only[KT,Option.some.injEq] at h;subst h;simp only[List.eraseIdx_cons_zero,Kaw];cases l with
  | nil=>rfl
  | cons z l=>
   have:=hs.2.2.2.1;unfold QB;rw[Kj o_]
 | y :: l,b,a+1,hs,h,e=>by
  simp only[KU] at h;have ih:=Ztr hs.2.2 h e;have:=ZiA hs.2.2 x (Kb h);simp only[List.eraseIdx_cons_succ,Kad];unfold QB;rw[Ke o_,ih]
theorem ZAl {s:Zm} {e:Zo} {a:Nat} {q:Zb} (hv:ZE s) (hk:e.kind=1) (ha:Qz 0 s.Stock e.label=(a:Int)) (hx:s.Stock[a]?=some q) :
  Qu s e=YA (some { s with Stock:=s.Stock.set a { q with Flaws:=q.Flaws++[e.box] } }):=by
 have h1:=Ztr (q := { q with Flaws:=q.Flaws++[e.box] }) hv.1.2 hx rfl;have h2:Xv 0 (s.Stock.eraseIdx a):=Zho a hv.1.2;unfold Qu evS;rw[Ke o_,Kj hk];simp only[Zby ha hx];by_cases hr:VA { q with Flaws:=q.Flaws++[e.box] } (s.Stock.eraseIdx a)
 ·rw[Kj hr,h1]
 ·rw[Ke hr];unfold YA;simp only;rw[Ke];intro hs;refine hr ⟨⟨⟨?_,h2⟩,?_⟩,?_⟩
  ·have:=hv.1.1;rw[List.length_eraseIdx];split<;>omega
  ·exact ZU hs.1.2 _ (Kb (i:=a) (by rw[LR];simp[(Kc.1 hx).1]))
  ·rw[h1];exact hs.1
theorem Zoo (sS:List Zb) (sO sD:List Zc) (sL sC:Int) (eK eL eX eY eW eH aa ab:Int) (ad:Bool) (ae eC eo ea ep:Int) (et:Bool) (ek:List Zf) (hv:ZE (Zm.mk sS sO sD sL sC)) (h0:eK=0) (ha:VA ⟨eL,eW,eH,[]⟩ sS) (hx:eX=0) (hy:eY=0):v_ 56 [.ptr 0 0,(.d (.agg [J eK,J eL,J eX,J eY,J eW,J eH,J aa,J ab,.bool ad,J ae,J eC,J eo,J ea,J ep,.bool et,.sl (ek.map Zf.enc)]))] [.box [.own 1,.own 2,.own 3,(.d (J sL)),(.d (J sC))],.tree 4 4 (sS.map Zb.enc) none,.row 5 (sO.map Zc.enc) true false,.row 5 (sD.map Zc.enc) true false]=some ((.d (.bool true)),[.box [.own 4,.own 2,.own 3,(.d (J sL)),(.d (J (sC+eW*eH)))],.tree 4 4 (sS.map Zb.enc) none,.row 5 (sO.map Zc.enc) true false,.row 5 (sD.map Zc.enc) true false,.tree 4 4 ((QB ⟨eL,eW,eH,[]⟩ sS).map Zb.enc) none]):=by
 have e1:=ZqR sS sO sD sL sC eK eL eX eY eW eH aa ab ad ae eC eo ea ep et ek hv ha hx hy;subst h0;generalize QB ⟨eL,eW,eH,[]⟩ sS=Q at *;refine cE ?_;simp (maxSteps:=10^7) +contextual -implicitDefEqProofs only[go_sem,seval,Z4,e1]
theorem Zop (sS:List Zb) (sO sD:List Zc) (sL sC:Int) (eK eL eX eY eW eH aa ab:Int) (ad:Bool) (ae eC eo ea ep:Int) (et:Bool) (ek:List Zf) (hv:ZE (Zm.mk sS sO sD sL sC)) (h0:eK=0) (hl:sS.length≤100000) (hn:¬((VA ⟨eL,eW,eH,[]⟩ sS∧eX=0)∧eY=0)):v_ 56 [.ptr 0 0,(.d (.agg [J eK,J eL,J eX,J eY,J eW,J eH,J aa,J ab,.bool ad,J ae,J eC,J eo,J ea,J ep,.bool et,.sl (ek.map Zf.enc)]))] [.box [.own 1,.own 2,.own 3,(.d (J sL)),(.d (J sC))],.tree 4 4 (sS.map Zb.enc) none,.row 5 (sO.map Zc.enc) true false,.row 5 (sD.map Zc.enc) true false]=some ((.d (.bool false)),[.box [.own 1,.own 2,.own 3,(.d (J sL)),(.d (J sC))],.tree 4 4 (sS.map Zb.enc) none,.row 5 (sO.map Zc.enc) true false,.row 5 (sD.map Zc.enc) true false]):=by
 have e1:=ZrY sS sO sD sL sC eK eL eX eY eW eH aa ab ad ae eC eo ea ep et ek hl hn;subst h0;refine cE ?_;simp (maxSteps:=10^7) +contextual -implicitDefEqProofs only[go_sem,seval,Z4,e1]
theorem Zoq (sS:List Zb) (sO sD:List Zc) (sL sC:Int) (eK eL eX eY eW eH aa ab:Int) (ad:Bool) (ae eC eo ea ep:Int) (et:Bool) (ek:List Zf) (hv:ZE (Zm.mk sS sO sD sL sC)) (h0:eK=1) (hl:sS.length≤100000) (a:Nat) (ha:Qz 0 sS eL=(a:Int)) (xL xW xH:Int) (xF:List Box) (hx:sS[a]?=some (Zb.mk xL xW xH xF)) (hF:xF.length≤1000):v_ 56 [.ptr 0 0,(.d (.agg [J eK,J eL,J eX,J eY,J eW,J eH,J aa,J ab,.bool ad,J ae,J eC,J eo,J ea,J ep,.bool et,.sl (ek.map Zf.enc)]))] [.box [.own 1,.own 2,.own 3,(.d (J sL)),(.d (J sC))],.tree 4 4 (sS.map Zb.enc) none,.row 5 (sO.map Zc.enc) true false,.row 5 (sD.map Zc.enc) true false]=some ((.d (.bool true)),[.box [.own 1,.own 2,.own 3,(.d (J sL)),(.d (J sC))],.tree 4 4 ((sS.set a ⟨xL,xW,xH,xF++[⟨eX,eY,eW,eH⟩]⟩).map Zb.enc) none,.row 5 (sO.map Zc.enc) true false,.row 5 (sD.map Zc.enc) true false]):=by
 have e1:=ZrZ sS sO sD sL sC eK eL eX eY eW eH aa ab ad ae eC eo ea ep et ek hl a ha xL xW xH xF hx hF;subst h0;generalize sS.set a ⟨xL,xW,xH,xF++[⟨eX,eY,eW,eH⟩]⟩=Q at *;refine cE ?_;simp (maxSteps:=10^7) +contextual -implicitDefEqProofs only[go_sem,seval,Z4,e1]
theorem Zor (sS:List Zb) (sO sD:List Zc) (sL sC:Int) (eK eL eX eY eW eH aa ab:Int) (ad:Bool) (ae eC eo ea ep:Int) (et:Bool) (ek:List Zf) (hv:ZE (Zm.mk sS sO sD sL sC)) (h0:eK=1) (hl:sS.length≤100000) (hn:Qz 0 sS eL<0):v_ 56 [.ptr 0 0,(.d (.agg [J eK,J eL,J eX,J eY,J eW,J eH,J aa,J ab,.bool ad,J ae,J eC,J eo,J ea,J ep,.bool et,.sl (ek.map Zf.enc)]))] [.box [.own 1,.own 2,.own 3,(.d (J sL)),(.d (J sC))],.tree 4 4 (sS.map Zb.enc) none,.row 5 (sO.map Zc.enc) true false,.row 5 (sD.map Zc.enc) true false]=some ((.d (.bool false)),[.box [.own 1,.own 2,.own 3,(.d (J sL)),(.d (J sC))],.tree 4 4 (sS.map Zb.enc) none,.row 5 (sO.map Zc.enc) true false,.row 5 (sD.map Zc.enc) true false]):=by
 have e1:=ZuI sS sO sD sL sC eK eL eX eY eW eH aa ab ad ae eC eo ea ep et ek hl hn;subst h0;refine cE ?_;simp (maxSteps:=10^7) +contextual -implicitDefEqProofs only[go_sem,seval,Z4,e1]
theorem Zos (sS:List Zb) (sO sD:List Zc) (sL sC:Int) (eK eL eX eY eW eH aa ab:Int) (ad:Bool) (ae eC eo ea ep:Int) (et:Bool) (ek:List Zf) (hv:ZE (Zm.mk sS sO sD sL sC)) (h0:eK=2) (hn:Vn ⟨⟨aa,ab,ad,ae⟩,eC⟩):v_ 56 [.ptr 0 0,(.d (.agg [J eK,J eL,J eX,J eY,J eW,J eH,J aa,J ab,.bool ad,J ae,J eC,J eo,J ea,J ep,.bool et,.sl (ek.map Zf.enc)]))] [.box [.own 1,.own 2,.own 3,(.d (J sL)),(.d (J sC))],.tree 4 4 (sS.map Zb.enc) none,.row 5 (sO.map Zc.enc) true false,.row 5 (sD.map Zc.enc) true false]=some ((.d (.bool true)),[.box [.own 1,.own 4,.own 3,(.d (J sL)),(.d (J sC))],.tree 4 4 (sS.map Zb.enc) none,.row 5 (sO.map Zc.enc) true false,.row 5 (sD.map Zc.enc) true false,.row 5 ((Yc ⟨aa,ab,ad,ae⟩ eC sO).map Zc.enc) true false]):=by
 have e1:=ZmH sS sO sD sL sC eK eL eX eY eW eH aa ab ad ae eC eo ea ep et ek hv hn;subst h0;generalize Yc ⟨aa,ab,ad,ae⟩ eC sO=Q at *;refine cE ?_;simp (maxSteps:=10^7) +contextual -implicitDefEqProofs only[go_sem,seval,Z4,e1]
theorem Zot (sS:List Zb) (sO sD:List Zc) (sL sC:Int) (eK eL eX eY eW eH aa ab:Int) (ad:Bool) (ae eC eo ea ep:Int) (et:Bool) (ek:List Zf) (hv:ZE (Zm.mk sS sO sD sL sC)) (h0:eK=2) (hn:¬Vn ⟨⟨aa,ab,ad,ae⟩,eC⟩):v_ 56 [.ptr 0 0,(.d (.agg [J eK,J eL,J eX,J eY,J eW,J eH,J aa,J ab,.bool ad,J ae,J eC,J eo,J ea,J ep,.bool et,.sl (ek.map Zf.enc)]))] [.box [.own 1,.own 2,.own 3,(.d (J sL)),(.d (J sC))],.tree 4 4 (sS.map Zb.enc) none,.row 5 (sO.map Zc.enc) true false,.row 5 (sD.map Zc.enc) true false]=some ((.d (.bool false)),[.box [.own 1,.own 2,.own 3,(.d (J sL)),(.d (J sC))],.tree 4 4 (sS.map Zb.enc) none,.row 5 (sO.map Zc.enc) true false,.row 5 (sD.map Zc.enc) true false]):=by
 have e1:=Zol sS sO sD sL sC eK eL eX eY eW eH aa ab ad ae eC eo ea ep et ek hn;subst h0;refine cE ?_;simp (maxSteps:=10^7) +contextual -implicitDefEqProofs only[go_sem,seval,Z4,e1]
theorem Zou (sS:List Zb) (sO sD:List Zc) (sL sC:Int) (eK eL eX eY eW eH aa ab:Int) (ad:Bool) (ae eC eo ea ep:Int) (et:Bool) (ek:List Zf) (hv:ZE (Zm.mk sS sO sD sL sC)) (h0:eK=4) (hl:Vn ⟨⟨aa,ab,ad,ae⟩,eC⟩) (hk:Xe ⟨aa,ab,ad,ae⟩ eC false sD=true):v_ 56 [.ptr 0 0,(.d (.agg [J eK,J eL,J eX,J eY,J eW,J eH,J aa,J ab,.bool ad,J ae,J eC,J eo,J ea,J ep,.bool et,.sl (ek.map Zf.enc)]))] [.box [.own 1,.own 2,.own 3,(.d (J sL)),(.d (J sC))],.tree 4 4 (sS.map Zb.enc) none,.row 5 (sO.map Zc.enc) true false,.row 5 (sD.map Zc.enc) true false]=some ((.d (.bool true)),[.box [.own 1,.own 4,.own 5,(.d (J (sL+eC*aa*ab))),(.d (J sC))],.tree 4 4 (sS.map Zb.enc) none,.row 5 (sO.map Zc.enc) true false,.row 5 (sD.map Zc.enc) true false,.row 5 ((Yc ⟨aa,ab,ad,ae⟩ eC sO).map Zc.enc) true false,.row 5 ((XF sD ⟨aa,ab,ad,ae⟩ eC).map Zc.enc) true false]):=by
 have e1:=ZmI sS sO sD sL sC eK eL eX eY eW eH aa ab ad ae eC eo ea ep et ek hv hl hk;subst h0;generalize Yc ⟨aa,ab,ad,ae⟩ eC sO=Q at *;generalize XF sD ⟨aa,ab,ad,ae⟩ eC=Q2 at *;refine cE ?_;simp (maxSteps:=10^7) +contextual -implicitDefEqProofs only[go_sem,seval,Z4,e1]
theorem Zov (sS:List Zb) (sO sD:List Zc) (sL sC:Int) (eK eL eX eY eW eH aa ab:Int) (ad:Bool) (ae eC eo ea ep:Int) (et:Bool) (ek:List Zf) (hv:ZE (Zm.mk sS sO sD sL sC)) (h0:eK=4) (hn:¬(Vn ⟨⟨aa,ab,ad,ae⟩,eC⟩∧Xe ⟨aa,ab,ad,ae⟩ eC false sD=true)):v_ 56 [.ptr 0 0,(.d (.agg [J eK,J eL,J eX,J eY,J eW,J eH,J aa,J ab,.bool ad,J ae,J eC,J eo,J ea,J ep,.bool et,.sl (ek.map Zf.enc)]))] [.box [.own 1,.own 2,.own 3,(.d (J sL)),(.d (J sC))],.tree 4 4 (sS.map Zb.enc) none,.row 5 (sO.map Zc.enc) true false,.row 5 (sD.map Zc.enc) true false]=some ((.d (.bool false)),[.box [.own 1,.own 2,.own 3,(.d (J sL)),(.d (J sC))],.tree 4 4 (sS.map Zb.enc) none,.row 5 (sO.map Zc.enc) true false,.row 5 (sD.map Zc.enc) true false]):=by
 have e1:=Zom sS sO sD sL sC eK eL eX eY eW eH aa ab ad ae eC eo ea ep et ek hv hn;subst h0;refine cE ?_;simp (maxSteps:=10^7) +contextual -implicitDefEqProofs only[go_sem,seval,Z4,e1]
theorem Zow (sS:List Zb) (sO sD:List Zc) (sL sC:Int) (eK eL eX eY eW eH aa ab:Int) (ad:Bool) (ae eC eo ea ep:Int) (et:Bool) (ek:List Zf) (hv:ZE (Zm.mk sS sO sD sL sC)) (h0:eK=5) (a:Nat) (ha:Qz 0 sS eL=(a:Int)) (xL xW xH:Int) (xF:List Box) (hx:sS[a]?=some (Zb.mk xL xW xH xF)):v_ 56 [.ptr 0 0,(.d (.agg [J eK,J eL,J eX,J eY,J eW,J eH,J aa,J ab,.bool ad,J ae,J eC,J eo,J ea,J ep,.bool et,.sl (ek.map Zf.enc)]))] [.box [.own 1,.own 2,.own 3,(.d (J sL)),(.d (J sC))],.tree 4 4 (sS.map Zb.enc) none,.row 5 (sO.map Zc.enc) true false,.row 5 (sD.map Zc.enc) true false]=some ((.d (.bool true)),[.box [.own 4,.own 2,.own 3,(.d (J (sL+xW*xH))),(.d (J sC))],.tree 4 4 (sS.map Zb.enc) none,.row 5 (sO.map Zc.enc) true false,.row 5 (sD.map Zc.enc) true false,.tree 4 4 ((sS.eraseIdx a).map Zb.enc) none]):=by
 have e1:=ZmJ sS sO sD sL sC eK eL eX eY eW eH aa ab ad ae eC eo ea ep et ek hv a ha xL xW xH xF hx;subst h0;generalize sS.eraseIdx a=Q at *;refine cE ?_;simp (maxSteps:=10^7) +contextual -implicitDefEqProofs only[go_sem,seval,Z4,e1]
theorem Zox (sS:List Zb) (sO sD:List Zc) (sL sC:Int) (eK eL eX eY eW eH aa ab:Int) (ad:Bool) (ae eC eo ea ep:Int) (et:Bool) (ek:List Zf) (hv:ZE (Zm.mk sS sO sD sL sC)) (h0:eK=5) (hn:Qz 0 sS eL<0):v_ 56 [.ptr 0 0,(.d (.agg [J eK,J eL,J eX,J eY,J eW,J eH,J aa,J ab,.bool ad,J ae,J eC,J eo,J ea,J ep,.bool et,.sl (ek.map Zf.enc)]))] [.box [.own 1,.own 2,.own 3,(.d (J sL)),(.d (J sC))],.tree 4 4 (sS.map Zb.enc) none,.row 5 (sO.map Zc.enc) true false,.row 5 (sD.map Zc.enc) true false]=some ((.d (.bool false)),[.box [.own 1,.own 2,.own 3,(.d (J sL)),(.d (J sC))],.tree 4 4 (sS.map Zb.enc) none,.row 5 (sO.map Zc.enc) true false,.row 5 (sD.map Zc.enc) true false]):=by
 have e1:=Zon sS sO sD sL sC eK eL eX eY eW eH aa ab ad ae eC eo ea ep et ek hn;subst h0;refine cE ?_;simp (maxSteps:=10^7) +contextual -implicitDefEqProofs only[go_sem,seval,Z4,e1]
theorem ZqT (sS:List Zb) (sO sD:List Zc) (sL sC:Int) (eK eL eX eY eW eH aa ab:Int) (ad:Bool) (ae eC eo ea ep:Int) (et:Bool) (ek:List Zf) (hv:ZE (Zm.mk sS sO sD sL sC)) (h0:eK=3):v_ 56 [.ptr 0 0,(.d (.agg [J eK,J eL,J eX,J eY,J eW,J eH,J aa,J ab,.bool ad,J ae,J eC,J eo,J ea,J ep,.bool et,.sl (ek.map Zf.enc)]))] [.box [.own 1,.own 2,.own 3,(.d (J sL)),(.d (J sC))],.tree 4 4 (sS.map Zb.enc) none,.row 5 (sO.map Zc.enc) true false,.row 5 (sD.map Zc.enc) true false]=some (cpV sS sO sD sL sC (ZcP (Zm.mk sS sO sD sL sC) (Zo.mk eK eL (Box.mk eX eY eW eH) (Zc.mk (Pane.mk aa ab ad ae) eC) (Zf.mk eo ea ep et ek)))):=by
 have e1:=Zr0 sS sO sD sL sC eK eL eX eY eW eH aa ab ad ae eC eo ea ep et ek hv;subst h0;generalize ZcP (Zm.mk sS sO sD sL sC) (Zo.mk 3 eL (Box.mk eX eY eW eH) (Zc.mk (Pane.mk aa ab ad ae) eC) (Zf.mk eo ea ep et ek))=t at *;cases t with
 | none=>
  unfold cpV at e1 ⊢;refine cE ?_;simp (maxSteps:=10^7) +contextual -implicitDefEqProofs only[go_sem,seval,Z4,e1]
 | some t=>
  unfold cpV at e1 ⊢;obtain⟨a,b,c,d,f⟩:=t;simp only at e1 ⊢;refine cE ?_;simp (maxSteps:=10^7) +contextual -implicitDefEqProofs only[go_sem,seval,Z4,e1]
theorem ZqU (sS:List Zb) (sO sD:List Zc) (sL sC:Int) (eK eL eX eY eW eH aa ab:Int) (ad:Bool) (ae eC eo ea ep:Int) (et:Bool) (ek:List Zf) (h0:¬eK=0) (h1:¬eK=1) (h2:¬eK=2) (h3:¬eK=3) (h4:¬eK=4) (h5:¬eK=5):v_ 56 [.ptr 0 0,(.d (.agg [J eK,J eL,J eX,J eY,J eW,J eH,J aa,J ab,.bool ad,J ae,J eC,J eo,J ea,J ep,.bool et,.sl (ek.map Zf.enc)]))] [.box [.own 1,.own 2,.own 3,(.d (J sL)),(.d (J sC))],.tree 4 4 (sS.map Zb.enc) none,.row 5 (sO.map Zc.enc) true false,.row 5 (sD.map Zc.enc) true false]=some ((.d (.bool false)),[.box [.own 1,.own 2,.own 3,(.d (J sL)),(.d (J sC))],.tree 4 4 (sS.map Zb.enc) none,.row 5 (sO.map Zc.enc) true false,.row 5 (sD.map Zc.enc) true false]):=by
 refine cE ?_;simp (maxSteps:=10^7) +contextual -implicitDefEqProofs only[go_sem,seval,Z4,h0,h1,h2,h3,h4,h5]
def shT:Option Zm→AV×List Zk
 | some s=>(.tup [.agg [.own 0,.own 1,.own 2,(.d (J (s.Lost))),(.d (J (s.Came)))],(.d (.bool true))],[.tree 4 4 (s.Stock.map Zb.enc) none,.row 5 (s.Opn.map Zc.enc) true false,.row 5 (s.Done.map Zc.enc) true false])
 | none=>(.tup [.agg [.own 0,.own 1,.own 2,(.d (J 0)),(.d (J 0))],(.d (.bool false))],[.row 4 [] true false,.row 5 [] true false,.row 5 [] true false])
theorem ZmK (sS:List Zb) (sO sD:List Zc) (sL sC:Int) (eK eL eX eY eW eH aa ab:Int) (ad:Bool) (ae eC eo ea ep:Int) (et:Bool) (ek:List Zf) (hv:¬ZE (Zm.mk sS sO sD sL sC)):v_ 24 [(.d (.agg [.sl (sS.map Zb.enc),.sl (sO.map Zc.enc),.sl (sD.map Zc.enc),J sL,J sC])),(.d (.agg [J eK,J eL,J eX,J eY,J eW,J eH,J aa,J ab,.bool ad,J ae,J eC,J eo,J ea,J ep,.bool et,.sl (ek.map Zf.enc)]))] []=some (shT none):=by
 have e1:=ZT sS sO sD sL sC;rw[Ki hv] at e1;unfold shT;refine cE ?_;simp (maxSteps:=10^7) +contextual -implicitDefEqProofs only[go_sem,seval,Z9,e1]
theorem XP (sS:List Zb) (sO sD:List Zc) (sL sC:Int) (eK eL eX eY eW eH aa ab:Int) (ad:Bool) (ae eC eo ea ep:Int) (et:Bool) (ek:List Zf) (hv:ZE (Zm.mk sS sO sD sL sC)) (hc:v_ 56 [.ptr 0 0,(.d (.agg [J eK,J eL,J eX,J eY,J eW,J eH,J aa,J ab,.bool ad,J ae,J eC,J eo,J ea,J ep,.bool et,.sl (ek.map Zf.enc)]))] [.box [.own 1,.own 2,.own 3,(.d (J sL)),(.d (J sC))],.tree 4 4 (sS.map Zb.enc) none,.row 5 (sO.map Zc.enc) true false,.row 5 (sD.map Zc.enc) true false]=some ((.d (.bool false)),[.box [.own 1,.own 2,.own 3,(.d (J sL)),(.d (J sC))],.tree 4 4 (sS.map Zb.enc) none,.row 5 (sO.map Zc.enc) true false,.row 5 (sD.map Zc.enc) true false])):v_ 24 [(.d (.agg [.sl (sS.map Zb.enc),.sl (sO.map Zc.enc),.sl (sD.map Zc.enc),J sL,J sC])),(.d (.agg [J eK,J eL,J eX,J eY,J eW,J eH,J aa,J ab,.bool ad,J ae,J eC,J eo,J ea,J ep,.bool et,.sl (ek.map Zf.enc)]))] []=some (shT none):=by
 have e1:=ZT sS sO sD sL sC;rw[Kg hv] at e1;have e2:=Yy sS sO sD sL sC (YR hv);unfold shT;refine cE ?_;simp (maxSteps:=10^7) +contextual -implicitDefEqProofs only[go_sem,seval,Z9,e1,e2,hc]
theorem Zgc (sS:List Zb) (sO sD:List Zc) (sL sC:Int) (eK eL eX eY eW eH ab ad:Int) (ae:Bool) (af eC eo ea ep:Int) (et:Bool) (ek:List Zf) (hv:ZE (Zm.mk sS sO sD sL sC)) (tS:List Zb) (tO tD:List Zc) (tL tC:Int) (hc:v_ 56 [.ptr 0 0,(.d (.agg [J eK,J eL,J eX,J eY,J eW,J eH,J ab,J ad,.bool ae,J af,J eC,J eo,J ea,J ep,.bool et,.sl (ek.map Zf.enc)]))] [.box [.own 1,.own 2,.own 3,(.d (J sL)),(.d (J sC))],.tree 4 4 (sS.map Zb.enc) none,.row 5 (sO.map Zc.enc) true false,.row 5 (sD.map Zc.enc) true false]=some ((.d (.bool true)),[.box [.own 4,.own 2,.own 3,(.d (J tL)),(.d (J tC))],.tree 4 4 (sS.map Zb.enc) none,.row 5 (sO.map Zc.enc) true false,.row 5 (sD.map Zc.enc) true false,.tree 4 4 (tS.map Zb.enc) none])):v_ 24 [(.d (.agg [.sl (sS.map Zb.enc),.sl (sO.map Zc.enc),.sl (sD.map Zc.enc),J sL,J sC])),(.d (.agg [J eK,J eL,J eX,J eY,J eW,J eH,J ab,J ad,.bool ae,J af,J eC,J eo,J ea,J ep,.bool et,.sl (ek.map Zf.enc)]))] []=some (shT (YA (some ⟨tS,sO,sD,tL,tC⟩))):=by
 have e1:=ZT sS sO sD sL sC;rw[Kg hv] at e1;have e2:=Yy sS sO sD sL sC (YR hv);have e3:=ZT tS sO sD tL tC;unfold YA;by_cases aa:ZE ⟨tS,sO,sD,tL,tC⟩
 ·rw[Kg aa] at e3;simp only[Kj aa];unfold shT;refine cE ?_;simp (maxSteps:=10^7) +contextual -implicitDefEqProofs only[go_sem,seval,Z9,e1,e2,hc,e3]
 ·rw[Ki aa] at e3;simp only[Ke aa];unfold shT;refine cE ?_;simp (maxSteps:=10^7) +contextual -implicitDefEqProofs only[go_sem,seval,Z9,e1,e2,hc,e3]
theorem Zoy (sS:List Zb) (sO sD:List Zc) (sL sC:Int) (eK eL eX eY eW eH ab ad:Int) (ae:Bool) (af eC eo ea ep:Int) (et:Bool) (ek:List Zf) (hv:ZE (Zm.mk sS sO sD sL sC)) (tS:List Zb) (tO tD:List Zc) (tL tC:Int) (hc:v_ 56 [.ptr 0 0,(.d (.agg [J eK,J eL,J eX,J eY,J eW,J eH,J ab,J ad,.bool ae,J af,J eC,J eo,J ea,J ep,.bool et,.sl (ek.map Zf.enc)]))] [.box [.own 1,.own 2,.own 3,(.d (J sL)),(.d (J sC))],.tree 4 4 (sS.map Zb.enc) none,.row 5 (sO.map Zc.enc) true false,.row 5 (sD.map Zc.enc) true false]=some ((.d (.bool true)),[.box [.own 1,.own 2,.own 3,(.d (J tL)),(.d (J tC))],.tree 4 4 (tS.map Zb.enc) none,.row 5 (sO.map Zc.enc) true false,.row 5 (sD.map Zc.enc) true false])):v_ 24 [(.d (.agg [.sl (sS.map Zb.enc),.sl (sO.map Zc.enc),.sl (sD.map Zc.enc),J sL,J sC])),(.d (.agg [J eK,J eL,J eX,J eY,J eW,J eH,J ab,J ad,.bool ae,J af,J eC,J eo,J ea,J ep,.bool et,.sl (ek.map Zf.enc)]))] []=some (shT (YA (some ⟨tS,sO,sD,tL,tC⟩))):=by
 have e1:=ZT sS sO sD sL sC;rw[Kg hv] at e1;have e2:=Yy sS sO sD sL sC (YR hv);have e3:=ZT tS sO sD tL tC;unfold YA;by_cases aa:ZE ⟨tS,sO,sD,tL,tC⟩
 ·rw[Kg aa] at e3;simp only[Kj aa];unfold shT;refine cE ?_;simp (maxSteps:=10^7) +contextual -implicitDefEqProofs only[go_sem,seval,Z9,e1,e2,hc,e3]
 ·rw[Ki aa] at e3;simp only[Ke aa];unfold shT;refine cE ?_;simp (maxSteps:=10^7) +contextual -implicitDefEqProofs only[go_sem,seval,Z9,e1,e2,hc,e3]
theorem Zoz (sS:List Zb) (sO sD:List Zc) (sL sC:Int) (eK eL eX eY eW eH ab ad:Int) (ae:Bool) (af eC eo ea ep:Int) (et:Bool) (ek:List Zf) (hv:ZE (Zm.mk sS sO sD sL sC)) (tS:List Zb) (tO tD:List Zc) (tL tC:Int) (hc:v_ 56 [.ptr 0 0,(.d (.agg [J eK,J eL,J eX,J eY,J eW,J eH,J ab,J ad,.bool ae,J af,J eC,J eo,J ea,J ep,.bool et,.sl (ek.map Zf.enc)]))] [.box [.own 1,.own 2,.own 3,(.d (J sL)),(.d (J sC))],.tree 4 4 (sS.map Zb.enc) none,.row 5 (sO.map Zc.enc) true false,.row 5 (sD.map Zc.enc) true false]=some ((.d (.bool true)),[.box [.own 1,.own 4,.own 3,(.d (J tL)),(.d (J tC))],.tree 4 4 (sS.map Zb.enc) none,.row 5 (sO.map Zc.enc) true false,.row 5 (sD.map Zc.enc) true false,.row 5 (tO.map Zc.enc) true false])):v_ 24 [(.d (.agg [.sl (sS.map Zb.enc),.sl (sO.map Zc.enc),.sl (sD.map Zc.enc),J sL,J sC])),(.d (.agg [J eK,J eL,J eX,J eY,J eW,J eH,J ab,J ad,.bool ae,J af,J eC,J eo,J ea,J ep,.bool et,.sl (ek.map Zf.enc)]))] []=some (shT (YA (some ⟨sS,tO,sD,tL,tC⟩))):=by
 have e1:=ZT sS sO sD sL sC;rw[Kg hv] at e1;have e2:=Yy sS sO sD sL sC (YR hv);have e3:=ZT sS tO sD tL tC;unfold YA;by_cases aa:ZE ⟨sS,tO,sD,tL,tC⟩
 ·rw[Kg aa] at e3;simp only[Kj aa];unfold shT;refine cE ?_;simp (maxSteps:=10^7) +contextual -implicitDefEqProofs only[go_sem,seval,Z9,e1,e2,hc,e3]
 ·rw[Ki aa] at e3;simp only[Ke aa];unfold shT;refine cE ?_;simp (maxSteps:=10^7) +contextual -implicitDefEqProofs only[go_sem,seval,Z9,e1,e2,hc,e3]
theorem ZoA (sS:List Zb) (sO sD:List Zc) (sL sC:Int) (eK eL eX eY eW eH ab ad:Int) (ae:Bool) (af eC eo ea ep:Int) (et:Bool) (ek:List Zf) (hv:ZE (Zm.mk sS sO sD sL sC)) (tS:List Zb) (tO tD:List Zc) (tL tC:Int) (hc:v_ 56 [.ptr 0 0,(.d (.agg [J eK,J eL,J eX,J eY,J eW,J eH,J ab,J ad,.bool ae,J af,J eC,J eo,J ea,J ep,.bool et,.sl (ek.map Zf.enc)]))] [.box [.own 1,.own 2,.own 3,(.d (J sL)),(.d (J sC))],.tree 4 4 (sS.map Zb.enc) none,.row 5 (sO.map Zc.enc) true false,.row 5 (sD.map Zc.enc) true false]=some ((.d (.bool true)),[.box [.own 1,.own 4,.own 5,(.d (J tL)),(.d (J tC))],.tree 4 4 (sS.map Zb.enc) none,.row 5 (sO.map Zc.enc) true false,.row 5 (sD.map Zc.enc) true false,.row 5 (tO.map Zc.enc) true false,.row 5 (tD.map Zc.enc) true false])):v_ 24 [(.d (.agg [.sl (sS.map Zb.enc),.sl (sO.map Zc.enc),.sl (sD.map Zc.enc),J sL,J sC])),(.d (.agg [J eK,J eL,J eX,J eY,J eW,J eH,J ab,J ad,.bool ae,J af,J eC,J eo,J ea,J ep,.bool et,.sl (ek.map Zf.enc)]))] []=some (shT (YA (some ⟨sS,tO,tD,tL,tC⟩))):=by
 have e1:=ZT sS sO sD sL sC;rw[Kg hv] at e1;have e2:=Yy sS sO sD sL sC (YR hv);have e3:=ZT sS tO tD tL tC;unfold YA;by_cases aa:ZE ⟨sS,tO,tD,tL,tC⟩
 ·rw[Kg aa] at e3;simp only[Kj aa];unfold shT;refine cE ?_;simp (maxSteps:=10^7) +contextual -implicitDefEqProofs only[go_sem,seval,Z9,e1,e2,hc,e3]
 ·rw[Ki aa] at e3;simp only[Ke aa];unfold shT;refine cE ?_;simp (maxSteps:=10^7) +contextual -implicitDefEqProofs only[go_sem,seval,Z9,e1,e2,hc,e3]
theorem ZoB (sS:List Zb) (sO sD:List Zc) (sL sC:Int) (eK eL eX eY eW eH ab ad:Int) (ae:Bool) (af eC eo ea ep:Int) (et:Bool) (ek:List Zf) (hv:ZE (Zm.mk sS sO sD sL sC)) (tS:List Zb) (tO tD:List Zc) (tL tC:Int) (hc:v_ 56 [.ptr 0 0,(.d (.agg [J eK,J eL,J eX,J eY,J eW,J eH,J ab,J ad,.bool ae,J af,J eC,J eo,J ea,J ep,.bool et,.sl (ek.map Zf.enc)]))] [.box [.own 1,.own 2,.own 3,(.d (J sL)),(.d (J sC))],.tree 4 4 (sS.map Zb.enc) none,.row 5 (sO.map Zc.enc) true false,.row 5 (sD.map Zc.enc) true false]=some ((.d (.bool true)),[.box [.own 4,.own 5,.own 6,(.d (J tL)),(.d (J tC))],.tree 4 4 (sS.map Zb.enc) none,.row 5 (sO.map Zc.enc) true false,.row 5 (sD.map Zc.enc) true false,.tree 4 4 (tS.map Zb.enc) none,.row 5 (tO.map Zc.enc) true false,.row 5 (tD.map Zc.enc) true false])):v_ 24 [(.d (.agg [.sl (sS.map Zb.enc),.sl (sO.map Zc.enc),.sl (sD.map Zc.enc),J sL,J sC])),(.d (.agg [J eK,J eL,J eX,J eY,J eW,J eH,J ab,J ad,.bool ae,J af,J eC,J eo,J ea,J ep,.bool et,.sl (ek.map Zf.enc)]))] []=some (shT (YA (some ⟨tS,tO,tD,tL,tC⟩))):=by
 have e1:=ZT sS sO sD sL sC;rw[Kg hv] at e1;have e2:=Yy sS sO sD sL sC (YR hv);have e3:=ZT tS tO tD tL tC;unfold YA;by_cases aa:ZE ⟨tS,tO,tD,tL,tC⟩
 ·rw[Kg aa] at e3;simp only[Kj aa];unfold shT;refine cE ?_;simp (maxSteps:=10^7) +contextual -implicitDefEqProofs only[go_sem,seval,Z9,e1,e2,hc,e3]
 ·rw[Ki aa] at e3;simp only[Ke aa];unfold shT;refine cE ?_;simp (maxSteps:=10^7) +contextual -implicitDefEqProofs only[go_sem,seval,Z9,e1,e2,hc,e3]
theorem Vk (sS:List Zb) (sO sD:List Zc) (sL sC:Int) (eK eL eX eY eW eH aa ab:Int) (ad:Bool) (ae eC eo ea ep:Int) (et:Bool) (ek:List Zf):v_ 24 [(.d (.agg [.sl (sS.map Zb.enc),.sl (sO.map Zc.enc),.sl (sD.map Zc.enc),J sL,J sC])),(.d (.agg [J eK,J eL,J eX,J eY,J eW,J eH,J aa,J ab,.bool ad,J ae,J eC,J eo,J ea,J ep,.bool et,.sl (ek.map Zf.enc)]))] []=some (shT (if ZE (Zm.mk sS sO sD sL sC) then Qu (Zm.mk sS sO sD sL sC) (Zo.mk eK eL (Box.mk eX eY eW eH) (Zc.mk (Pane.mk aa ab ad ae) eC) (Zf.mk eo ea ep et ek)) else none)):=by
 by_cases hv:ZE (Zm.mk sS sO sD sL sC)
 ·rw[Kj hv];have af:sS.length≤100000:=by have:=hv.1.1;simp only at this;omega
  by_cases k0:eK=0
  ·by_cases hr:(VA ⟨eL,eW,eH,[]⟩ sS∧eX=0)∧eY=0
   ·have ee:Qu (Zm.mk sS sO sD sL sC) (Zo.mk eK eL (Box.mk eX eY eW eH) (Zc.mk (Pane.mk aa ab ad ae) eC) (Zf.mk eo ea ep et ek))=YA (some (Zm.mk (QB ⟨eL,eW,eH,[]⟩ sS) sO sD sL (sC+eW*eH))):=by unfold Qu evS;simp only[k0,hr,Kl,and_self]
    rw[ee];exact Zgc sS sO sD sL sC eK eL eX eY eW eH aa ab ad ae eC eo ea ep et ek hv _ sO sD _ _ (Zoo sS sO sD sL sC eK eL eX eY eW eH aa ab ad ae eC eo ea ep et ek hv k0 hr.1.1 hr.1.2 hr.2)
   ·have ee:Qu (Zm.mk sS sO sD sL sC) (Zo.mk eK eL (Box.mk eX eY eW eH) (Zc.mk (Pane.mk aa ab ad ae) eC) (Zf.mk eo ea ep et ek))=none:=by unfold Qu evS;simp only[k0,Kl];rw[Ke hr];rfl
    rw[ee];exact XP sS sO sD sL sC eK eL eX eY eW eH aa ab ad ae eC eo ea ep et ek hv (Zop sS sO sD sL sC eK eL eX eY eW eH aa ab ad ae eC eo ea ep et ek hv k0 af hr)
  ·by_cases k1:eK=1
   ·by_cases hf:Qz 0 sS eL<0
    ·have ee:Qu (Zm.mk sS sO sD sL sC) (Zo.mk eK eL (Box.mk eX eY eW eH) (Zc.mk (Pane.mk aa ab ad ae) eC) (Zf.mk eo ea ep et ek))=none:=by unfold Qu evS;simp[k1,ZeD hf,YA]
     rw[ee];exact XP sS sO sD sL sC eK eL eX eY eW eH aa ab ad ae eC eo ea ep et ek hv (Zor sS sO sD sL sC eK eL eX eY eW eH aa ab ad ae eC eo ea ep et ek hv k1 af hf)
    ·obtain⟨a,x,ha,hx⟩:=Zas (by omega:0≤Qz 0 sS eL);have ag:=(ZU hv.1.2 x (Kb hx)).1;obtain⟨xL,xW,xH,xF⟩:=x;simp only at ag;rw[ZAl hv k1 ha hx];exact Zoy sS sO sD sL sC eK eL eX eY eW eH aa ab ad ae eC eo ea ep et ek hv _ sO sD _ _ (Zoq sS sO sD sL sC eK eL eX eY eW eH aa ab ad ae eC eo ea ep et ek hv k1 af a ha xL xW xH xF hx o_)
   ·by_cases k5:eK=5
    ·by_cases hf:Qz 0 sS eL<0
     ·have ee:Qu (Zm.mk sS sO sD sL sC) (Zo.mk eK eL (Box.mk eX eY eW eH) (Zc.mk (Pane.mk aa ab ad ae) eC) (Zf.mk eo ea ep et ek))=none:=by unfold Qu evS;simp[k5,ZeD hf,YA]
      rw[ee];exact XP sS sO sD sL sC eK eL eX eY eW eH aa ab ad ae eC eo ea ep et ek hv (Zox sS sO sD sL sC eK eL eX eY eW eH aa ab ad ae eC eo ea ep et ek hv k5 hf)
     ·obtain⟨a,x,ha,hx⟩:=Zas (by omega:0≤Qz 0 sS eL);obtain⟨xL,xW,xH,xF⟩:=x;have ee:Qu (Zm.mk sS sO sD sL sC) (Zo.mk eK eL (Box.mk eX eY eW eH) (Zc.mk (Pane.mk aa ab ad ae) eC) (Zf.mk eo ea ep et ek))=YA (some (Zm.mk (sS.eraseIdx a) sO sD (sL+xW*xH) sC)):=by unfold Qu evS;simp[k5,Zby ha hx]
      rw[ee];exact Zgc sS sO sD sL sC eK eL eX eY eW eH aa ab ad ae eC eo ea ep et ek hv _ sO sD _ _ (Zow sS sO sD sL sC eK eL eX eY eW eH aa ab ad ae eC eo ea ep et ek hv k5 a ha xL xW xH xF hx)
    ·by_cases k2:eK=2
     ·by_cases hl:Vn ⟨⟨aa,ab,ad,ae⟩,eC⟩
      ·have ee:Qu (Zm.mk sS sO sD sL sC) (Zo.mk eK eL (Box.mk eX eY eW eH) (Zc.mk (Pane.mk aa ab ad ae) eC) (Zf.mk eo ea ep et ek))=YA (some (Zm.mk sS (Yc ⟨aa,ab,ad,ae⟩ eC sO) sD sL sC)):=by unfold Qu evS;simp[k2,hl]
       rw[ee];exact Zoz sS sO sD sL sC eK eL eX eY eW eH aa ab ad ae eC eo ea ep et ek hv sS _ sD _ _ (Zos sS sO sD sL sC eK eL eX eY eW eH aa ab ad ae eC eo ea ep et ek hv k2 hl)
      ·have ee:Qu (Zm.mk sS sO sD sL sC) (Zo.mk eK eL (Box.mk eX eY eW eH) (Zc.mk (Pane.mk aa ab ad ae) eC) (Zf.mk eo ea ep et ek))=none:=by unfold Qu evS;simp[k2,hl,YA]
       rw[ee];exact XP sS sO sD sL sC eK eL eX eY eW eH aa ab ad ae eC eo ea ep et ek hv (Zot sS sO sD sL sC eK eL eX eY eW eH aa ab ad ae eC eo ea ep et ek hv k2 hl)
     ·by_cases k4:eK=4
      ·by_cases hl:Vn ⟨⟨aa,ab,ad,ae⟩,eC⟩∧Xe ⟨aa,ab,ad,ae⟩ eC false sD=true
       ·have ee:Qu (Zm.mk sS sO sD sL sC) (Zo.mk eK eL (Box.mk eX eY eW eH) (Zc.mk (Pane.mk aa ab ad ae) eC) (Zf.mk eo ea ep et ek))=YA (some (Zm.mk sS (Yc ⟨aa,ab,ad,ae⟩ eC sO) (XF sD ⟨aa,ab,ad,ae⟩ eC) (sL+eC*aa*ab) sC)):=by unfold Qu evS;simp[k4,hl]
        rw[ee];exact ZoA sS sO sD sL sC eK eL eX eY eW eH aa ab ad ae eC eo ea ep et ek hv sS _ _ _ _ (Zou sS sO sD sL sC eK eL eX eY eW eH aa ab ad ae eC eo ea ep et ek hv k4 hl.1 hl.2)
       ·have ee:Qu (Zm.mk sS sO sD sL sC) (Zo.mk eK eL (Box.mk eX eY eW eH) (Zc.mk (Pane.mk aa ab ad ae) eC) (Zf.mk eo ea ep et ek))=none:=by unfold Qu evS;simp only[k4];simp[hl,YA]
        rw[ee];exact XP sS sO sD sL sC eK eL eX eY eW eH aa ab ad ae eC eo ea ep et ek hv (Zov sS sO sD sL sC eK eL eX eY eW eH aa ab ad ae eC eo ea ep et ek hv k4 hl)
      ·by_cases k3:eK=3
       ·have hc:=ZqT sS sO sD sL sC eK eL eX eY eW eH aa ab ad ae eC eo ea ep et ek hv k3;have ee:Qu (Zm.mk sS sO sD sL sC) (Zo.mk eK eL (Box.mk eX eY eW eH) (Zc.mk (Pane.mk aa ab ad ae) eC) (Zf.mk eo ea ep et ek))=YA (ZcP (Zm.mk sS sO sD sL sC) (Zo.mk eK eL (Box.mk eX eY eW eH) (Zc.mk (Pane.mk aa ab ad ae) eC) (Zf.mk eo ea ep et ek))):=by unfold Qu evS;simp[k3]
        rw[ee];generalize ZcP (Zm.mk sS sO sD sL sC) (Zo.mk eK eL (Box.mk eX eY eW eH) (Zc.mk (Pane.mk aa ab ad ae) eC) (Zf.mk eo ea ep et ek))=t at hc;cases t with
        | none=>exact XP sS sO sD sL sC eK eL eX eY eW eH aa ab ad ae eC eo ea ep et ek hv hc
        | some t=>
         obtain⟨a,b,c,d,f⟩:=t;exact ZoB sS sO sD sL sC eK eL eX eY eW eH aa ab ad ae eC eo ea ep et ek hv a b c d f hc
       ·have ee:Qu (Zm.mk sS sO sD sL sC) (Zo.mk eK eL (Box.mk eX eY eW eH) (Zc.mk (Pane.mk aa ab ad ae) eC) (Zf.mk eo ea ep et ek))=none:=by unfold Qu evS;simp[k0,k1,k2,k3,k4,k5,YA]
        rw[ee];exact XP sS sO sD sL sC eK eL eX eY eW eH aa ab ad ae eC eo ea ep et ek hv (ZqU sS sO sD sL sC eK eL eX eY eW eH aa ab ad ae eC eo ea ep et ek k0 k1 k2 k3 k4 k5)
 ·rw[Ke hv];exact ZmK sS sO sD sL sC eK eL eX eY eW eH aa ab ad ae eC eo ea ep et ek hv
end Go.Proofs.YtfnegoimdljanaaGreatDoor
