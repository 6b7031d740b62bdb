import Derived.Test.YtfnegoimdljanaaGreatDoorBC6
set_option linter.unusedSimpArgs false
set_option linter.unusedVariables false
namespace Go.Proofs.YtfnegoimdljanaaGreatDoor
open Go Go.Abs Go.Abs.E Go.Abs.L
set_option maxRecDepth 20000
set_option maxHeartbeats 4000000
def UL (l:List Zc):Prop:=(l.map Zc.Pane).Nodup∧∀ x∈l,1≤x.Count
theorem Zr4:∀ {l:List Zc} {q:List Pane},Zk7 q l→(l.map Zc.Pane).Nodup∧∀ p∈l.map Zc.Pane,p∉q
 | [],_,_=>by simp
 | x :: l,q,h=>by
  obtain⟨h1,h2,h3,h4,h5⟩:=h;obtain⟨a,b⟩:=Zr4 h5;refine⟨?_,?_⟩
  ·rw[Kh,Lo];exact⟨fun hm=>b _ hm (by simp),a⟩
  ·intro p hp;rw[Kh,Ke] at hp;rcases hp with rfl | hp
   ·exact h2
   ·exact fun hq=>b p hp (by simp[hq])
theorem Zf4 {l:List Zc} (h:Jz l):UL l:=⟨(Zr4 h.2.1).1,fun x hx=>(Z5 h x hx).2.1⟩
theorem Zjt:∀ {l:List Zc} {k:Nat} {p:Pane},0≤Vm k l p→∃ a x,Vm k l p=((k+a:Nat):Int)∧l[a]?=some x∧x.Pane=p∧p∉(l.take a).map Zc.Pane
 | [],k,p,h=>by simp[Vm] at h
 | x :: l,k,p,h=>by
  unfold Vm at h ⊢;split
  ·rename_i e;exact⟨0,x,by simp,by simp,e,by simp⟩
  ·rename_i e;rw[Kd e] at h;obtain⟨a,y,h1,h2,h3,h4⟩:=Zjt h;refine⟨a+1,y,by rw[h1];congr 1;omega,by simpa using h2,h3,?_⟩;simp only[L0,Kh,Ke,not_or];exact⟨fun e'=>e e'.symm,h4⟩
theorem Zmk:∀ {l:List Zc} {k:Nat} {p:Pane},Vm k l p<0→p∉l.map Zc.Pane
 | [],k,p,h=>by simp
 | x :: l,k,p,h=>by
  unfold Vm at h;split at h
  ·omega
  ·rename_i e;simp only[Kh,Ke,not_or];exact⟨fun e'=>e e'.symm,Zmk h⟩
theorem Zju {p:Pane} {c:Int}:∀ {l:List Zc} {b:Bool},p∉l.map Zc.Pane→Xr p c b l=b
 | [],b,_=>rfl
 | x :: l,b,h=>by
  simp only[Kh,Ke,not_or] at h;rw[Xr,Kd (fun e=>h.1 e.symm),Zju h.2]
theorem ZxM {p:Pane} {c:Int}:∀ {l:List Zc},p∉l.map Zc.Pane→(∀ x∈l,1≤x.Count)→XW l p c=l
 | [],_,_=>rfl
 | x :: l,h,hc=>by
  simp only[Kh,Ke,not_or] at h;have h0:=hc x (by simp);have ih:=ZxM (p:=p) (c:=c) h.2 (fun y hy=>hc y (by simp[hy]));unfold XW at ih ⊢;rw[Ls,Zih,Kd (fun e=>h.1 e.symm),Kg o_,ih]
theorem Zr5 {p:Pane} {c:Int}:∀ {l:List Zc} {a:Nat} {x:Zc},UL l→l[a]?=some x→x.Pane=p→Xr p c false l=decide (0≤x.Count-c)∧XW l p c=if 0<x.Count-c then l.set a ⟨p,x.Count-c⟩ else l.eraseIdx a
 | [],a,x,_,h,_=>by simp at h
 | y :: l,0,x,hu,h,e=>by
  simp only[KX,Option.some.injEq] at h;subst h;obtain⟨h1,h2⟩:=hu;rw[Kh,Lo,e] at h1;have hl:=ZxM (p:=p) (c:=c) h1.1 (fun z hz=>h2 z (by simp[hz]));refine⟨by rw[Xr,Kg e,Zju h1.1],?_⟩;unfold XW at hl ⊢;rw[Ls,Zih,Kg e];by_cases hc:0<y.Count-c
  ·rw[Kg hc,Kg hc,hl,e];rfl
  ·rw[Kd hc,Kd hc,hl];rfl
 | y :: l,a+1,x,hu,h,e=>by
  simp only[KY] at h;obtain⟨h1,h2⟩:=hu;rw[Kh,Lo] at h1;have aa:y.Pane≠p:=fun e'=>h1.1 (by rw[e',← e];exact Kaz (Kb h));obtain⟨i1,i2⟩:=Zr5 (p:=p) (c:=c) (l:=l) ⟨h1.2,fun z hz=>h2 z (by simp[hz])⟩ h e;refine⟨by rw[Xr,Kd aa,i1],?_⟩;have h0:=h2 y (by simp);unfold XW at i2 ⊢;rw[Ls,Zih,Kd aa,Kg o_,i2];by_cases hc:0<x.Count-c
  ·rw[Kg hc,Kg hc];rfl
  ·rw[Kd hc,Kd hc];rfl
theorem Zr6 {l:List Zc} {p:Pane} {c:Int} (h:UL l):UL (XW l p c):=by
 have hs:∀ (l:List Zc),((XW l p c).map Zc.Pane).Sublist (l.map Zc.Pane):=by
  intro l
  induction l with
  | nil=>simp[XW]
  | cons x l ih=>
   unfold XW at ih ⊢;rw[Ls];unfold Zih at ih ⊢;split
   ·exact ih.trans (by simp)
   ·rename_i y hy;split at hy
    ·split at hy
     ·cases hy;simpa using ih
     ·cases hy
    ·split at hy
     ·cases hy;simpa using ih
     ·cases hy
 refine⟨List.Nodup.sublist (hs l) h.1,fun y hy=>?_⟩;obtain⟨x,hx,e⟩:=Lw.1 hy;have:=h.2 x hx;unfold Zih at e;split at e
 ·split at e
  ·cases e;simp only;omega
  ·cases e
 ·split at e
  ·cases e;omega
  ·cases e
theorem Zr7 (p:Pane) (c:Int):∀ (l:List Zc),(Yz p c l).map Zc.Pane=if p∈l.map Zc.Pane then l.map Zc.Pane else l.map Zc.Pane++[p]
 | []=>by simp[Yz]
 | x :: l=>by
  unfold Yz;by_cases e:x.Pane=p
  ·simp[e]
  ·have ih:=Zr7 p c l;have e' : ¬p=x.Pane:=fun h=>e h.symm;simp only[Kd e,Kh,Ke,e',false_or,ih];split<;>simp
theorem ZAY {l:List Zc} {p:Pane} {c:Int} (h:UL l) (hc:1≤c):UL (Yz p c l):=by
 refine⟨?_,?_⟩
 ·rw[Zr7];split
  ·exact h.1
  ·rename_i hn;refine LX.2 ⟨h.1,by simp,fun a ha b hb=>?_⟩;simp only[KD] at hb;subst hb;exact fun e=>hn (e ▸ ha)
 ·have aa:∀ (l:List Zc),(∀ x∈l,1≤x.Count)→∀ x∈Yz p c l,1≤x.Count:=by
   intro l
   induction l with
   | nil=>intro _ x hx;simp[Yz] at hx;subst hx;exact hc
   | cons y l ih=>
    intro h x hx;have hy:=h y (by simp);unfold Yz at hx;split at hx
    ·rcases Ke.1 hx with rfl | hx
     ·simp only;omega
     ·exact h x (by simp[hx])
    ·rcases Ke.1 hx with rfl | hx
     ·exact hy
     ·exact ih (fun z hz=>h z (by simp[hz])) x hx
  exact aa l h.2
theorem Zjv : ∀ {l:List Zb} {b:Int},XJ b l→∀ x∈l,b<x.Label
 | [],_,_,x,hx=>by simp at hx
 | y :: l,b,h,x,hx=>by
  rcases Ke.1 hx with rfl | hx
  ·exact h.2.1
  ·have:=Zjv h.2.2 x hx;have:=h.2.1;omega
theorem Zr8 (q:Zb):∀ (l:List Zb),q∈QF q l
 | []=>by simp[QF]
 | x :: l=>by
  unfold QF;split
  ·simp
  ·exact KA _ (Zr8 q l)
theorem Zo3 {q:Zb} (hq:VPc q):∀ {l:List Zb} {b:Int},XJ b l→b<q.Label→(XJ b (QF q l)↔q.Label∉l.map Zb.Label)
 | [],b,h,hb=>by simp[QF,XJ,hq,hb]
 | x :: l,b,h,hb=>by
  obtain⟨h1,h2,h3⟩:=h;unfold QF;by_cases aa:q.Label<x.Label
  ·rw[Kg aa];refine⟨fun _ hm=>?_,fun _=>⟨hq,hb,h1,aa,h3⟩⟩;rw[Kh,Ke] at hm;rcases hm with hm | hm
   ·omega
   ·obtain⟨y,hy,e⟩:=Ll.1 hm;have:=Zjv h3 y hy;omega
  ·rw[Kd aa];by_cases he:x.Label=q.Label
   ·constructor
    ·intro hs;have:=Zjv hs.2.2 q (Zr8 q l);omega
    ·intro hn;exact absurd (by simp[he]) hn
   ·have ih:=Zo3 hq h3 (by omega:x.Label<q.Label);rw[Kh,Ke,not_or,XJ,ih];exact⟨fun h=>⟨fun e=>he e.symm,h.2.2⟩,fun h=>⟨h1,h2,h.2⟩⟩
theorem ZxN:∀ {l:List Zb} {k:Nat} {n:Int},QD k l n<0↔n∉l.map Zb.Label
 | [],k,n=>by simp[QD]
 | x :: l,k,n=>by
  unfold QD;have ih:=ZxN (l:=l) (k:=k+1) (n:=n);by_cases he:x.Label=n
  ·rw[Kg he];simp only[Kh,Ke,he,true_or,not_true,iff_false];omega
  ·rw[Kd he,ih,Kh,Ke,not_or];exact⟨fun h=>⟨fun e=>he e.symm,h⟩,fun h=>h.2⟩
theorem ZDz {q:Zb} {l:List Zb} (h1:VSt l) (h2:VPc q):Vy q l↔l.length≠20∧QD 0 l q.Label<0:=by
 have h3:=Zo3 h2 h1.2 (by have:=h2.1.1;omega:0<q.Label);have h4:=h1.1;unfold Vy;rw[ZxN,← h3];simp only[VSt,Zok];constructor
 ·rintro ⟨_,a,b⟩;exact⟨o_,b⟩
 ·rintro ⟨a,b⟩;exact⟨⟨⟨h4,h1.2⟩,h2⟩,o_,b⟩
theorem Zj1 (l:List Zb) (qL qW qH:Int) (qF:List Box) (hl:l.length≤100000):v_ 150 [(.d (.sl (l.map Zb.enc))),(.d (.agg [J qL,J qW,J qH,.sl (qF.map Box.enc)]))] [] =
  some (.tup [.own 0,(.d (.bool (decide (Vy (Zb.mk qL qW qH qF) l))))],[if Vy (Zb.mk qL qW qH qF) l then .tree 4 4 ((QF (Zb.mk qL qW qH qF) l).map Zb.enc) none else .row 4 [] true false]):=by
 have e1:=YH l;have e2:=Q4 qL qW qH qF;have e3:=Yy l qL o_;by_cases v1:VSt l
 ·rw[Ki v1] at e1;by_cases v2:VPc (Zb.mk qL qW qH qF)
  ·rw[Ki v2] at e2;have hA:=ZDz v1 v2;simp only at hA;have hF:=(ZbW v1).2;have ah:qF.length≤1048576:=by have:=v2.1.2.2.2.2.2.2;simp only at this;omega
   by_cases v3:l.length=20
   ·have h:¬Vy (Zb.mk qL qW qH qF) l:=fun h=>(hA.1 h).1 v3;have ab : ((l.length:Int)=20):=o_
    rw[Kk h,Kd h];refine cE ?_;simp (maxSteps:=10^7) +contextual -implicitDefEqProofs only[go_sem,seval,WY,e1,e2,ab]
   ·have ab : ¬((l.length:Int)=20):=o_
    by_cases v4:QD 0 l qL<0
    ·have h:Vy (Zb.mk qL qW qH qF) l:=hA.2 ⟨v3,v4⟩;have aa : ¬(0≤QD 0 l qL):=o_
     have eq:=Jy qL qW qH qF ah;rw[Ki h,Kg h];generalize QD 0 l qL=fl at e3 aa;have aj:=v1.1;refine cE ?_;simp (maxSteps:=10^7) +contextual -implicitDefEqProofs only[go_sem,seval,WY,e1,e2,ab,e3,aa];refine LO (α:=Nat×Bool×List Zb) (fun s=>[(32,.d (J (s.1:Int))),(7,.d (.bool s.2.1))]) (fun s=>[(0,.tree 4 4 (s.2.2.map Zb.enc) none)]) (fun s=>s.1≤l.length∧s.2.2++(if s.2.1 then l.drop s.1 else QF (Zb.mk qL qW qH qF) (l.drop s.1))=QF (Zb.mk qL qW qH qF) l∧s.2.2.length≤s.1+s.2.1.toNat) (fun s=>l.length-s.1) (0,false,[]) ⟨by simp,by simp,by simp⟩ ?_;intro⟨i,b,o⟩ ⟨hi,hp,ho⟩ ih;simp only at hi hp ho;have hb:=Bool.toNat_le b
     by_cases ad:i<l.length
     ·obtain⟨x,hx⟩:=Zn ad;have hw:=Zg (k:=i) o_;have hr:(o.length+1)*48≤140737488355328∧o.length≤140737488355327:=o_
      have ae:∀ n:Nat,n=o.length+1→(n+1)*48≤140737488355328∧n≤140737488355327:=fun n hn=>by omega
      have ae:=ae _ rfl;have ai:o.length≤140737488355326:=o_
      have e:=Jy x.Label x.W x.H x.Flaws (hF x (Kb hx));rw[ZsU hx] at hp;have hd:l.drop i=x :: l.drop (i+1):=by
       obtain⟨h1,h2⟩:=Kc.1 hx;rw[Ku h1,h2]
      obtain⟨L,W,H,F⟩:=x;simp only at e hp;have af:=ZcG F;have ag:=ZcG qF;cases b with
      | true=>
       simp only[Bool.toNat_true] at ho;rw[Kg rfl] at hp;simp +contextual -implicitDefEqProofs only[go_sem,seval,hx,ad,hw,e,hr,af];refine ih (i+1,true,o++[⟨L,W,H,F⟩]) _ ⟨p_,?_,by simp;omega⟩ p_ ?_
       ·rw[← hp,hd];simp
       ·simp +contextual -implicitDefEqProofs only[go_sem,seval];try (simp[Zb.enc];done)
      | false=>
       simp only[Bool.toNat_false] at ho;rw[Kd (by simp)] at hp;by_cases hc:qL<L
       ·rw[Kg hc] at hp;simp +contextual -implicitDefEqProofs only[go_sem,seval,hx,ad,hw,e,eq,hc,hr,ae,ai,af,ag];refine ih (i+1,true,o++[(Zb.mk qL qW qH qF),⟨L,W,H,F⟩]) _ ⟨p_,?_,by simp;omega⟩ p_ ?_
        ·rw[← hp,hd];simp
        ·simp +contextual -implicitDefEqProofs only[go_sem,seval];try (simp[Zb.enc];done)
       ·rw[Kd hc] at hp;simp +contextual -implicitDefEqProofs only[go_sem,seval,hx,ad,hw,e,hc,hr,af];refine ih (i+1,false,o++[⟨L,W,H,F⟩]) _ ⟨p_,?_,by simp;omega⟩ p_ ?_
        ·rw[← hp];simp
        ·simp +contextual -implicitDefEqProofs only[go_sem,seval];try (simp[Zb.enc];done)
     ·have:i=l.length:=o_
      subst this;have hr:(o.length+1)*48≤140737488355328∧o.length≤140737488355327:=o_
      cases b with
      | true=>
       simp at hp;simp +contextual -implicitDefEqProofs only[go_sem,seval];rw[hp]
      | false=>
       simp[QF] at hp;have ag:=ZcG qF;simp +contextual -implicitDefEqProofs only[go_sem,seval,eq,hr,ag];rw[← hp];try (simp[Zb.enc];done)
    ·have h:¬Vy (Zb.mk qL qW qH qF) l:=fun h=>v4 (hA.1 h).2;have aa : 0≤QD 0 l qL:=o_
     rw[Kk h,Kd h];generalize QD 0 l qL=fl at e3 aa;refine cE ?_;simp (maxSteps:=10^7) +contextual -implicitDefEqProofs only[go_sem,seval,WY,e1,e2,ab,e3,aa]
  ·rw[Kk v2] at e2;have h:¬Vy (Zb.mk qL qW qH qF) l:=fun h=>v2 h.1.2;rw[Kk h,Kd h];refine cE ?_;simp (maxSteps:=10^7) +contextual -implicitDefEqProofs only[go_sem,seval,WY,e1,e2]
 ·rw[Kk v1] at e1;have h:¬Vy (Zb.mk qL qW qH qF) l:=fun h=>v1 h.1.1;rw[Kk h,Kd h];refine cE ?_;simp (maxSteps:=10^7) +contextual -implicitDefEqProofs only[go_sem,seval,WY,e1]
theorem Zg1 (l:List Zc) (hl:l.length≤1048576):v_ 201 [(.d (.sl (l.map Zc.enc)))] []=some (.own 0,[.row 5 (l.map Zc.enc) true false]):=by
 refine Vv Xs Ms Zop ?_;unfold ZkB;simp only;rw[Kg ⟨by rw[Zxe];trivial,by rw[Zur];trivial,by simp[ZM];omega,by simp[ZM];omega⟩]
theorem Zj2 {α β:Type} (f:α→β):∀ (l:List α) (i:Nat),(l.map f).eraseIdx i=(l.eraseIdx i).map f
 | [],_=>rfl
 | _ :: _,0=>rfl
 | x :: l,i+1=>by simp[Zj2 f l i]
theorem ZnU (l:List Zc) (i:Nat) (hi:i<l.length):v_ 206 [.own 0,(.d (J i)),(.d (J ((i:Int)+1)))] [.row 5 (l.map Zc.enc) true false]=some (.own 1,[.gone,.row 5 ((l.eraseIdx i).map Zc.enc) true false]):=by
 refine Vv Xs Ms ZmT ?_;unfold Zfr;simp only;rw[Kg ⟨rfl,o_,rfl,by simp;omega,by rw[Zxe];trivial,by rw[Zur];trivial,rfl,rfl⟩,Kz,Zj2]
theorem ZbC (l:List Zc) (xW xH:Int) (xT:Bool) (xK xC:Int) (hl:l.length≤1048576) (hc:∀ y∈l,R64 (y.Count+xC)):v_ 153 [(.d (.sl (l.map Zc.enc))),(.d (.agg [J xW,J xH,.bool xT,J xK,J xC]))] []=some (.own 0,[.row 5 ((Yz ⟨xW,xH,xT,xK⟩ xC l).map Zc.enc) true false]):=by
 have e1:=Zg1 l hl;have e2:=Zd6 l xW xH xT xK o_;have hr:(l.length+1)*40≤140737488355328∧l.length≤140737488355327:=o_
 by_cases hf:Vm 0 l ⟨xW,xH,xT,xK⟩<0
 ·have hn:¬0≤Vm 0 l ⟨xW,xH,xT,xK⟩:=o_
  rw[Zwx _ _ _ (Zmk hf)];refine cE ?_;simp (maxSteps:=10^7) +contextual -implicitDefEqProofs only[go_sem,seval,ZiS,e1,e2,hn,hr];try (simp[Zc.enc];done)
 ·obtain⟨a,x,h1,h2,h3,h4⟩:=Zjt (by omega:0≤Vm 0 l ⟨xW,xH,xT,xK⟩);rw[K0] at h1;rw[h1] at e2;rw[Zww _ _ _ a x h2 h3 h4];have aa:=hc x (Kb h2);obtain⟨⟨W,H,T,K⟩,C⟩:=x;simp only[Pane.mk.injEq] at h3 aa;obtain⟨rfl,rfl,rfl,rfl⟩:=h3;have u0:=wi (C+xC) aa.1 aa.2;have ab:=(Kc.1 h2).1;have ha:(0:Int)≤(a:Int):=o_
  refine cE ?_;simp (maxSteps:=10^7) +contextual -implicitDefEqProofs only[go_sem,seval,ZiS,e1,e2,ha,h2,ab,u0];try (simp[Zc.enc,Kad];done)
def tkV (l:List Zc) (p:Pane) (c:Int):AV×List Zm:=
 if Xr p c false l=true then (.tup [.own 0,(.d (.bool true))],[.row 5 ((XW l p c).map Zc.enc) true false]) else (.tup [.own 0,(.d (.bool false))],[.row 5 [] true false])
theorem Zax (l:List Zc) (xW xH:Int) (xT:Bool) (xK xC:Int) (hl:l.length≤1048576) (hu:UL l) (hc:∀ y∈l,R64 (y.Count-xC)):v_ 157 [(.d (.sl (l.map Zc.enc))),(.d (.agg [J xW,J xH,.bool xT,J xK,J xC]))] []=some (tkV l ⟨xW,xH,xT,xK⟩ xC):=by
 have e1:=Zg1 l hl;have e2:=Zd6 l xW xH xT xK o_;by_cases hf:Vm 0 l ⟨xW,xH,xT,xK⟩<0
 ·have hn:=Zju (c:=xC) (b:=false) (Zmk hf);have ek:tkV l ⟨xW,xH,xT,xK⟩ xC=(.tup [.own 0,(.d (.bool false))],[.row 5 [] true false]):=by unfold tkV;rw[hn,Kd (by simp)]
  rw[ek];refine cE ?_;simp (maxSteps:=10^7) +contextual -implicitDefEqProofs only[go_sem,seval,JR,e1,e2,hf]
 ·obtain⟨a,x,h1,h2,h3,h4⟩:=Zjt (by omega:0≤Vm 0 l ⟨xW,xH,xT,xK⟩);rw[K0] at h1;rw[h1] at e2;obtain⟨k1,k2⟩:=Zr5 (c:=xC) hu h2 h3;have ad:=hc x (Kb h2);obtain⟨⟨W,H,T,K⟩,C⟩:=x;simp only[Pane.mk.injEq] at h3 ad k1 k2;obtain⟨rfl,rfl,rfl,rfl⟩:=h3;have u0:=wi (C-xC) ad.1 ad.2;have ab:=(Kc.1 h2).1;have ha:¬(a:Int)<0:=o_
  have hw:=Zg (k:=a) o_;have e3:=ZnU (l.set a ⟨⟨W,H,T,K⟩,0⟩) a (by simpa using ab);by_cases ae:C<xC
  ·have hx:¬0≤C-xC:=o_
   have ek:tkV l ⟨W,H,T,K⟩ xC=(.tup [.own 0,(.d (.bool false))],[.row 5 [] true false]):=by unfold tkV;rw[k1,Kk hx,Kd (by simp)]
   rw[ek];refine cE ?_;simp (maxSteps:=10^7) +contextual -implicitDefEqProofs only[go_sem,seval,JR,e1,e2,ha,h2,ab,ae]
  ·have hx:0≤C-xC:=o_
   by_cases hz:C-xC=0
   ·have ek:tkV l ⟨W,H,T,K⟩ xC=(.tup [.own 0,(.d (.bool true))],[.row 5 ((l.eraseIdx a).map Zc.enc) true false]):=by unfold tkV;rw[k1,Ki hx,Kg rfl,k2,Kd o_]
    rw[ek];have es:(l.set a ⟨⟨W,H,T,K⟩,0⟩).eraseIdx a=l.eraseIdx a:=by simp[List.eraseIdx_set_eq]
    rw[es,Kad] at e3;simp only[Zc.enc] at e3;have aa:((a:Int)+1)=((a+1:Nat):Int):=o_
    rw[aa] at e3;rw[hz] at u0;refine cE ?_;simp (maxSteps:=10^7) +contextual -implicitDefEqProofs only[go_sem,seval,JR,e1,e2,ha,h2,ab,ae,hz,u0,hw,e3,Kad,LJ,List.length_set]
   ·have ek:tkV l ⟨W,H,T,K⟩ xC=(.tup [.own 0,(.d (.bool true))],[.row 5 ((l.set a ⟨⟨W,H,T,K⟩,C-xC⟩).map Zc.enc) true false]):=by unfold tkV;rw[k1,Ki hx,Kg rfl,k2,Kg o_]
    rw[ek];refine cE ?_;simp (maxSteps:=10^7) +contextual -implicitDefEqProofs only[go_sem,seval,JR,e1,e2,ha,h2,ab,ae,hz,u0,Kad,LJ,List.length_set]
theorem VR (sS:List Zb) (sO sD:List Zc) (sL sC:Int) (h:Zao (Zo.mk sS sO sD sL sC)):v_ 47 [(.d (.agg [.sl (sS.map Zb.enc),.sl (sO.map Zc.enc),.sl (sD.map Zc.enc),J sL,J sC]))] []=some (.agg [.own 0,.own 1,.own 2,(.d (J sL)),(.d (J sC))],[.tree 4 4 (sS.map Zb.enc) none,.row 5 (sO.map Zc.enc) true false,.row 5 (sD.map Zc.enc) true false]):=by
 obtain⟨h1,h2,h3,h4⟩:=h;simp only at h1 h2 h3 h4;have e1:=ZcH sS o_ (fun x hx=>by have:=(h2 x hx).1;omega);have r1:sO.length*40≤140737488355328∧sO.length≤140737488355328:=o_
 have r2:sD.length*40≤140737488355328∧sD.length≤140737488355328:=o_
 refine cE ?_;simp (maxSteps:=10^7) +contextual -implicitDefEqProofs only[go_sem,seval,ZmV,e1,r1,r2]
theorem Uw (xW xH:Int) (xT:Bool) (xK xC:Int):v_ 152 [(.d (.agg [J xW,J xH,.bool xT,J xK,J xC]))] []=some ((.d (.bool (decide (VL ⟨⟨xW,xH,xT,xK⟩,xC⟩)))),[]):=by
 have e1:=Jr xW xH xT xK;refine cE ?_;by_cases v1:VP ⟨xW,xH,xT,xK⟩
 ·rw[Ki v1] at e1;by_cases v2:1≤xC
  ·by_cases v3:xC≤24
   ·have h:VL ⟨⟨xW,xH,xT,xK⟩,xC⟩:=⟨v1,v2,v3⟩
    simp +contextual -implicitDefEqProofs only[go_sem,seval,WH,e1,v2,v3,h]
   ·have h:¬VL ⟨⟨xW,xH,xT,xK⟩,xC⟩:=fun h=>v3 h.2.2;simp +contextual -implicitDefEqProofs only[go_sem,seval,WH,e1,v2,v3,h]
  ·have h:¬VL ⟨⟨xW,xH,xT,xK⟩,xC⟩:=fun h=>v2 h.2.1;simp +contextual -implicitDefEqProofs only[go_sem,seval,WH,e1,v2,h]
 ·rw[Kk v1] at e1;have h:¬VL ⟨⟨xW,xH,xT,xK⟩,xC⟩:=fun h=>v1 h.1;simp +contextual -implicitDefEqProofs only[go_sem,seval,WH,e1,h]
theorem Ztr (sS:List Zb) (sO sD:List Zc) (sL sC:Int) (eK eL eX eY eW eH aa ab:Int) (ad:Bool) (ae eC eo ea ep:Int) (et:Bool) (ek:List Ze) (hl:sS.length≤100000) (hn:¬((Vy ⟨eL,eW,eH,[]⟩ sS∧eX=0)∧eY=0)):v_ 105 [.ptr 0 0,(.d (.agg [J eK,J eL,J eX,J eY,J eW,J eH,J aa,J ab,.bool ad,J ae,J eC,J eo,J ea,J ep,.bool et,.sl (ek.map Ze.enc)]))] [.box [.own 1,.own 2,.own 3,(.d (J sL)),(.d (J sC))],.tree 4 4 (sS.map Zb.enc) none,.row 5 (sO.map Zc.enc) true false,.row 5 (sD.map Zc.enc) true false]=some ((.d (.bool false)),[.box [.own 1,.own 2,.own 3,(.d (J sL)),(.d (J sC))],.tree 4 4 (sS.map Zb.enc) none,.row 5 (sO.map Zc.enc) true false,.row 5 (sD.map Zc.enc) true false]):=by
 by_cases hx:eX=0
 ·by_cases hy:eY=0
  ·have ha:¬Vy ⟨eL,eW,eH,[]⟩ sS:=fun h=>hn ⟨⟨h,hx⟩,hy⟩;have e1:=Zj1 sS eL eW eH [] hl;rw[Kk ha,Kd ha] at e1;simp only[Kp] at e1;refine cE ?_;simp (maxSteps:=10^7) +contextual -implicitDefEqProofs only[go_sem,seval,JW,hx,hy,e1]
  ·refine cE ?_;simp (maxSteps:=10^7) +contextual -implicitDefEqProofs only[go_sem,seval,JW,hx,hy]
 ·refine cE ?_;simp (maxSteps:=10^7) +contextual -implicitDefEqProofs only[go_sem,seval,JW,hx]
theorem Zr9 (sS:List Zb) (sO sD:List Zc) (sL sC:Int) (eK eL eX eY eW eH aa ab:Int) (ad:Bool) (ae eC eo ea ep:Int) (et:Bool) (ek:List Ze) (hv:ZI (Zo.mk sS sO sD sL sC)) (ha:Vy ⟨eL,eW,eH,[]⟩ sS) (hx:eX=0) (hy:eY=0):v_ 105 [.ptr 0 0,(.d (.agg [J eK,J eL,J eX,J eY,J eW,J eH,J aa,J ab,.bool ad,J ae,J eC,J eo,J ea,J ep,.bool et,.sl (ek.map Ze.enc)]))] [.box [.own 1,.own 2,.own 3,(.d (J sL)),(.d (J sC))],.tree 4 4 (sS.map Zb.enc) none,.row 5 (sO.map Zc.enc) true false,.row 5 (sD.map Zc.enc) true false] =
  some ((.d (.bool true)),[.box [.own 4,.own 2,.own 3,(.d (J sL)),(.d (J (sC+eW*eH)))],.tree 4 4 (sS.map Zb.enc) none,.row 5 (sO.map Zc.enc) true false,.row 5 (sD.map Zc.enc) true false,.tree 4 4 ((QF ⟨eL,eW,eH,[]⟩ sS).map Zb.enc) none]):=by
 have af:=hv.1.1;simp only at af;have e1:=Zj1 sS eL eW eH [] o_;rw[Ki ha,Kg ha] at e1;simp only[Kp] at e1;have hp:=ha.1.2.1;simp only at hp;subst hx hy;have hb:VB ⟨0,0,eW,eH⟩:=by simp only[VB];omega
 have e2:=Zmz 0 0 eW eH hb;have h3:=Jq hb;simp only at h3;have h4:=hv.2.2.2;simp only at h4;have u0:=wi (sC+eW*eH) o_ o_;generalize QF ⟨eL,eW,eH,[]⟩ sS=Q at *;refine cE ?_;simp (maxSteps:=10^7) +contextual -implicitDefEqProofs only[go_sem,seval,JW,e1,e2,u0]
theorem Zwc (sS:List Zb) (sO sD:List Zc) (sL sC:Int) (eK eL eX eY eW eH aa ab:Int) (ad:Bool) (ae eC eo ea ep:Int) (et:Bool) (ek:List Ze) (hl:sS.length≤100000) (hn:QD 0 sS eL<0):v_ 106 [.ptr 0 0,(.d (.agg [J eK,J eL,J eX,J eY,J eW,J eH,J aa,J ab,.bool ad,J ae,J eC,J eo,J ea,J ep,.bool et,.sl (ek.map Ze.enc)]))] [.box [.own 1,.own 2,.own 3,(.d (J sL)),(.d (J sC))],.tree 4 4 (sS.map Zb.enc) none,.row 5 (sO.map Zc.enc) true false,.row 5 (sD.map Zc.enc) true false]=some ((.d (.bool false)),[.box [.own 1,.own 2,.own 3,(.d (J sL)),(.d (J sC))],.tree 4 4 (sS.map Zb.enc) none,.row 5 (sO.map Zc.enc) true false,.row 5 (sD.map Zc.enc) true false]):=by
 have e1:=Yy sS eL o_;refine cE ?_;simp (maxSteps:=10^7) +contextual -implicitDefEqProofs only[go_sem,seval,ZiK,e1,hn]
theorem Zts (sS:List Zb) (sO sD:List Zc) (sL sC:Int) (eK eL eX eY eW eH ab ad:Int) (ae:Bool) (af eC eo ea ep:Int) (et:Bool) (ek:List Ze) (hl:sS.length≤100000) (a:Nat) (ha:QD 0 sS eL=(a:Int)) (xL xW xH:Int) (xF:List Box) (hx:sS[a]?=some (Zb.mk xL xW xH xF)) (hF:xF.length≤1000):v_ 106 [.ptr 0 0,(.d (.agg [J eK,J eL,J eX,J eY,J eW,J eH,J ab,J ad,.bool ae,J af,J eC,J eo,J ea,J ep,.bool et,.sl (ek.map Ze.enc)]))] [.box [.own 1,.own 2,.own 3,(.d (J sL)),(.d (J sC))],.tree 4 4 (sS.map Zb.enc) none,.row 5 (sO.map Zc.enc) true false,.row 5 (sD.map Zc.enc) true false] =
  some ((.d (.bool true)),[.box [.own 1,.own 2,.own 3,(.d (J sL)),(.d (J sC))],.tree 4 4 ((sS.set a ⟨xL,xW,xH,xF++[⟨eX,eY,eW,eH⟩]⟩).map Zb.enc) none,.row 5 (sO.map Zc.enc) true false,.row 5 (sD.map Zc.enc) true false]):=by
 have e1:=Yy sS eL o_;rw[ha] at e1;have h0:¬(a:Int)<0:=o_
 have ag : (0:Int)≤(a:Int):=o_
 have ah:=(Kc.1 hx).1;have hr:(xF.length+1)*32≤140737488355328∧xF.length≤140737488355327:=o_
 have ai:=ZcG xF;have aa:=ZcG (xF++[⟨eX,eY,eW,eH⟩]);rw[KJ] at aa;simp only[Kh,Kp,Box.enc] at aa;refine cE ?_;simp (maxSteps:=10^7) +contextual -implicitDefEqProofs only[go_sem,seval,ZiK,e1,h0,ag,hx,ah,hr,ai,aa,List.length_set,LK,List.set_set];simp[Zb.enc,Box.enc,Kad]
theorem Zpz (sS:List Zb) (sO sD:List Zc) (sL sC:Int) (eK eL eX eY eW eH aa ab:Int) (ad:Bool) (ae eC eo ea ep:Int) (et:Bool) (ek:List Ze) (hn:¬VL ⟨⟨aa,ab,ad,ae⟩,eC⟩):v_ 107 [.ptr 0 0,(.d (.agg [J eK,J eL,J eX,J eY,J eW,J eH,J aa,J ab,.bool ad,J ae,J eC,J eo,J ea,J ep,.bool et,.sl (ek.map Ze.enc)]))] [.box [.own 1,.own 2,.own 3,(.d (J sL)),(.d (J sC))],.tree 4 4 (sS.map Zb.enc) none,.row 5 (sO.map Zc.enc) true false,.row 5 (sD.map Zc.enc) true false]=some ((.d (.bool false)),[.box [.own 1,.own 2,.own 3,(.d (J sL)),(.d (J sC))],.tree 4 4 (sS.map Zb.enc) none,.row 5 (sO.map Zc.enc) true false,.row 5 (sD.map Zc.enc) true false]):=by
 have e1:=Uw aa ab ad ae eC;rw[Kk hn] at e1;refine cE ?_;simp (maxSteps:=10^7) +contextual -implicitDefEqProofs only[go_sem,seval,Zc7,e1]
theorem ZnV (sS:List Zb) (sO sD:List Zc) (sL sC:Int) (eK eL eX eY eW eH aa ab:Int) (ad:Bool) (ae eC eo ea ep:Int) (et:Bool) (ek:List Ze) (hv:ZI (Zo.mk sS sO sD sL sC)) (hn:VL ⟨⟨aa,ab,ad,ae⟩,eC⟩):v_ 107 [.ptr 0 0,(.d (.agg [J eK,J eL,J eX,J eY,J eW,J eH,J aa,J ab,.bool ad,J ae,J eC,J eo,J ea,J ep,.bool et,.sl (ek.map Ze.enc)]))] [.box [.own 1,.own 2,.own 3,(.d (J sL)),(.d (J sC))],.tree 4 4 (sS.map Zb.enc) none,.row 5 (sO.map Zc.enc) true false,.row 5 (sD.map Zc.enc) true false] =
  some ((.d (.bool true)),[.box [.own 1,.own 4,.own 3,(.d (J sL)),(.d (J sC))],.tree 4 4 (sS.map Zb.enc) none,.row 5 (sO.map Zc.enc) true false,.row 5 (sD.map Zc.enc) true false,.row 5 ((Yz ⟨aa,ab,ad,ae⟩ eC sO).map Zc.enc) true false]):=by
 have e1:=Uw aa ab ad ae eC;rw[Ki hn] at e1;have e2:=ZbC sO aa ab ad ae eC (by have:=hv.2.1.1;simp only at this;omega) (fun x hx=>by have:=(Z5 hv.2.1 x hx).2;have:=hn.2;simp only at this;unfold R64;omega);refine cE ?_;simp (maxSteps:=10^7) +contextual -implicitDefEqProofs only[go_sem,seval,Zc7,e1,e2]
theorem ZpA (sS:List Zb) (sO sD:List Zc) (sL sC:Int) (eK eL eX eY eW eH aa ab:Int) (ad:Bool) (ae eC eo ea ep:Int) (et:Bool) (ek:List Ze) (hv:ZI (Zo.mk sS sO sD sL sC)) (hn:¬(VL ⟨⟨aa,ab,ad,ae⟩,eC⟩∧Xr ⟨aa,ab,ad,ae⟩ eC false sD=true)):v_ 109 [.ptr 0 0,(.d (.agg [J eK,J eL,J eX,J eY,J eW,J eH,J aa,J ab,.bool ad,J ae,J eC,J eo,J ea,J ep,.bool et,.sl (ek.map Ze.enc)]))] [.box [.own 1,.own 2,.own 3,(.d (J sL)),(.d (J sC))],.tree 4 4 (sS.map Zb.enc) none,.row 5 (sO.map Zc.enc) true false,.row 5 (sD.map Zc.enc) true false]=some ((.d (.bool false)),[.box [.own 1,.own 2,.own 3,(.d (J sL)),(.d (J sC))],.tree 4 4 (sS.map Zb.enc) none,.row 5 (sO.map Zc.enc) true false,.row 5 (sD.map Zc.enc) true false]):=by
 have e1:=Uw aa ab ad ae eC;by_cases hl:VL ⟨⟨aa,ab,ad,ae⟩,eC⟩
 ·rw[Ki hl] at e1;have e2:=Zax sD aa ab ad ae eC (by have:=hv.2.2.1.1;simp only at this;omega) (Zf4 hv.2.2.1) (fun x hx=>by have:=(Z5 hv.2.2.1 x hx).2;have:=hl.2;simp only at this;unfold R64;omega);unfold tkV at e2;rw[Kd (fun h=>hn ⟨hl,h⟩)] at e2;refine cE ?_;simp (maxSteps:=10^7) +contextual -implicitDefEqProofs only[go_sem,seval,JT,e1,e2]
 ·rw[Kk hl] at e1;refine cE ?_;simp (maxSteps:=10^7) +contextual -implicitDefEqProofs only[go_sem,seval,JT,e1]
theorem ZnW (sS:List Zb) (sO sD:List Zc) (sL sC:Int) (eK eL eX eY eW eH aa ab:Int) (ad:Bool) (ae eC eo ea ep:Int) (et:Bool) (ek:List Ze) (hv:ZI (Zo.mk sS sO sD sL sC)) (hl:VL ⟨⟨aa,ab,ad,ae⟩,eC⟩) (hk:Xr ⟨aa,ab,ad,ae⟩ eC false sD=true):v_ 109 [.ptr 0 0,(.d (.agg [J eK,J eL,J eX,J eY,J eW,J eH,J aa,J ab,.bool ad,J ae,J eC,J eo,J ea,J ep,.bool et,.sl (ek.map Ze.enc)]))] [.box [.own 1,.own 2,.own 3,(.d (J sL)),(.d (J sC))],.tree 4 4 (sS.map Zb.enc) none,.row 5 (sO.map Zc.enc) true false,.row 5 (sD.map Zc.enc) true false] =
  some ((.d (.bool true)),[.box [.own 1,.own 4,.own 5,(.d (J (sL+eC*aa*ab))),(.d (J sC))],.tree 4 4 (sS.map Zb.enc) none,.row 5 (sO.map Zc.enc) true false,.row 5 (sD.map Zc.enc) true false,.row 5 ((Yz ⟨aa,ab,ad,ae⟩ eC sO).map Zc.enc) true false,.row 5 ((XW sD ⟨aa,ab,ad,ae⟩ eC).map Zc.enc) true false]):=by
 have e1:=Uw aa ab ad ae eC;rw[Ki hl] at e1;have e2:=Zax sD aa ab ad ae eC (by have:=hv.2.2.1.1;simp only at this;omega) (Zf4 hv.2.2.1) (fun x hx=>by have:=(Z5 hv.2.2.1 x hx).2;have:=hl.2;simp only at this;unfold R64;omega);unfold tkV at e2;rw[Kg hk] at e2;have e3:=ZbC sO aa ab ad ae eC (by have:=hv.2.1.1;simp only at this;omega) (fun x hx=>by have:=(Z5 hv.2.1 x hx).2;have:=hl.2;simp only at this;unfold R64;omega);have af:=ZbX hl;have h6:=hv.2.2.2;simp only at af h6;have u0:=wi (eC*aa) o_ o_;have u1:=wi (eC*aa*ab) o_ o_;have u2:=wi (sL+eC*aa*ab) o_ o_
 refine cE ?_;simp (maxSteps:=10^7) +contextual -implicitDefEqProofs only[go_sem,seval,JT,e1,e2,e3,u0,u1,u2]
theorem ZpB (sS:List Zb) (sO sD:List Zc) (sL sC:Int) (eK eL eX eY eW eH aa ab:Int) (ad:Bool) (ae eC eo ea ep:Int) (et:Bool) (ek:List Ze) (hn:QD 0 sS eL<0):v_ 110 [.ptr 0 0,(.d (.agg [J eK,J eL,J eX,J eY,J eW,J eH,J aa,J ab,.bool ad,J ae,J eC,J eo,J ea,J ep,.bool et,.sl (ek.map Ze.enc)]))] [.box [.own 1,.own 2,.own 3,(.d (J sL)),(.d (J sC))],.tree 4 4 (sS.map Zb.enc) none,.row 5 (sO.map Zc.enc) true false,.row 5 (sD.map Zc.enc) true false]=some ((.d (.bool false)),[.box [.own 1,.own 2,.own 3,(.d (J sL)),(.d (J sC))],.tree 4 4 (sS.map Zb.enc) none,.row 5 (sO.map Zc.enc) true false,.row 5 (sD.map Zc.enc) true false]):=by
 have e1:=Zif sS eL (fun h=>by omega);refine cE ?_;simp (maxSteps:=10^7) +contextual -implicitDefEqProofs only[go_sem,seval,Zdf,e1]
theorem ZnX (sS:List Zb) (sO sD:List Zc) (sL sC:Int) (eK eL eX eY eW eH aa ab:Int) (ad:Bool) (ae eC eo ea ep:Int) (et:Bool) (ek:List Ze) (hv:ZI (Zo.mk sS sO sD sL sC)) (a:Nat) (ha:QD 0 sS eL=(a:Int)) (xL xW xH:Int) (xF:List Box) (hx:sS[a]?=some (Zb.mk xL xW xH xF)):v_ 110 [.ptr 0 0,(.d (.agg [J eK,J eL,J eX,J eY,J eW,J eH,J aa,J ab,.bool ad,J ae,J eC,J eo,J ea,J ep,.bool et,.sl (ek.map Ze.enc)]))] [.box [.own 1,.own 2,.own 3,(.d (J sL)),(.d (J sC))],.tree 4 4 (sS.map Zb.enc) none,.row 5 (sO.map Zc.enc) true false,.row 5 (sD.map Zc.enc) true false] =
  some ((.d (.bool true)),[.box [.own 4,.own 2,.own 3,(.d (J (sL+xW*xH))),(.d (J sC))],.tree 4 4 (sS.map Zb.enc) none,.row 5 (sO.map Zc.enc) true false,.row 5 (sD.map Zc.enc) true false,.tree 4 4 ((sS.eraseIdx a).map Zb.enc) none]):=by
 have e1:=Zg9 sS eL hv.1 a ha xL xW xH xF hx;have af:=(ZW hv.1.2 _ (Kb hx)).1;simp only at af;have h6:=hv.2.2.2;simp only at h6;have hb:VB ⟨0,0,xW,xH⟩:=by simp only[VB];omega
 have h3:=Jq hb;simp only at h3;have u0:=wi (xW*xH) o_ o_;have u1:=wi (sL+xW*xH) o_ o_;refine cE ?_;simp (maxSteps:=10^7) +contextual -implicitDefEqProofs only[go_sem,seval,Zdf,e1,u0,u1]
end Go.Proofs.YtfnegoimdljanaaGreatDoor
