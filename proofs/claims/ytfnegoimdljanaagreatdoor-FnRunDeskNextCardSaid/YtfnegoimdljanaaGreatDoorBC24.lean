import Derived.Test.YtfnegoimdljanaaGreatDoorBC20
import Derived.Test.YtfnegoimdljanaaGreatDoorBC15
set_option linter.unusedSimpArgs false
set_option linter.unusedVariables false
namespace Go.Proofs.YtfnegoimdljanaaGreatDoor
open Go Go.Abs Go.Abs.E Go.Abs.L
set_option maxRecDepth 20000
set_option maxHeartbeats 4000000
def ZcF:List Zl→Option (List Ev)
 | []=>some []
 | e :: r=>(Wg e).bind fun v=>(ZcF r).bind fun vs=>some (v :: vs)
theorem ZsI (e:Zl):∀ l:List Zl,ZcF (l++[e])=(ZcF l).bind fun vs=>(Wg e).bind fun v=>some (vs++[v])
 | []=>by simp only[K6,ZcF];cases Wg e<;>rfl
 | x :: l=>by
  simp only[KF,ZcF,ZsI e l];cases Wg x with
  | none=>rfl
  | some v=>cases ZcF l with
   | none=>rfl
   | some vs=>cases Wg e<;>rfl
theorem ZsJ {e:Zl} (h:Wg e=none):∀ {l:List Zl},e∈l→ZcF l=none
 | x :: l,hm=>by
  rcases Ke.1 hm with rfl | hm
  ·simp[ZcF,h]
  ·simp only[ZcF,ZsJ h hm];cases Wg x<;>rfl
theorem ZsK:∀ {l:List Zl} {vs:List Ev},ZcF l=some vs→vs.length=l.length∧∀ v∈vs,v.ok
 | [],vs,h=>by cases h;simp
 | e :: l,vs,h=>by
  simp only[ZcF,KZ] at h;obtain⟨v,h1,aa,h2,h3⟩:=h;cases h3;obtain⟨g1,g2⟩:=ZsK h2;refine⟨by simp[g1],fun x hx=>?_⟩;rcases Ke.1 hx with rfl | hx
  ·exact(Zwn h1).1
  ·exact g2 x hx
def Zwo (l:List Zl):List UInt8:=if l.length≤40 then match ZcF l with
 | some vs=>Jw vs
 | none=>[] else []
theorem ZE1 {l:List Zl} (h:¬l.length≤40):Zwo l=[]:=Kd h
theorem ZCq {l:List Zl} (h:ZcF l=none):Zwo l=[]:=by unfold Zwo;rw[h];exact ite_self _
theorem ZCr {l:List Zl} {vs:List Ev} (h:l.length≤40) (hv:ZcF l=some vs):Zwo l=Jw vs:=by unfold Zwo;rw[Kg h,hv]
theorem ZzZ (v:Ev) (l:List Ev):Jw (v :: l)=v.text++10 :: Jw l:=ZdD ..
theorem Zz0 (v:Ev) (l:List Ev):Jw (l++[v])=Jw l++(v.text++[10]):=Zo9 ..
theorem Zoc:∀ {l:List Ev},(∀ v∈l,v.ok)→(Jw l).length≤20001*l.length
 | [],_=>by simp[Jw,QL]
 | v :: l,h=>by
  have ih:=Zoc (l:=l) fun x hx=>h x (by simp[hx]);have:=ZsF (h v (by simp));rw[ZzZ];simp only[Kq,Kl];omega
theorem ZDT (l:List Zl):(Zwo l).length≤900000:=by
 unfold Zwo;split
 ·split
  ·rename_i h _ vs hv;obtain⟨g1,g2⟩:=ZsK hv;have:=Zoc g2;omega
  ·simp
 ·simp
theorem ZpZ (l:List Zl):v_ 65 [(.d (.sl (l.map Zl.enc)))] []=some (.d (.str (Zwo l)),[]):=by
 by_cases ae:l.length≤40
 ·have aa : ¬(40:Int)<(l.length:Int):=o_
  refine cE ?_;simp (maxSteps:=9^7) +contextual -implicitDefEqProofs only[go_sem,seval,Zda,aa];refine LO (α:=Nat×List Ev) (fun a=>[(4,.d (J (a.1:Int))),(3,.d (.str (Jw a.2)))]) (fun _=>[]) (fun a=>a.1≤l.length∧ZcF (l.take a.1)=some a.2) (fun a=>l.length-a.1) (0,[]) ⟨by simp,rfl⟩ ?_;intro⟨k,vs⟩ ⟨hk,hv⟩ ih;simp only at hk hv ih ⊢;obtain⟨g1,g2⟩:=ZsK hv;have hb:=Zoc g2;have hb2:vs.length≤40:=by rw[g1];simp;omega
  by_cases ad:k<l.length
  ·obtain⟨e,he⟩:=Zn ad;have ab : (k:Int)<(l.length:Int):=o_
   have w:=Zg (k:=k) o_;have af:e∈l:=Kb he;have ag:l.take (k+1)=l.take k++[e]:=by rw[KB,he];rfl
   obtain⟨K,L,⟨X,Y,W,H⟩,⟨⟨pW,pH,pT,pK⟩,C⟩,⟨o,a,q,t,ks⟩⟩:=e;have e1:=Zbp K L X Y W H pW pH pT pK C o a q t ks;cases hx:Wg ⟨K,L,⟨X,Y,W,H⟩,⟨⟨pW,pH,pT,pK⟩,C⟩,.mk o a q t ks⟩ with
   | none=>
    rw[hx,Kv] at e1;rw[ZCq (ZsJ hx af)];simp (maxSteps:=9^7) +contextual -implicitDefEqProofs only[go_sem,seval,ab,ad,he,w,e1]
   | some v=>
    rw[hx,KV] at e1;have e2:=ZcD K L X Y W H pW pH pT pK C o a q t ks v hx;have ah:=(Zwn hx).1;have aj:=ZsF ah;have ai:=Zz0 v vs;have b1:(Jw vs).length+v.text.length≤1152921504606846976:=o_
    have b2:(Jw vs).length+v.text.length+1≤1152921504606846976:=o_
    generalize v.text=tx at *;simp (maxSteps:=9^7) +contextual -implicitDefEqProofs only[go_sem,seval,ab,ad,he,w,e1,e2,b1,b2];refine ih (k+1,vs++[v]) _ ⟨p_,?_⟩ p_ ?_
    ·simp only;rw[ag,ZsI,hv,hx];rfl
    ·simp (maxSteps:=9^7) +contextual -implicitDefEqProofs only[go_sem,seval,ai,KM]
  ·have:k=l.length:=o_
   subst this;rw[KI] at hv;rw[ZCr ae hv];simp (maxSteps:=9^7) +contextual -implicitDefEqProofs only[go_sem,seval]
 ·have aa : (40:Int)<(l.length:Int):=o_
  rw[ZE1 ae];refine cE ?_;simp (maxSteps:=9^7) +contextual -implicitDefEqProofs only[go_sem,seval,Zda,aa]
def Zic:Nat→List (List UInt8)→List Ev
 | _,[]=>[]
 | _,[_]=>[]
 | k,x :: y :: r=>if 40≤k then [] else match Zhl x with
  | none=>[]
  | some v=>v :: Zic (k+1) (y :: r)
def Jx (s:List UInt8):List Ev:=Zic 0 (ZL 10 s)
theorem Zu9:∀ {n k:Nat} {s:List UInt8},s.length<n→ZsD n k s=Zic k (ZL 10 s)
 | 0,k,s,h=>by omega
 | n+1,k,s,h=>by
  rw[ZsD,ZbV];cases hi:Xp 10 s with
  | none=>simp only[Zic,ite_self]
  | some i=>
   simp only;have aa:=WR 10 (s.drop (i+1));obtain⟨_,_,ab⟩:=Jv hi;have ih:=Zu9 (n:=n) (k:=k+1) (s:=s.drop (i+1)) (by simp;omega);cases hs:ZL 10 (s.drop (i+1)) with
   | nil=>exact absurd hs aa
   | cons y r=>
    rw[hs] at ih;rw[Zic];split
    ·rfl
    ·cases Zhl (s.take i) with
     | none=>rfl
     | some v=>simp only;rw[ih]
theorem ZCs (s:List UInt8):Jx s=ZsD (s.length+1) 0 s:=(Zu9 o_).symm
theorem Zod (s:List UInt8):∃ r,s=Jw (Jx s)++r∧(Jx s).length≤40∧∀ v∈Jx s,v.ok:=by
 obtain⟨r,h1,h2,h3⟩:=Zu5 (n:=s.length+1) (k:=0) (s:=s);rw[← ZCs] at h1 h2 h3;exact⟨r,h1,o_,h3⟩
theorem Zfi (s:List UInt8) (hs:s.length≤1048576):v_ 14 [.d (.str s)] []=some (.own 0,[.tree 16 5 (((Jx s).map Ev.ev).map Zl.enc) none]):=by
 refine cE ?_;simp (maxSteps:=9^7) +contextual -implicitDefEqProofs only[go_sem,seval,Zhb];refine LO (α:=List UInt8×List Ev) (fun a=>[(0,.d (.str a.1))]) (fun a=>[(0,.tree 16 5 ((a.2.map Ev.ev).map Zl.enc) none)]) (fun a=>a.1.length≤s.length∧Jx s=a.2++Zic a.2.length (ZL 10 a.1)) (fun a=>a.1.length) (s,[]) ⟨by simp,by simp[Jx]⟩ ?_;intro⟨t,vs⟩ ⟨hk,hp⟩ ih;simp only at hk hp ih ⊢;have e1:=Zcy t 10 o_;rw[ZbV] at hp;by_cases ae:vs.length<40
 ·have aa : (vs.length:Int)<40:=o_
  have ab:(vs.length+1)*144≤140737488355328∧vs.length≤140737488355327:=o_
  cases hi:Xp 10 t with
  | none=>
   rw[hi] at e1 hp;simp only at e1 hp;simp only[Zic,KE] at hp;rw[hp];simp (maxSteps:=9^7) +contextual -implicitDefEqProofs only[go_sem,seval,ae,aa,e1]
  | some i=>
   rw[hi] at e1 hp;simp only at e1 hp;obtain⟨_,_,ah⟩:=Jv hi;have ag:=WR 10 (t.drop (i+1));obtain⟨K,L,X,Y,W,H,pW,pH,pT,pK,C,o,a,q,tt,ks,e2,h2⟩:=ZpW (t.take i) (by simp;omega);have ad:Jx s=vs++match Zhl (t.take i) with
     | none=>[]
     | some v=>v :: Zic (vs.length+1) (ZL 10 (t.drop (i+1))):=by
    cases hsp:ZL 10 (t.drop (i+1)) with
    | nil=>exact absurd hsp ag
    | cons y r=>rw[hsp,Zic,Kd o_] at hp;exact hp
   cases hv:Zhl (t.take i) with
   | none=>
    rw[hv] at e2 ad;simp only[Kv] at e2;simp only[KE] at ad;rw[ad];cases ks<;>simp (maxSteps:=9^7) +contextual -implicitDefEqProofs only[go_sem,seval,ae,aa,e1,e2]
   | some v=>
    rw[hv] at e2 ad h2;simp only[KV] at e2;simp only[evM] at ad h2;cases ks with
    | nil=>
     simp (maxSteps:=9^7) +contextual -implicitDefEqProofs only[go_sem,seval,ae,aa,e1,e2,ab];refine ih (t.drop (i+1),vs++[v]) _ ⟨by simp;omega,?_⟩ (by simp;omega) ?_
     ·simp only[KM,LQ,Kq,Kl,KO,K0];exact ad
     ·simp (maxSteps:=9^7) +contextual -implicitDefEqProofs only[go_sem,seval,KJ,Kh,Kp,← h2]
    | cons k1 kr=>
     simp (maxSteps:=9^7) +contextual -implicitDefEqProofs only[go_sem,seval,ae,aa,e1,e2,ab];refine ih (t.drop (i+1),vs++[v]) _ ⟨by simp;omega,?_⟩ (by simp;omega) ?_
     ·simp only[KM,LQ,Kq,Kl,KO,K0];exact ad
     ·simp (maxSteps:=9^7) +contextual -implicitDefEqProofs only[go_sem,seval,KJ,Kh,Kp,← h2]
 ·have aa : ¬(vs.length:Int)<40:=o_
  have af:∀ ls,Zic vs.length ls=[]:=by
   intro ls
   match ls with
   | []=>rfl
   | [_]=>rfl
   | x :: y :: r=>rw[Zic,Kg o_]
  rw[af,KE] at hp;rw[hp];simp (maxSteps:=9^7) +contextual -implicitDefEqProofs only[go_sem,seval,ae,aa]
theorem ZE2 {ls:List (List UInt8)} {k m:Nat} {x:List UInt8} (hx:ls[k]?=some x) (hl:k+1<ls.length):Zic m (ls.drop k)=if 40≤m then [] else match Zhl x with
  | none=>[]
  | some v=>v :: Zic (m+1) (ls.drop (k+1)):=by
 obtain⟨h1,h2⟩:=Kc.1 hx;rw[Ku h1,h2,Ku hl,Zic]
theorem Zoe (s:List UInt8) (hs:s.length≤1048576):v_ 26 [.d (.str s)] []=some (.own 0,[.row 16 (((Jx s).map Ev.ev).map Zl.enc) true false]):=by
 have e1:=Zmv s 10 10 rfl hs;have af:=Zk2 10 s;have aj:=Zfd 10 s;have ak:s.count 10≤s.length:=Kav;have ag:=WR 10 s;unfold Jx;generalize ZL 10 s=ls at *;have ad:0<ls.length:=List.length_pos_iff.2 ag;refine cE ?_;simp (maxSteps:=9^7) +contextual -implicitDefEqProofs only[go_sem,seval,Zhi,e1];refine LO (α:=Nat×List Ev) (fun a=>[(5,.d (J (a.1:Int)))]) (fun a=>[(1,.row 16 ((a.2.map Ev.ev).map Zl.enc) true false)]) (fun a=>a.1<ls.length∧a.2.length≤40∧Zic 0 ls=a.2++Zic a.2.length (ls.drop a.1)) (fun a=>ls.length-a.1) (0,[]) ⟨ad,by simp,by simp⟩ ?_;intro⟨k,vs⟩ ⟨hk,h40,hp⟩ ih;simp only at hk h40 hp ih ⊢
 have w:=Zg (k:=k) o_;by_cases ah:k+1<ls.length
 ·obtain⟨x,hx⟩:=Zn hk;have aa : ((k+1:Nat):Int)<(ls.length:Int):=o_
  have al:=af x (Kb hx);obtain⟨K,L,X,Y,W,H,pW,pH,pT,pK,C,o,a,q,tt,ks,e2,h2⟩:=ZpY x o_;have ab:(vs.length+1)*144≤140737488355328∧vs.length≤140737488355327:=o_
  rw[ZE2 hx ah] at hp;cases hv:Zhl x with
  | none=>
   rw[hv] at e2 hp;simp only[Kv] at e2;simp only[ite_self,KE] at hp;rw[hp];simp (maxSteps:=9^7) +contextual -implicitDefEqProofs only[go_sem,seval,aa,hk,hx,w,e2]
  | some v=>
   rw[hv] at e2 hp h2;simp only[KV] at e2;simp only[evM] at hp h2;by_cases hm:vs.length=40
   ·have ae : (vs.length:Int)=40:=o_
    rw[Kg o_,KE] at hp;rw[hp];simp (maxSteps:=9^7) +contextual -implicitDefEqProofs only[go_sem,seval,aa,hk,hx,w,e2,hm,ae]
   ·have ae : ¬(vs.length:Int)=40:=o_
    rw[Kd o_] at hp;simp (maxSteps:=9^7) +contextual -implicitDefEqProofs only[go_sem,seval,aa,hk,hx,w,e2,hm,ae,ab];refine ih (k+1,vs++[v]) _ ⟨p_,by simp;omega,?_⟩ p_ ?_
    ·simp only[KM,LQ,Kq,Kl,KO,K0];exact hp
    ·simp (maxSteps:=9^7) +contextual -implicitDefEqProofs only[go_sem,seval,KJ,Kh,Kp,← h2]
 ·have ai:¬((k+1:Nat):Int)<(ls.length:Int):=o_
  obtain⟨x,hx⟩:=Zn hk;obtain⟨h1,h2⟩:=Kc.1 hx;rw[Ku h1,List.drop_of_length_le o_,Zic,KE] at hp;rw[hp];simp (maxSteps:=9^7) +contextual -implicitDefEqProofs only[go_sem,seval,ai,w]
theorem ZtJ (bs:List UInt8) (hb:bs.length≤2000):∃ (s:List UInt8) (p' : Nat),s.length≤1048576∧p'≤400∧v_ 33 [.ptr 0 0] [.box [.d (.sl (bs.map YU)),(.d (J 0))]]=some (.d (.str s),[.box [.d (.sl (bs.map YU)),(.d (J (p')))]]):=by
 obtain⟨r,e1,l,p,h1,h2,h3,h4,hr⟩:=Zwe bs hb 0 o_;rw[show ((0:Nat):Int)=0 from rfl] at e1;have e2:=ZpZ l;have aa:=ZDT l;generalize Zwo l=tx at e2 aa;have e3:=ZV bs p 4 hb o_;obtain⟨c,hc⟩:∃ c,Qc bs p 4=c:=⟨_,rfl⟩
 rw[hc] at e3;have w:IntKind.i64.wrap ((tx.length:Int)+1)=((tx.length+1:Nat):Int):=Zg (k:=tx.length) o_;have e5:=ZV bs (p+1) ((tx.length+1:Nat):Int) hb o_;have q0:=XN bs (p+1) ((tx.length+1:Nat):Int);have q1:=WQ bs (p+1) ((tx.length+1:Nat):Int) o_;obtain⟨v,hv⟩:∃ v:Nat,Qc bs (p+1) ((tx.length+1:Nat):Int)=v:=⟨(Qc bs (p+1) ((tx.length+1:Nat):Int)).toNat,o_⟩
 rw[hv] at e5 q1;have ab:(v:Int)≤(tx.length:Int):=o_
 obtain⟨s',p2,g1,g2,g3,e4⟩:=Zx3 bs hb (p+1) o_ tx o_;have ad:List.take l.length l=l:=KI;have ae:∀ f:Prop,(∀ b,r=(.own 1,[.box [.d (.sl (bs.map YU)),(.d (J p))],.row 16 (l.map Zl.enc) b false])→f)→(∀ e0,r=(.ownv 1 1 l.length,[.box [.d (.sl (bs.map YU)),(.d (J p))],.row 16 ((e0 :: l).map Zl.enc) true false])→f)→f:=by
  intro f a b;rcases hr with ⟨x,rfl⟩ | ⟨x,rfl⟩
  ·exact a x rfl
  ·exact b x rfl
 by_cases c0:c=0
 ·refine⟨s',p2,o_,o_,?_⟩;refine ae _ (fun b hr=>?_) fun e0 hr=>?_
  ·subst hr;refine cE ?_;cases b with
   | false=>simp (maxSteps:=9^7) +contextual -implicitDefEqProofs only[go_sem,seval,XP,e1,e2,e3,c0,e4]
   | true=>simp (maxSteps:=9^7) +contextual -implicitDefEqProofs only[go_sem,seval,XP,e1,e2,e3,c0,e4]
  ·subst hr;refine cE ?_;simp (maxSteps:=9^7) +contextual -implicitDefEqProofs only[go_sem,seval,XP,e1,e2,e3,c0,e4,ad]
 by_cases c1:c=1
 ·refine⟨tx.take v,p+2,by simp;omega,o_,?_⟩;refine ae _ (fun b hr=>?_) fun e0 hr=>?_
  ·subst hr;refine cE ?_;cases b with
   | false=>simp (maxSteps:=9^7) +contextual -implicitDefEqProofs only[go_sem,seval,XP,e1,e2,e3,c0,c1,w,e5,ab]
   | true=>simp (maxSteps:=9^7) +contextual -implicitDefEqProofs only[go_sem,seval,XP,e1,e2,e3,c0,c1,w,e5,ab]
  ·subst hr;refine cE ?_;simp (maxSteps:=9^7) +contextual -implicitDefEqProofs only[go_sem,seval,XP,e1,e2,e3,c0,c1,w,e5,ab,ad]
 ·refine⟨tx,p+1,o_,o_,?_⟩;refine ae _ (fun b hr=>?_) fun e0 hr=>?_
  ·subst hr;refine cE ?_;cases b with
   | false=>simp (maxSteps:=9^7) +contextual -implicitDefEqProofs only[go_sem,seval,XP,e1,e2,e3,c0,c1]
   | true=>simp (maxSteps:=9^7) +contextual -implicitDefEqProofs only[go_sem,seval,XP,e1,e2,e3,c0,c1]
  ·subst hr;refine cE ?_;simp (maxSteps:=9^7) +contextual -implicitDefEqProofs only[go_sem,seval,XP,e1,e2,e3,c0,c1,ad]
end Go.Proofs.YtfnegoimdljanaaGreatDoor
namespace Go.Proofs.YtfnegoimdljanaaGreatDoor
open Go Go.Abs Go.Abs.E Go.Abs.L
set_option maxRecDepth 20000
set_option maxHeartbeats 4000000
def QQ:List Zc→List Pane
 | []=>[]
 | x :: l=>List.replicate x.Count.toNat x.Pane++QQ l
theorem Zid (x:Zc):∀ l:List Zc,QQ (l++[x])=QQ l++List.replicate x.Count.toNat x.Pane
 | []=>by simp[QQ]
 | y :: l=>by simp only[KF,QQ,Zid x l,KM]
theorem Vx:∀ {l:List Zc},(∀ x∈l,1≤x.Count∧x.Count≤24)→(QQ l).length≤24*l.length
 | [],_=>by simp[QQ]
 | x :: l,h=>by
  have ih:=Vx (l:=l) fun y hy=>h y (by simp[hy]);have:=h x (by simp);simp only[QQ,Kq,L8,Kl];omega
theorem ZmD (l:List Zc) (hv:Jz l):v_ 64 [(.d (.sl (l.map Zc.enc)))] []=some (.own 0,[.row 4 ((QQ l).map Pane.enc) true false]):=by
 have e0:=UB l;rw[Ki hv] at e0;have am:=hv.1;have aa:=Z5 hv;refine cE ?_;simp (maxSteps:=9^7) +contextual -implicitDefEqProofs only[go_sem,seval,Zpg,e0];refine LO (α:=Nat) (fun k=>[(11,.d (J (k:Int)))]) (fun k=>[(0,.row 4 ((QQ (l.take k)).map Pane.enc) true false)]) (fun k=>k≤l.length) (fun k=>l.length-k) 0 o_ ?_;intro k hk ih;by_cases af:k<l.length
 ·obtain⟨x,hx⟩:=Zn af;have ad : (k:Int)<(l.length:Int):=o_
  have w:=Zg (k:=k) o_;have ah:l.take (k+1)=l.take k++[x]:=by rw[KB,hx];rfl
  have ag:=aa x (Kb hx);have an:=Vx (l:=l.take k) fun y hy=>(aa y (Lh hy)).2;have ao:(l.take k).length≤8:=by simp;omega
  obtain⟨⟨W,H,T,K⟩,C⟩:=x;obtain⟨n,hn⟩:∃ n:Nat,C=n:=⟨C.toNat,by simp only at ag;omega⟩
  subst hn;simp only at ag;have ai:QQ (l.take (k+1))=QQ (l.take k)++List.replicate n ⟨W,H,T,K⟩:=by rw[ah,Zid];rfl
  simp (maxSteps:=9^7) +contextual -implicitDefEqProofs only[go_sem,seval,ad,af,hx,w];refine X1 Xs Ms (st0:=?st1) (α:=Nat) (fun j=>[(17,.d (J (j:Int)))]) (fun j=>[(1,.row 4 ((QQ (l.take k)++List.replicate j (Pane.mk W H T K)).map Pane.enc) true false)]) (fun j=>j≤n) (fun j=>n-j) 0 ?hc2 o_ ?h02 ?step2
  case hc2=>simp (maxSteps:=9^7) +contextual -implicitDefEqProofs only[go_sem,seval]<;>exact rfl
  case h02=>simp only[List.replicate_zero,KE];rfl
  case step2=>
   intro j hj aj;by_cases ak:j<n
   ·have ae : (j:Int)<(n:Int):=o_
    have w2:=Zg (k:=j) o_;have ab:((QQ (l.take k)++List.replicate j (Pane.mk W H T K)).length+1)*32≤140737488355328∧(QQ (l.take k)++List.replicate j (Pane.mk W H T K)).length+1≤140737488355328:=by simp only[Kq,L8];omega
    have al:QQ (l.take k)++List.replicate (j+1) (Pane.mk W H T K)=(QQ (l.take k)++List.replicate j (Pane.mk W H T K))++[Pane.mk W H T K]:=by rw[List.replicate_succ',KM]
    generalize QQ (l.take k)++List.replicate j (Pane.mk W H T K)=qs at *;simp (maxSteps:=9^7) +contextual -implicitDefEqProofs only[go_sem,seval,ae,ak,w2,ab];refine aj (j+1) _ o_ o_ ?_;simp (maxSteps:=9^7) +contextual -implicitDefEqProofs only[go_sem,seval,al,KJ,Kh,Kp]
   ·have:j=n:=o_
    subst this;simp (maxSteps:=9^7) +contextual -implicitDefEqProofs only[go_sem,seval,w];refine ih (k+1) _ o_ o_ ?_;simp (maxSteps:=9^7) +contextual -implicitDefEqProofs only[go_sem,seval,ai]
 ·have:k=l.length:=o_
  subst this;simp (maxSteps:=9^7) +contextual -implicitDefEqProofs only[go_sem,seval,KI]
theorem Zfj {ps:List Pane} (hl:ps.length≤24):∀ {b:BT} {w h:Int},XM ps b w h=true→w≤200→h≤200→YO b=true
 | .waste,_,_,_,_,_=>rfl
 | .pane i t,w,h,hf,_,_=>by
  simp only[XM] at hf;unfold XS at hf;rw[Kf,Ko] at hf;simp only[YO,Ko];cases hq:ps[i.toNat]? with
  | none=>rw[hq] at hf;cases hf.2
  | some q=>have:=(Kc.1 hq).1;omega
 | .cut d a l r,w,h,hf,hw,hh=>by
  simp only[YO,Kf,Ko];cases d with
  | true=>
   simp only[XM,Km,Kf,Ko] at hf;exact⟨⟨o_,Zfj hl hf.1.2 o_ hh⟩,Zfj hl hf.2 o_ hh⟩
  | false=>
   simp only[XM,Ka,Kn,Kf,Ko] at hf;exact⟨⟨o_,Zfj hl hf.1.2 hw o_⟩,Zfj hl hf.2 hw o_⟩
theorem Zyj (i:Int) (t:Bool) (X Y W H bX bY bW bH:Int):(Qf i t X Y W H bX bY bW bH).cnt≤9:=by
 unfold Qf;simp only;split<;>split<;>split<;>split<;>simp[BT.cnt]
theorem Zwp {s:Zo} {e:Zl} (hv:ZI s) (h:WA s=some e):∃ (l:Nat) (b:BT),e.plan=b.plan∧e=(Ev.cut l b).ev∧Wg e=some (.cut l b)∧(Ev.cut l b).ok:=by
 obtain⟨u,n,j,x,q,t,bx,F⟩:=Zx0 hv h;have hq:=(ZW hv.1.2 q (Kb F.fq)).1;have hl:1≤q.Label∧q.Label≤9999∧q.W≤200∧q.H≤200:=o_
 obtain⟨b,hb,hp,hw,hc,hf,_⟩:=QU F.good.1;have hcb:=Zfj (by have:=hw.2.2.2.2.1;exact this) hf hl.2.2.1 hl.2.2.2;have aa:b=Qf n t bx.X bx.Y bx.W bx.H 0 0 q.W q.H:=by
  have h1:=F.fe;have h2:e.plan=(Qf n t bx.X bx.Y bx.W bx.H 0 0 q.W q.H).plan:=by rw[h1];rfl
  have h3:=XG (Qf n t bx.X bx.Y bx.W bx.H 0 0 q.W q.H);rw[← h2,hb] at h3;exact Option.some.inj h3
 have h9:b.cnt≤9:=by rw[aa];exact Zyj ..
 have ae:=Zcw b hcb;have ab:ZmA b:=⟨hc,hcb,o_⟩
 have ad:e=(Ev.cut q.Label.toNat b).ev:=by
  rw[F.fe];show Zlc n t bx q=⟨3,((q.Label.toNat:Nat):Int),bx0,ln0,b.plan⟩;rw[KR (show 0≤q.Label by omega),aa];rfl
 refine⟨q.Label.toNat,b,hp,ad,?_,by simp only[Ev.ok];exact⟨o_,ab⟩⟩;rw[YG (b:=b) ?_ hb ab]
 ·rw[F.fe];rfl
 ·rw[F.fe];intro m hm;unfold Yw Zlc at hm;simp only[Ke,Kx,or_false] at hm;unfold six;omega
def Zgc (s:Zo) (w:List UInt8):List UInt8:=
 if w=[115,116,111,99,107] then num s.Stock.length else if w=[111,112,101,110] then num (QQ s.Opn).length else if w=[100,111,110,101] then num (QQ s.Done).length
 else if w=[108,111,115,116] then num s.Lost.toNat else if w=[99,97,109,101] then num s.Came.toNat else if w=[110,101,120,116] then (match WA s with
  | some e=>ZtI e
  | none=>[110,111,110,101]) else [119,104,97,116]
theorem Zyk {s:Zo} (hv:ZI s) (w:List UInt8):0<(Zgc s w).length∧(Zgc s w).length≤20000:=by
 obtain⟨v1,v2,v3,h1,h2,h3,h4,h5⟩:=hv;have l2:=Vx fun x hx=>(Z5 v2 x hx).2;have l3:=Vx fun x hx=>(Z5 v3 x hx).2;have b2:=v2.1;have b3:=v3.1;have b1:=v1.1;have one:∀ n,n≤900000→0<(num n).length∧(num n).length≤20000:=fun n hn=>by
  have:=Ye 5 n o_;have:=Zwg n;omega
 unfold Zgc;split
 ·exact one _ o_
 ·split
  ·exact one _ o_
  ·split
   ·exact one _ o_
   ·split
    ·exact one _ o_
    ·split
     ·exact one _ o_
     ·split
      ·cases h:WA s with
       | none=>simp
       | some e=>
        obtain⟨l,b,_,_,aa,ab⟩:=Zwp ⟨v1,v2,v3,h1,h2,h3,h4,h5⟩ h;simp only;rw[WU aa];have h1:=ZsF ab;have h2:(Ev.cut l b).text≠[]:=fun h=>by have:=ZEZ (.cut l b);rw[h] at this;cases this
        have:=List.length_pos_iff.2 h2;omega
      ·simp
theorem Zwq (sS:List Zb) (sO sD:List Zc) (sL sC:Int) (hv:ZI (Zo.mk sS sO sD sL sC)) (w:List UInt8):v_ 29 [(.d (.agg [.sl (sS.map Zb.enc),.sl (sO.map Zc.enc),.sl (sD.map Zc.enc),J sL,J sC])),.d (.str w)] []=some (.d (.str (Zgc (Zo.mk sS sO sD sL sC) w)),[]):=by
 have ah:=hv;obtain⟨v1,v2,v3,h1,h2,h3,h4,h5⟩:=hv;simp only at v1 v2 v3 h1 h2 h3 h4 h5;have p2:=ZmD sO v2;have p3:=ZmD sD v3;have l2:=Vx fun x hx=>(Z5 v2 x hx).2;have l3:=Vx fun x hx=>(Z5 v3 x hx).2;have b2:=v2.1;have b3:=v3.1;have b1:=v1.1;unfold Zgc;by_cases q1:w=[115,116,111,99,107]
 ·rw[Kg q1];have e:=Qg (sS.length:Int) o_ o_;rw[Kz] at e;have aa : (w==[115,116,111,99,107])=true:=by rw[beq_iff_eq];exact q1
  refine cE ?_;simp (maxSteps:=9^7) +contextual -implicitDefEqProofs only[go_sem,seval,VA,e,aa]
 ·rw[Kd q1];have aa : (w==[115,116,111,99,107])=false:=by rw[beq_eq_false_iff_ne];exact q1
  by_cases q2:w=[111,112,101,110]
  ·rw[Kg q2];have e:=Qg ((QQ sO).length:Int) o_ o_;rw[Kz] at e;have ab : (w==[111,112,101,110])=true:=by rw[beq_iff_eq];exact q2
   refine cE ?_;simp (maxSteps:=9^7) +contextual -implicitDefEqProofs only[go_sem,seval,VA,p2,e,aa,ab]
  ·rw[Kd q2];have ab : (w==[111,112,101,110])=false:=by rw[beq_eq_false_iff_ne];exact q2
   by_cases q3:w=[100,111,110,101]
   ·rw[Kg q3];have e:=Qg ((QQ sD).length:Int) o_ o_;rw[Kz] at e;have ad : (w==[100,111,110,101])=true:=by rw[beq_iff_eq];exact q3
    refine cE ?_;simp (maxSteps:=9^7) +contextual -implicitDefEqProofs only[go_sem,seval,VA,p3,e,aa,ab,ad]
   ·rw[Kd q3];have ad : (w==[100,111,110,101])=false:=by rw[beq_eq_false_iff_ne];exact q3
    by_cases q4:w=[108,111,115,116]
    ·rw[Kg q4];have e:=Qg sL h1 o_;have ae : (w==[108,111,115,116])=true:=by rw[beq_iff_eq];exact q4
     refine cE ?_;simp (maxSteps:=9^7) +contextual -implicitDefEqProofs only[go_sem,seval,VA,e,aa,ab,ad,ae]
    ·rw[Kd q4];have ae : (w==[108,111,115,116])=false:=by rw[beq_eq_false_iff_ne];exact q4
     by_cases q5:w=[99,97,109,101]
     ·rw[Kg q5];have e:=Qg sC h3 o_;have af : (w==[99,97,109,101])=true:=by rw[beq_iff_eq];exact q5
      refine cE ?_;simp (maxSteps:=9^7) +contextual -implicitDefEqProofs only[go_sem,seval,VA,e,aa,ab,ad,ae,af]
     ·rw[Kd q5];have af : (w==[99,97,109,101])=false:=by rw[beq_eq_false_iff_ne];exact q5
      by_cases q6:w=[110,101,120,116]
      ·rw[Kg q6];have ag : (w==[110,101,120,116])=true:=by rw[beq_iff_eq];exact q6
       have e:=Zmo sS sO sD sL sC ah;cases hn:WA (Zo.mk sS sO sD sL sC) with
       | none=>
        rw[hn] at e;unfold nxT at e;refine cE ?_;simp (maxSteps:=9^7) +contextual -implicitDefEqProofs only[go_sem,seval,VA,e,aa,ab,ad,ae,af,ag]
       | some ev=>
        rw[hn] at e;obtain⟨K,L,⟨X,Y,W,H⟩,⟨⟨pW,pH,pT,pK⟩,C⟩,⟨o,a,q,t,ks⟩⟩:=ev;unfold nxT at e;simp only at e;have e2:=Zfh K L X Y W H pW pH pT pK C o a q t ks;rcases ks with _ | ⟨k1,ks⟩ <;>
        ·simp only[Kh,Kp] at e2;refine cE ?_;simp (maxSteps:=9^7) +contextual -implicitDefEqProofs only[go_sem,seval,VA,e,e2,aa,ab,ad,ae,af,ag]
      ·rw[Kd q6];have ag : (w==[110,101,120,116])=false:=by rw[beq_eq_false_iff_ne];exact q6
       refine cE ?_;simp (maxSteps:=9^7) +contextual -implicitDefEqProofs only[go_sem,seval,VA,aa,ab,ad,ae,af,ag]
end Go.Proofs.YtfnegoimdljanaaGreatDoor
namespace Go.Proofs.YtfnegoimdljanaaGreatDoor
open Go Go.Abs Go.Abs.E Go.Abs.L
set_option maxRecDepth 20000
set_option maxHeartbeats 4000000
theorem ZmE (l:List Zc) (hv:Jz l):v_ 60 [(.d (.sl (l.map Zc.enc)))] []=some (.own 0,[.row 4 ((QQ l).map Pane.enc) true false]):=by
 have am:=hv.1;have aa:=Z5 hv;refine cE ?_;simp (maxSteps:=9^7) +contextual -implicitDefEqProofs only[go_sem,seval,Zpn];refine LO (α:=Nat) (fun k=>[(4,.d (J (k:Int)))]) (fun k=>[(0,.row 4 ((QQ (l.take k)).map Pane.enc) true false)]) (fun k=>k≤l.length) (fun k=>l.length-k) 0 o_ ?_;intro k hk ih;by_cases ad:k<l.length
 ·obtain⟨x,hx⟩:=Zn ad;have ae : (k:Int)<(l.length:Int):=o_
  have w:=Zg (k:=k) o_;have ah:l.take (k+1)=l.take k++[x]:=by rw[KB,hx];rfl
  have ag:=aa x (Kb hx);have an:=Vx (l:=l.take k) fun y hy=>(aa y (Lh hy)).2;have ao:(l.take k).length≤8:=by simp;omega
  obtain⟨⟨W,H,T,K⟩,C⟩:=x;obtain⟨n,hn⟩:∃ n:Nat,C=n:=⟨C.toNat,by simp only at ag;omega⟩
  subst hn;simp only at ag;have ai:QQ (l.take (k+1))=QQ (l.take k)++List.replicate n ⟨W,H,T,K⟩:=by rw[ah,Zid];rfl
  simp (maxSteps:=9^7) +contextual -implicitDefEqProofs only[go_sem,seval,ae,ad,hx,w];refine X1 Xs Ms (st0:=?st1) (α:=Nat) (fun j=>[(5,.d (J (j:Int)))]) (fun j=>[(0,.row 4 ((QQ (l.take k)++List.replicate j (Pane.mk W H T K)).map Pane.enc) true false)]) (fun j=>j≤n) (fun j=>n-j) 0 ?hc2 o_ ?h02 ?step2
  case hc2=>simp (maxSteps:=9^7) +contextual -implicitDefEqProofs only[go_sem,seval]<;>exact rfl
  case h02=>simp only[List.replicate_zero,KE];rfl
  case step2=>
   intro j hj aj;by_cases ak:j<n
   ·have af : (j:Int)<(n:Int):=o_
    have w2:=Zg (k:=j) o_;have ab:((QQ (l.take k)++List.replicate j (Pane.mk W H T K)).length+1)*32≤140737488355328∧(QQ (l.take k)++List.replicate j (Pane.mk W H T K)).length+1≤140737488355328:=by simp only[Kq,L8];omega
    have al:QQ (l.take k)++List.replicate (j+1) (Pane.mk W H T K)=(QQ (l.take k)++List.replicate j (Pane.mk W H T K))++[Pane.mk W H T K]:=by rw[List.replicate_succ',KM]
    generalize QQ (l.take k)++List.replicate j (Pane.mk W H T K)=qs at *;simp (maxSteps:=9^7) +contextual -implicitDefEqProofs only[go_sem,seval,af,ak,ad,hx,w2,ab];refine aj (j+1) _ o_ o_ ?_;simp (maxSteps:=9^7) +contextual -implicitDefEqProofs only[go_sem,seval,al,KJ,Kh,Kp]
   ·have:j=n:=o_
    subst this;simp (maxSteps:=9^7) +contextual -implicitDefEqProofs only[go_sem,seval,w,ad,hx];refine ih (k+1) _ o_ o_ ?_;simp (maxSteps:=9^7) +contextual -implicitDefEqProofs only[go_sem,seval,ai]
 ·have:k=l.length:=o_
  subst this;simp (maxSteps:=9^7) +contextual -implicitDefEqProofs only[go_sem,seval,KI]
theorem Zyl (sS:List Zb) (sO sD:List Zc) (sL sC:Int) (hv:ZI (Zo.mk sS sO sD sL sC)) (w:List UInt8):v_ 27 [(.d (.agg [.sl (sS.map Zb.enc),.sl (sO.map Zc.enc),.sl (sD.map Zc.enc),J sL,J sC])),.d (.str w)] []=some (.d (.str (Zgc (Zo.mk sS sO sD sL sC) w)),[]):=by
 have ah:=hv;obtain⟨v1,v2,v3,h1,h2,h3,h4,h5⟩:=hv;simp only at v1 v2 v3 h1 h2 h3 h4 h5;have p2:=ZmE sO v2;have p3:=ZmE sD v3;have l2:=Vx fun x hx=>(Z5 v2 x hx).2;have l3:=Vx fun x hx=>(Z5 v3 x hx).2;have b2:=v2.1;have b3:=v3.1;have b1:=v1.1;have aj:((sL.toNat:Nat):Int)=sL:=KR h1;have ak:((sC.toNat:Nat):Int)=sC:=KR h3;unfold Zgc;by_cases q1:w=[115,116,111,99,107]
 ·rw[Kg q1];have e:=Xb sS.length o_;have aa : (w==[115,116,111,99,107])=true:=by rw[beq_iff_eq];exact q1
  refine cE ?_;simp (maxSteps:=9^7) +contextual -implicitDefEqProofs only[go_sem,seval,Vz,e,aa]
 ·rw[Kd q1];have aa : (w==[115,116,111,99,107])=false:=by rw[beq_eq_false_iff_ne];exact q1
  by_cases q2:w=[111,112,101,110]
  ·rw[Kg q2];have e:=Xb (QQ sO).length o_;have ab : (w==[111,112,101,110])=true:=by rw[beq_iff_eq];exact q2
   refine cE ?_;simp (maxSteps:=9^7) +contextual -implicitDefEqProofs only[go_sem,seval,Vz,p2,e,aa,ab]
  ·rw[Kd q2];have ab : (w==[111,112,101,110])=false:=by rw[beq_eq_false_iff_ne];exact q2
   by_cases q3:w=[100,111,110,101]
   ·rw[Kg q3];have e:=Xb (QQ sD).length o_;have ad : (w==[100,111,110,101])=true:=by rw[beq_iff_eq];exact q3
    refine cE ?_;simp (maxSteps:=9^7) +contextual -implicitDefEqProofs only[go_sem,seval,Vz,p3,e,aa,ab,ad]
   ·rw[Kd q3];have ad : (w==[100,111,110,101])=false:=by rw[beq_eq_false_iff_ne];exact q3
    by_cases q4:w=[108,111,115,116]
    ·rw[Kg q4];have e:=Xb sL.toNat o_;rw[aj] at e;have ae : (w==[108,111,115,116])=true:=by rw[beq_iff_eq];exact q4
     refine cE ?_;simp (maxSteps:=9^7) +contextual -implicitDefEqProofs only[go_sem,seval,Vz,e,aa,ab,ad,ae]
    ·rw[Kd q4];have ae : (w==[108,111,115,116])=false:=by rw[beq_eq_false_iff_ne];exact q4
     by_cases q5:w=[99,97,109,101]
     ·rw[Kg q5];have e:=Xb sC.toNat o_;rw[ak] at e;have af : (w==[99,97,109,101])=true:=by rw[beq_iff_eq];exact q5
      refine cE ?_;simp (maxSteps:=9^7) +contextual -implicitDefEqProofs only[go_sem,seval,Vz,e,aa,ab,ad,ae,af]
     ·rw[Kd q5];have af : (w==[99,97,109,101])=false:=by rw[beq_eq_false_iff_ne];exact q5
      by_cases q6:w=[110,101,120,116]
      ·rw[Kg q6];have ag : (w==[110,101,120,116])=true:=by rw[beq_iff_eq];exact q6
       have e:=ZmQ sS sO sD sL sC (Zwz ah);cases hn:WA (Zo.mk sS sO sD sL sC) with
       | none=>
        rw[hn] at e;unfold nxV at e;refine cE ?_;simp (maxSteps:=9^7) +contextual -implicitDefEqProofs only[go_sem,seval,Vz,e,aa,ab,ad,ae,af,ag]
       | some ev=>
        rw[hn] at e;obtain⟨_,_,_,_,ai,_⟩:=Zwp ah hn;have al:=WU ai;obtain⟨K,L,⟨X,Y,W,H⟩,⟨⟨pW,pH,pT,pK⟩,C⟩,⟨o,a,q,t,ks⟩⟩:=ev;unfold nxV at e;simp only at e;have e2:=ZcD K L X Y W H pW pH pT pK C o a q t ks _ ai;rw[← al] at e2;rcases ks with _ | ⟨k1,ks⟩ <;>
        ·simp only[Kh,Kp] at e2;refine cE ?_;simp (maxSteps:=9^7) +contextual -implicitDefEqProofs only[go_sem,seval,Vz,e,e2,aa,ab,ad,ae,af,ag]
      ·rw[Kd q6];have ag : (w==[110,101,120,116])=false:=by rw[beq_eq_false_iff_ne];exact q6
       refine cE ?_;simp (maxSteps:=9^7) +contextual -implicitDefEqProofs only[go_sem,seval,Vz,aa,ab,ad,ae,af,ag]
def dkT (o:Option Zo) (w:List UInt8):List UInt8:=match o with
 | some s=>Zgc s w
 | none=>[99,108,111,115,101,100]
def dkO (o:Option Zo):Prop:=∀ s,o=some s→ZI s
theorem Zwr {o:Option Zo} (ho:dkO o) (w:List UInt8):0<(dkT o w).length∧(dkT o w).length≤20000:=by
 cases o with
 | none=>simp[dkT]
 | some s=>exact Zyk (ho s rfl) w
def Zfk (o:Option Zo) (ws:List (List UInt8)):List UInt8:=if 20<ws.length then [] else QL (dkT o) ws
theorem Zqj {o:Option Zo} (ho:dkO o):∀ ws:List (List UInt8),(QL (dkT o) ws).length≤20001*ws.length
 | []=>by simp[QL]
 | w :: r=>by
  have ih:=Zqj ho r;have:=Zwr ho w;rw[ZdD];simp only[Kq,Kl];omega
theorem Zym {o:Option Zo} {ws:List (List UInt8)} {k:Nat} {w:List UInt8} (h:ws[k]?=some w):QL (dkT o) (ws.take (k+1))=QL (dkT o) (ws.take k)++(dkT o w++[10]):=by
 rw[KB,h];exact Zo9 ..
theorem Zqk (l:List Zl):dkO (Zf5 l):=fun s h=>by
 unfold Zf5 at h;split at h
 ·exact Zsf Zgh h
 ·cases h
theorem Zd5 (aa:List UInt8) (hb:aa.length≤1048576) (ws:List (List UInt8)) (hw:ws.length≤1048576) :
  v_ 10 [.d (.str aa),.d (.sl (ws.map .str))] []=some (.d (.str (Zfk (Zf5 ((Jx aa).map Ev.ev)) ws)),[]):=by
 unfold Zfk;by_cases af:20<ws.length
 ·have ab : (20:Int)<(ws.length:Int):=o_
  rw[Kg af];refine cE ?_;simp (maxSteps:=9^7) +contextual -implicitDefEqProofs only[go_sem,seval,ZaW,ab,af]
 ·have ab : ¬(20:Int)<(ws.length:Int):=o_
  rw[Kd af];have e1:=Zfi aa hb;obtain⟨_,_,ak,_⟩:=Zod aa;obtain⟨r,e2,hr⟩:=Zml ((Jx aa).map Ev.ev) (by simp;omega);have ho:=Zqk ((Jx aa).map Ev.ev);generalize Zf5 ((Jx aa).map Ev.ev)=o at *;have ht:=@Zym o ws;have ag:=Zqj ho;have ah:=Zwr ho;cases o with
  | none=>
   unfold shO shT at hr;simp only at hr;subst hr;refine cE ?_;simp (maxSteps:=9^7) +contextual -implicitDefEqProofs only[go_sem,seval,ZaW,e1,e2,ab,af];refine LO (α:=Nat) (fun k=>[(21,.d (J (k:Int)))]) (fun k=>[(0,.box [.bnil 0 66,.bbuf 5 (QL (dkT none) (ws.take k))])]) (fun k=>k≤ws.length) (fun k=>ws.length-k) 0 o_ ?_;intro k hk ih;by_cases ae:k<ws.length
   ·have ad : (k:Int)<(ws.length:Int):=o_
    have w:=Zg (k:=k) o_;obtain⟨x,hx⟩:=Zn ae;have ht:=ht hx;have ai:=ag (ws.take k);have aj:(ws.take k).length≤20:=by simp;omega
    have e4:=QO (QL (dkT none) (ws.take k)) [99,108,111,115,101,100] (by simp) (by simp;omega);have e5:=ZY (QL (dkT none) (ws.take k)++[99,108,111,115,101,100]) 10 10 rfl (by simp;omega);simp (maxSteps:=9^7) +contextual -implicitDefEqProofs only[go_sem,seval,ad,ae,hx,w,e4,e5];refine ih (k+1) _ o_ o_ ?_;simp (maxSteps:=9^7) +contextual -implicitDefEqProofs only[go_sem,seval,ht,KM,dkT]
   ·have:k=ws.length:=o_
    subst this;have e6:=Wb (QL (dkT none) (ws.take ws.length));rw[KI] at e6 ⊢;simp (maxSteps:=9^7) +contextual -implicitDefEqProofs only[go_sem,seval,e6]
  | some z=>
   obtain⟨sS,sO,sD,sL,sC⟩:=z;have ha:=Zwq sS sO sD sL sC (ho _ rfl);unfold shO at hr;simp only at hr;obtain⟨u,hu,hr⟩:=hr;subst hr;rcases hu with rfl | ⟨hs,rfl⟩
   ·skip
    refine cE ?_;simp (maxSteps:=9^7) +contextual -implicitDefEqProofs only[go_sem,seval,ZaW,e1,e2,ab,af];refine X1 Xs Ms (st0:=?stb) (α:=Nat) (fun k=>[(21,.d (J (k:Int)))]) (fun k=>[(0,.box [.bnil 0 66,.bbuf 5 (QL (dkT (some ⟨sS,sO,sD,sL,sC⟩)) (ws.take k))])]) (fun k=>k≤ws.length) (fun k=>ws.length-k) 0 ?hcb o_ ?h0b ?stepb
    case hcb=>simp (maxSteps:=9^7) +contextual -implicitDefEqProofs only[go_sem,seval]<;>exact rfl
    case h0b=>rfl
    case stepb=>
     intro k hk ih;by_cases ae:k<ws.length
     ·have ad : (k:Int)<(ws.length:Int):=o_
      have w:=Zg (k:=k) o_;obtain⟨x,hx⟩:=Zn ae;have ht:=ht hx;have ha:=ha x;have hn:=ah x;unfold dkT at hn;simp only at hn;have ai:=ag (ws.take k);have aj:(ws.take k).length≤20:=by simp;omega
      have e4:=QO (QL (dkT (some ⟨sS,sO,sD,sL,sC⟩)) (ws.take k)) (Zgc ⟨sS,sO,sD,sL,sC⟩ x) hn.1 o_;have e5:=ZY (QL (dkT (some ⟨sS,sO,sD,sL,sC⟩)) (ws.take k)++Zgc ⟨sS,sO,sD,sL,sC⟩ x) 10 10 rfl (by simp;omega);simp (maxSteps:=9^7) +contextual -implicitDefEqProofs only[go_sem,seval,ad,ae,hx,w,ha,e4,e5];refine ih (k+1) _ o_ o_ ?_;simp (maxSteps:=9^7) +contextual -implicitDefEqProofs only[go_sem,seval,ht,KM,dkT]
     ·have:k=ws.length:=o_
      subst this;have e6:=Wb (QL (dkT (some ⟨sS,sO,sD,sL,sC⟩)) (ws.take ws.length));rw[KI] at e6 ⊢;simp (maxSteps:=9^7) +contextual -implicitDefEqProofs only[go_sem,seval,e6]
   ·subst hs;refine cE ?_;simp (maxSteps:=9^7) +contextual -implicitDefEqProofs only[go_sem,seval,ZaW,e1,e2,ab,af];refine X1 Xs Ms (st0:=?stc) (α:=Nat) (fun k=>[(21,.d (J (k:Int)))]) (fun k=>[(0,.box [.bnil 0 66,.bbuf 5 (QL (dkT (some ⟨[],sO,sD,sL,sC⟩)) (ws.take k))])]) (fun k=>k≤ws.length) (fun k=>ws.length-k) 0 ?hcc o_ ?h0c ?stepc
    case hcc=>simp (maxSteps:=9^7) +contextual -implicitDefEqProofs only[go_sem,seval]<;>exact rfl
    case h0c=>rfl
    case stepc=>
     intro k hk ih;by_cases ae:k<ws.length
     ·have ad : (k:Int)<(ws.length:Int):=o_
      have w:=Zg (k:=k) o_;obtain⟨x,hx⟩:=Zn ae;have ht:=ht hx;have ha:=ha x;simp only[Kp] at ha;have hn:=ah x;unfold dkT at hn;simp only at hn;have ai:=ag (ws.take k);have aj:(ws.take k).length≤20:=by simp;omega
      have e4:=QO (QL (dkT (some ⟨[],sO,sD,sL,sC⟩)) (ws.take k)) (Zgc ⟨[],sO,sD,sL,sC⟩ x) hn.1 o_;have e5:=ZY (QL (dkT (some ⟨[],sO,sD,sL,sC⟩)) (ws.take k)++Zgc ⟨[],sO,sD,sL,sC⟩ x) 10 10 rfl (by simp;omega);simp (maxSteps:=9^7) +contextual -implicitDefEqProofs only[go_sem,seval,ad,ae,hx,w,ha,e4,e5];refine ih (k+1) _ o_ o_ ?_;simp (maxSteps:=9^7) +contextual -implicitDefEqProofs only[go_sem,seval,ht,KM,dkT]
     ·have:k=ws.length:=o_
      subst this;have e6:=Wb (QL (dkT (some ⟨[],sO,sD,sL,sC⟩)) (ws.take ws.length));rw[KI] at e6 ⊢;simp (maxSteps:=9^7) +contextual -implicitDefEqProofs only[go_sem,seval,e6]
theorem ZmF (aa:List UInt8) (hb:aa.length≤1048576) (ws:List (List UInt8)) (hw:ws.length≤1048576) :
  v_ 8 [.d (.str aa),.d (.sl (ws.map .str))] []=some (.d (.str (Zfk (Zf5 ((Jx aa).map Ev.ev)) ws)),[]):=by
 unfold Zfk;by_cases ae:20<ws.length
 ·have ab : (20:Int)<(ws.length:Int):=o_
  rw[Kg ae];refine cE ?_;simp (maxSteps:=9^7) +contextual -implicitDefEqProofs only[go_sem,seval,ZdL,ab,ae]
 ·have ab : ¬(20:Int)<(ws.length:Int):=o_
  rw[Kd ae];have e1:=Zoe aa hb;obtain⟨_,_,ap,ah⟩:=Zod aa;have e2:=Zwd ((Jx aa).map Ev.ev) (by simp;omega) (by
   intro e he;obtain⟨v,hv,rfl⟩:=Ll.1 he;have:=ah v hv;cases v<;>simp only[Ev.ok,Ev.ev,bx0,R64] at this ⊢ <;> omega)
  have ai:Zf5 ((Jx aa).map Ev.ev)=runL ⟨[],[],[],0,0⟩ ((Jx aa).map Ev.ev):=by unfold Zf5;rw[Kg (by simp;omega)]
  rw[← ai] at e2;have ho:=Zqk ((Jx aa).map Ev.ev);generalize Zf5 ((Jx aa).map Ev.ev)=o at *;have ht:=@Zym o ws;have ag:=Zqj ho;have aj:=Zwr ho;cases o with
  | none=>
   unfold shV at e2;simp only at e2;refine cE ?_;simp (maxSteps:=9^7) +contextual -implicitDefEqProofs only[go_sem,seval,ZdL,ab,ae,e1,e2];refine LO (α:=Nat) (fun k=>[(8,.d (J (k:Int))),(7,.d (.str (QL (dkT none) (ws.take k))))]) (fun _=>[]) (fun k=>k≤ws.length) (fun k=>ws.length-k) 0 o_ ?_;intro k hk ih;by_cases af:k<ws.length
   ·have ad : (k:Int)<(ws.length:Int):=o_
    have w:=Zg (k:=k) o_;obtain⟨x,hx⟩:=Zn af;have ht:=ht hx;have ak:=ag (ws.take k);have al:(ws.take k).length≤20:=by simp;omega
    have hq:(QL (dkT none) (ws.take k)).length≤1152921504606846969:=o_
    have am:dkT none x=[99,108,111,115,101,100]:=rfl;rw[am] at ht;simp only[KF,K6] at ht;simp (maxSteps:=9^7) +contextual -implicitDefEqProofs only[go_sem,seval,ad,af,hx,w,hq];refine ih (k+1) _ o_ o_ ?_;simp (maxSteps:=9^7) +contextual -implicitDefEqProofs only[go_sem,seval,ht,KM]
   ·have:k=ws.length:=o_
    subst this;simp (maxSteps:=9^7) +contextual -implicitDefEqProofs only[go_sem,seval,KI]
  | some z=>
   obtain⟨sS,sO,sD,sL,sC⟩:=z;have ha:=Zyl sS sO sD sL sC (ho _ rfl);unfold shV at e2;simp only at e2;refine cE ?_;simp (maxSteps:=9^7) +contextual -implicitDefEqProofs only[go_sem,seval,ZdL,ab,ae,e1,e2];refine X1 Xs Ms (st0:=?stb) (α:=Nat) (fun k=>[(8,.d (J (k:Int))),(7,.d (.str (QL (dkT (some ⟨sS,sO,sD,sL,sC⟩)) (ws.take k))))]) (fun _=>[]) (fun k=>k≤ws.length) (fun k=>ws.length-k) 0 ?hcb o_ ?h0b ?stepb
   case hcb=>simp (maxSteps:=9^7) +contextual -implicitDefEqProofs only[go_sem,seval]<;>exact rfl
   case h0b=>rfl
   case stepb=>
    intro k hk ih;by_cases af:k<ws.length
    ·have ad : (k:Int)<(ws.length:Int):=o_
     have w:=Zg (k:=k) o_;obtain⟨x,hx⟩:=Zn af;have ht:=ht hx;have ha:=ha x;have ak:=ag (ws.take k);have hn:=aj x;unfold dkT at hn;simp only at hn;have al:(ws.take k).length≤20:=by simp;omega
     generalize hL:QL (dkT (some ⟨sS,sO,sD,sL,sC⟩)) (ws.take k)=L at *;generalize hA:Zgc ⟨sS,sO,sD,sL,sC⟩ x=A at *;have hq:L.length+A.length≤1152921504606846976:=o_
     have an:(L++A).length≤1152921504606846975:=by simp;omega
     have ao:L.length+A.length≤1152921504606846975:=o_
     simp (maxSteps:=9^7) +contextual -implicitDefEqProofs only[go_sem,seval,ad,af,hx,w,ha,hq,an,ao];refine ih (k+1) _ o_ o_ ?_;simp (maxSteps:=9^7) +contextual -implicitDefEqProofs only[go_sem,seval,ht,KM,dkT,hA]
    ·have:k=ws.length:=o_
     subst this;simp (maxSteps:=9^7) +contextual -implicitDefEqProofs only[go_sem,seval,KI]
end Go.Proofs.YtfnegoimdljanaaGreatDoor
namespace Go.Proofs.YtfnegoimdljanaaGreatDoor
open Go Go.Abs Go.Abs.E Go.Abs.L
set_option maxRecDepth 20000
set_option maxHeartbeats 4000000
theorem s_og (bs:List UInt8) (p:Nat) (l:List (List UInt8)) (hb:bs.length≤2000) (hp:p<1099511627776) (hl:0<l.length) (ad:l.length≤256) :
  ∃ w,v_ 35 [.ptr 0 0,.d (.sl (l.map .str))] [.box [.d (.sl (bs.map YU)),(.d (J p))]]=some (.d (.str w),[.box [.d (.sl (bs.map YU)),(.d (J ((p+1:Nat))))]]):=by
 have e1:=ZV bs p (l.length:Int) hb hp;have u1:=XN bs p l.length;have u2:=WQ bs p l.length o_;obtain⟨i,hi⟩:∃ i:Nat,Qc bs p l.length=i:=⟨(Qc bs p l.length).toNat,o_⟩
 rw[hi] at e1 u2;have ab:i<l.length:=o_
 have aa : (i:Int)<(l.length:Int):=o_
 obtain⟨x,hx⟩:=Zn ab;refine⟨x,?_⟩;refine cE ?_;simp (maxSteps:=9^7) +contextual -implicitDefEqProofs only[go_sem,seval,ZeI,e1,ab,aa,hx]
def dskW:List (List UInt8):=[[115,116,111,99,107],[111,112,101,110],[100,111,110,101],[108,111,115,116],[99,97,109,101],[110,101,120,116],[104,101,108,112],[]]
theorem Zof (aa:List UInt8):∃ r,v_ 12 [.d (.sl (aa.map YU))] []=some r∧∃ (s:List UInt8) (ws:List (List UInt8)),s.length≤1048576∧ws.length≤6∧r=(.tup [.d (.str s),.own 0],[.row 1 (ws.map .str) true false]):=by
 have e1:=Zr3 aa;obtain⟨s,p,h1,h2,e2⟩:=ZtJ (aa.take 2000) (by simp;omega);have hb:(aa.take 2000).length≤2000:=by simp;omega
 obtain⟨v,hv,e3⟩:=Zcq (aa.take 2000) p [4,6,2,0] hb o_ (by decide);simp only[Kh,Kp,XA] at e3;have af:0≤v∧v≤6:=by
  simp only[Ke,Kx,or_false] at hv;omega
 obtain⟨k,rfl⟩:∃ k:Nat,v=k:=⟨v.toNat,o_⟩
 generalize aa.take 2000=bs at *;refine cW ?_;simp (maxSteps:=9^7) +contextual -implicitDefEqProofs only[go_sem,seval,Zhc,e1,e2,e3];refine LO (α:=Nat×Nat×List (List UInt8)) (fun a=>[(7,.d (J (a.1:Int)))]) (fun a=>[(1,.box [.d (.sl (bs.map YU)),(.d (J (a.2.1)))]),(0,.row 1 (a.2.2.map .str) true false)]) (fun a=>a.1+a.2.2.length≤6∧a.2.1≤400+a.2.2.length+1) (fun a=>a.1) (k,p+1,[]) ⟨by simp only[KO];omega,by simp only[KO];omega⟩ ?_;intro⟨j,q,ws⟩ ⟨hj,hq⟩ ih;simp only at hj hq ih;by_cases ae:0<j
 ·have ad : (0:Int)<(j:Int):=o_
  have w:=wi ((j:Int)-1) o_ o_;have wj:(j:Int)-1=((j-1:Nat):Int):=o_
  rw[wj] at w;obtain⟨x,e4⟩:=s_og bs q dskW hb o_ (by decide) (by decide);simp only[dskW,Kh,Kp] at e4;have ab:(ws.length+1)*16≤140737488355328∧ws.length+1≤140737488355328:=o_
  simp (maxSteps:=9^7) +contextual -implicitDefEqProofs only[go_sem,seval,ad,ae,e4,ab,w,wj];refine ih (j-1,q+1,ws++[x]) _ ⟨by simp;omega,by simp;omega⟩ p_ ?_;simp (maxSteps:=9^7) +contextual -implicitDefEqProofs only[go_sem,seval,KJ,Kh,Kp]
 ·have:j=0:=o_
  subst this;simp (maxSteps:=9^7) +contextual -implicitDefEqProofs only[go_sem,seval];exact⟨s,ws,h1,o_,rfl⟩
theorem Zfl (aa:List UInt8):∃ (s:List UInt8) (ws:List (List UInt8)),s.length≤1048576∧ws.length≤6∧v_ 12 [.d (.sl (aa.map YU))] []=some (.tup [.d (.str s),.own 0],[.row 1 (ws.map .str) true false]):=by
 obtain⟨r,h,s,ws,h1,h2,rfl⟩:=Zof aa;exact⟨s,ws,h1,h2,h⟩
theorem ZCt {s:Zo} {e:Zl} (hv:ZI s) (h:WA s=some e):(10:UInt8)∉ZtI e:=by
 obtain⟨l,b,_,_,aa,_⟩:=Zwp hv h;rw[WU aa];exact ZEX _
theorem ZCu {s:Zo} (hv:ZI s) (w:List UInt8):(10:UInt8)∉Zgc s w:=by
 have hn:∀ n,(10:UInt8)∉num n:=fun n=>W8 (by decide) n;unfold Zgc;split
 ·exact hn _
 ·split
  ·exact hn _
  ·split
   ·exact hn _
   ·split
    ·exact hn _
    ·split
     ·exact hn _
     ·split
      ·cases h:WA s with
       | none=>simp
       | some e=>exact ZCt hv h
      ·simp
theorem ZDU {o:Option Zo} (ho:dkO o) (w:List UInt8):(10:UInt8)∉dkT o w:=by
 cases o with
 | none=>simp[dkT]
 | some s=>exact ZCu (ho s rfl) w
theorem ZE3 {o:Option Zo} (ho:dkO o) {ws:List (List UInt8)} (h:ws.length≤20):ZpV (Zfk o ws)=ws.length:=by
 unfold Zfk;rw[Kd o_];exact Zsy fun w _=>ZDU ho w
theorem ZCv {o:Option Zo} (ho:dkO o) (ws:List (List UInt8)):(Zfk o ws).length≤1048576:=by
 unfold Zfk;split
 ·simp
 ·have:=Zqj ho ws;omega
theorem ZsL (aa:List UInt8):v_ 5 [.d (.sl (aa.map YU))] []=some ((.d (.bool true)),[]):=by
 by_cases hc:aa.length≤1048576
 ·have ab : ¬(1048576:Int)<(aa.length:Int):=o_
  obtain⟨s,ws,h1,h2,e1⟩:=Zfl aa;have e2:=Zd5 s h1 ws o_;have e3:=ZmF s h1 ws o_;have ho:=Zqk ((Jx s).map Ev.ev);have h3:=ZE3 ho (ws:=ws) o_;have h4:=ZCv ho ws;have e4:=ZtB (Zfk (Zf5 ((Jx s).map Ev.ev)) ws) h4;rw[h3] at e4;generalize Zfk (Zf5 ((Jx s).map Ev.ev)) ws=T at *;have hT:(T != T)=false:=by simp
  have hw:¬(20:Int)<(ws.length:Int):=o_
  have ad:¬20<ws.length:=o_
  refine cE ?_;simp (maxSteps:=9^7) +contextual -implicitDefEqProofs only[go_sem,seval,ZeH,ab,e1,e2,e3,e4,hT,hw,ad]
 ·have ab : (1048576:Int)<(aa.length:Int):=o_
  refine cE ?_;simp (maxSteps:=9^7) +contextual -implicitDefEqProofs only[go_sem,seval,ZeH,ab]
theorem Zk6 (aa:List UInt8):v_ 4 [.d (.sl (aa.map YU))] []=some ((.d (.bool true)),[]):=by
 by_cases hc:aa.length≤1048576
 ·have ab : ¬(1048576:Int)<(aa.length:Int):=o_
  obtain⟨s,ws,h1,h2,e1⟩:=Zfl aa;have e2:=Zd5 s h1 ws o_;have e3:=ZmF s h1 ws o_;have ho:=Zqk ((Jx s).map Ev.ev);have e6:=Zfi s h1;obtain⟨_,_,af,_⟩:=Zod s;obtain⟨r,e7,hr⟩:=Zml ((Jx s).map Ev.ev) (by simp;omega);have e8:=Zd5 s h1 [[110,101,120,116]] (by simp);have h5:Zfk (Zf5 ((Jx s).map Ev.ev)) [[110,101,120,116]]=dkT (Zf5 ((Jx s).map Ev.ev)) [110,101,120,116]++[10]:=by
   unfold Zfk;rw[Kd (by simp)];simp[QL]
  rw[h5] at e8;simp only[Kh,Kp] at e8;generalize Zfk (Zf5 ((Jx s).map Ev.ev)) ws=T at *;have hT:(T != T)=false:=by simp
  clear h5;generalize Zf5 ((Jx s).map Ev.ev)=o at *;cases o with
  | none=>
   unfold shO shT at hr;simp only at hr;subst hr;have h6:dkT none [110,101,120,116]++[10]=[99,108,111,115,101,100,10]:=rfl;rw[h6] at e8;refine cE ?_;simp (maxSteps:=9^7) +contextual -implicitDefEqProofs only[go_sem,seval,QB,ab,e1,e2,e3,e6,e7,e8,hT]
  | some z=>
   obtain⟨sS,sO,sD,sL,sC⟩:=z;have hv:=ho _ rfl;have e9:=Zmo sS sO sD sL sC hv;unfold shO at hr;simp only at hr;obtain⟨u,hu,hr⟩:=hr;subst hr;cases hn:WA ⟨sS,sO,sD,sL,sC⟩ with
   | none=>
    have h6:dkT (some ⟨sS,sO,sD,sL,sC⟩) [110,101,120,116]++[10]=[110,111,110,101,10]:=by simp[dkT,Zgc,hn]
    rw[h6] at e8;rw[hn] at e9;unfold nxT at e9;rcases hu with rfl | ⟨hs,rfl⟩
    ·refine cE ?_;simp (maxSteps:=9^7) +contextual -implicitDefEqProofs only[go_sem,seval,QB,ab,e1,e2,e3,e6,e7,e8,e9,hT]
    ·subst hs;simp only[Kp] at e9;refine cE ?_;simp (maxSteps:=9^7) +contextual -implicitDefEqProofs only[go_sem,seval,QB,ab,e1,e2,e3,e6,e7,e8,e9,hT]
   | some ev=>
    have h6:dkT (some ⟨sS,sO,sD,sL,sC⟩) [110,101,120,116]++[10]=ZtI ev++[10]:=by simp[dkT,Zgc,hn]
    rw[h6] at e8;rw[hn] at e9;have ae:=(Zyk hv [110,101,120,116]).2;have h7:Zgc ⟨sS,sO,sD,sL,sC⟩ [110,101,120,116]=ZtI ev:=by simp[Zgc,hn]
    rw[h7] at ae;obtain⟨K,L,⟨X,Y,W,H⟩,⟨⟨pW,pH,pT,pK⟩,C⟩,⟨o,a,q,t,ks⟩⟩:=ev;unfold nxT at e9;simp only at e9;have ad:=Zfh K L X Y W H pW pH pT pK C o a q t ks;generalize ZtI ⟨K,L,⟨X,Y,W,H⟩,⟨⟨pW,pH,pT,pK⟩,C⟩,⟨o,a,q,t,ks⟩⟩=F at *;have hF:(F++[10]==F++[10])=true:=by simp
    have hq:F.length≤1152921504606846975:=o_
    rcases hu with rfl | ⟨hs,rfl⟩
    ·rcases ks with _ | ⟨k1,ks⟩
     ·simp only[Kh,Kp] at ad;refine cE ?_;simp (maxSteps:=9^7) +contextual -implicitDefEqProofs only[go_sem,seval,QB,ab,e1,e2,e3,e6,e7,e8,e9,ad,hT,hF,hq]
     ·simp only[Kh,Kp] at ad;refine cE ?_;simp (maxSteps:=9^7) +contextual -implicitDefEqProofs only[go_sem,seval,QB,ab,e1,e2,e3,e6,e7,e8,e9,ad,hT,hF,hq]
    ·subst hs;simp only[Kp] at e9;rcases ks with _ | ⟨k1,ks⟩
     ·simp only[Kh,Kp] at ad;refine cE ?_;simp (maxSteps:=9^7) +contextual -implicitDefEqProofs only[go_sem,seval,QB,ab,e1,e2,e3,e6,e7,e8,e9,ad,hT,hF,hq]
     ·simp only[Kh,Kp] at ad;refine cE ?_;simp (maxSteps:=9^7) +contextual -implicitDefEqProofs only[go_sem,seval,QB,ab,e1,e2,e3,e6,e7,e8,e9,ad,hT,hF,hq]
 ·have ab : (1048576:Int)<(aa.length:Int):=o_
  refine cE ?_;simp (maxSteps:=9^7) +contextual -implicitDefEqProofs only[go_sem,seval,QB,ab]
end Go.Proofs.YtfnegoimdljanaaGreatDoor
