/- Own text. -/
import Derived.Test.YtdhgppkldoopaaaGreatACode
import Derived.Test.YtdhgppkldoopaaaGreatAbsParts
import Derived.Test.YtdhgppkldoopaaaGreatAC11
import Derived.Test.YtdhgppkldoopaaaGreatAbsOkD
import Derived.Test.YtdhgppkldoopaaaGreatAC15
namespace Go.Proofs.YtdhgppkldoopaaaGreat
open Go Go.Abs Go.Abs.E Go.Abs.L
open Nat (reduceMul reduceSub reduceLeDiff reduceEqDiff)
open Int (reduceLE reduceEq reduceToNat reduceNeg)
set_option linter.unusedSimpArgs false
set_option linter.unusedVariables false
set_option maxRecDepth 20000
set_option maxHeartbeats 4000000
theorem Zx5 {s t:Zs} {e:Zt} (h:QF s e=some t):evS s e=some t∧ZM t:=by
 have hv:=Zd2 h;unfold QF Ym at h;split at h
 ·split at h
  ·cases h;exact⟨by assumption,hv⟩
  ·cases h
 ·cases h
theorem ZhF (sS:List Zb) (sO sD:List Zc) (sL sC:Int) (eK eL eX eY eW eH aa ab:Int) (ad:Bool) (ae eC eo ea ep:Int) (et:Bool) (ek:List Zd) (hs:SmS (Zs.mk sS sO sD sL sC)) (hk:eK=0) (hW:R64 eW) (hH:R64 eH) (hn:¬Va ⟨eL,eW,eH,[]⟩ sS):∃ c:Int,Zf Xs Ms QU [(.d (.agg [.sl (sS.map Zb.enc),.sl (sO.map Zc.enc),.sl (sD.map Zc.enc),J sL,J sC])),(.d (.agg [J eK,J eL,J eX,J eY,J eW,J eH,J aa,J ab,.bool ad,J ae,J eC,J eo,J ea,J ep,.bool et,.sl (ek.map Zd.enc)]))] [] =
  some (.tup [.agg [.own 0,.d (.sl (sO.map Zc.enc)),.d (.sl (sD.map Zc.enc)),(.d (J sL)),(.d (J c))],(.d (.bool false))],[.row 4 [] true false]):=by
 obtain⟨⟨h1,h2,h3,h4⟩,h5,h6,h7,h8,h9⟩:=hs;simp only at h1 h2 h3 h4 h5 h6 h7 h8 h9;subst hk;have e1:=XW sS eL (by omega);have e2:=ZcI sS eL eW eH [] h5 h2 ⟨by simp,hW,hH⟩;simp only[KX] at e2;rw[Kh hn,Kj hn] at e2;simp only[KX] at e2;refine⟨IntKind.i64.wrap (sC+IntKind.i64.wrap (eW*eH)),?_⟩;refine cE ?_;simp +contextual -implicitDefEqProofs (maxSteps:=10^7) only[go_sem,seval,↓gZ,QV,e1,e2]
theorem Zdo (sS:List Zb) (sO sD:List Zc) (sL sC:Int) (eK eL eX eY eW eH aa ab:Int) (ad:Bool) (ae eC eo ea ep:Int) (et:Bool) (ek:List Zd) (hv:ZM (Zs.mk sS sO sD sL sC)) (hW:R64 eW) (hH:R64 eH):Zf Xs Ms Xr [(.d (.agg [.sl (sS.map Zb.enc),.sl (sO.map Zc.enc),.sl (sD.map Zc.enc),J sL,J sC])),(.d (.agg [J eK,J eL,J eX,J eY,J eW,J eH,J aa,J ab,.bool ad,J ae,J eC,J eo,J ea,J ep,.bool et,.sl (ek.map Zd.enc)]))] []=some (shV (QF (Zs.mk sS sO sD sL sC) (Zt.mk eK eL (Box.mk eX eY eW eH) (Zc.mk (Pane.mk aa ab ad ae) eC) (Zd.mk eo ea ep et ek)))):=by
 by_cases k0:eK=0
 ·by_cases ha:Va ⟨eL,eW,eH,[]⟩ sS
  ·have hp:=ha.1.2.1;simp only at hp;exact Zfe sS sO sD sL sC eK eL eX eY eW eH aa ab ad ae eC eo ea ep et ek hv (fun _=>by unfold I5;omega) (fun _=>by unfold I5;omega)
  ·obtain⟨c,af⟩:=ZhF sS sO sD sL sC eK eL eX eY eW eH aa ab ad ae eC eo ea ep et ek (Zhe hv) k0 hW hH ha;rw[k0] at af;have ee:QF (Zs.mk sS sO sD sL sC) (Zt.mk eK eL (Box.mk eX eY eW eH) (Zc.mk (Pane.mk aa ab ad ae) eC) (Zd.mk eo ea ep et ek))=none:=by unfold QF evS;simp only[k0,Kn];rw[Kj (fun h=>ha h.1.1)];rfl
   rw[ee];unfold shV;refine cE ?_;simp +contextual -implicitDefEqProofs (maxSteps:=10^7) only[go_sem,seval,↓gZ,Zu,k0,af]
 ·exact Zfe sS sO sD sL sC eK eL eX eY eW eH aa ab ad ae eC eo ea ep et ek hv (fun h=>absurd h k0) (fun h=>absurd h k0)
theorem ZnD (sS:List Zb) (sO sD:List Zc) (sL sC:Int) (eK eL eX eY eW eH aa ab:Int) (ad:Bool) (ae eC eo ea ep:Int) (et:Bool) (ek:List Zd) (hs:Ub (Zs.mk sS sO sD sL sC)) (hW:R64 eW) (hH:R64 eH):Zf Xs Ms VS [(.d (.agg [.sl (sS.map Zb.enc),.sl (sO.map Zc.enc),.sl (sD.map Zc.enc),J sL,J sC])),(.d (.agg [J eK,J eL,J eX,J eY,J eW,J eH,J aa,J ab,.bool ad,J ae,J eC,J eo,J ea,J ep,.bool et,.sl (ek.map Zd.enc)]))] []=some (shV (if ZM (Zs.mk sS sO sD sL sC) then QF (Zs.mk sS sO sD sL sC) (Zt.mk eK eL (Box.mk eX eY eW eH) (Zc.mk (Pane.mk aa ab ad ae) eC) (Zd.mk eo ea ep et ek)) else none)):=by
 have e1:=XX sS sO sD sL sC hs;by_cases hv:ZM (Zs.mk sS sO sD sL sC)
 ·rw[Kg hv] at e1;rw[Kl hv];have e2:=Zdo sS sO sD sL sC eK eL eX eY eW eH aa ab ad ae eC eo ea ep et ek hv hW hH;cases ha:QF (Zs.mk sS sO sD sL sC) (Zt.mk eK eL (Box.mk eX eY eW eH) (Zc.mk (Pane.mk aa ab ad ae) eC) (Zd.mk eo ea ep et ek)) with
  | none=>
   rw[ha] at e2;unfold shV at e2 ⊢;refine cE ?_;simp +contextual -implicitDefEqProofs (maxSteps:=10^7) only[go_sem,seval,↓gZ,V4,e1,e2]
  | some t=>
   rw[ha] at e2;unfold shV at e2 ⊢;obtain⟨a,b,c,d,f⟩:=t;simp only at e2 ⊢;refine cE ?_;simp +contextual -implicitDefEqProofs (maxSteps:=10^7) only[go_sem,seval,↓gZ,V4,e1,e2]
 ·rw[Kh hv] at e1;rw[Kj hv];unfold shV;refine cE ?_;simp +contextual -implicitDefEqProofs (maxSteps:=10^7) only[go_sem,seval,↓gZ,V4,e1]
def runL:Zs→List Zt→Option Zs
 | s,[]=>some s
 | s,e :: l=>match QF s e with
  | some t=>runL t l
  | none=>none
def Zsa (l:List Zt):Option Zs:=if l.length≤40 then runL ⟨[],[],[],0,0⟩ l else none
theorem ZqT {s:Zs} {l:List Zt} {k:Nat} {e:Zt} (hx:l[k]?=some e):runL s (l.drop k)=match QF s e with
  | some t=>runL t (l.drop (k+1))
  | none=>none:=by
 obtain⟨h1,h2⟩:=Ka.1 hx;rw[Kw h1,h2,runL]
theorem Ztp {s:Zs} {l:List Zt}:runL s (l.drop l.length)=some s:=by simp[runL]
theorem Zoe:∀ {l:List Zt} {s t:Zs},ZM s→runL s l=some t→ZM t
 | [],s,t,hv,h=>by cases h;exact hv
 | e :: l,s,t,hv,h=>by
  unfold runL at h;cases ha:QF s e with
  | none=>rw[ha] at h;cases h
  | some u=>rw[ha] at h;exact Zoe (Zd2 ha) h
def shO (r:Option Zs) (x:AV×List Zn):Prop:=match r with
 | none=>x=shT none
 | some s=>∃ o,Tr4 s.Stock o∧x=(.tup [.agg [.own 0,.own 1,.own 2,(.d (J (s.Lost))),(.d (J (s.Came)))],(.d (.bool true))],[o,.row 5 (s.Opn.map Zc.enc) true false,.row 5 (s.Done.map Zc.enc) true false])
def stO (b:Bool) (S:List Zb):Zn:=if b=true then .tree 4 4 (S.map Zb.enc) none else .row 4 [] true false
theorem Ztq (S:List Zb):stO true S=.tree 4 4 (S.map Zb.enc) none:=rfl
theorem Zx6 (S:List Zb):stO false S=.row 4 [] true false:=rfl
theorem Zsb (l:List Zt) (hl:l.length≤1048576):∃ r,Zf Xs Ms Ul [(.d (.sl (l.map Zt.enc)))] []=some r∧shO (Zsa l) r:=by
 by_cases ab:(40:Int)<(l.length:Int)
 ·have hr:Zsa l=none:=by unfold Zsa;rw[Kj (by omega)]
  rw[hr];unfold shO;refine cW ?_;simp +contextual -implicitDefEqProofs (maxSteps:=10^7) only[go_sem,seval,↓gZ,Zce,ab,shT]
 ·have hr:Zsa l=runL ⟨[],[],[],0,0⟩ l:=by unfold Zsa;rw[Kl (by omega)]
  rw[hr];refine cW ?_;simp +contextual -implicitDefEqProofs (maxSteps:=10^7) only[go_sem,seval,↓gZ,Zce,ab];refine LO (α:=Nat×Bool×Zs) (fun s=>[(15,.d (J (s.1:Int)))]) (fun s=>[(0,.box [.own 2,.own 3,.own 4,(.d (J (s.2.2.Lost))),(.d (J (s.2.2.Came)))]),(2,stO s.2.1 s.2.2.Stock),(3,.row 5 (s.2.2.Opn.map Zc.enc) true false),(4,.row 5 (s.2.2.Done.map Zc.enc) true false)]) (fun s=>s.1≤l.length∧ZM s.2.2∧(s.2.1=false→s.2.2.Stock=[])∧runL s.2.2 (l.drop s.1)=runL ⟨[],[],[],0,0⟩ l) (fun s=>l.length-s.1) (0,false,⟨[],[],[],0,0⟩) ⟨by simp,ZiR,by simp,by simp⟩ ?_;intro⟨i,b,⟨S,O,D,L,C⟩⟩ ⟨hi,hv,hb,hp⟩ ih;simp only at hi hv hb hp
  by_cases aa:i<l.length
  ·obtain⟨e,he⟩:=Zr aa;have hw:=Zj (k:=i) (by omega);rw[ZqT he] at hp;obtain⟨K,Lb,⟨X,Y,W,H⟩,⟨⟨pW,pH,pT,pK⟩,Ct⟩,⟨o,a,q,t,ks⟩⟩:=e;have ea:=Ze7 S O D L C K Lb X Y W H pW pH pT pK Ct o a q t ks;rw[Kl hv] at ea;cases hap:QF ⟨S,O,D,L,C⟩ ⟨K,Lb,⟨X,Y,W,H⟩,⟨⟨pW,pH,pT,pK⟩,Ct⟩,.mk o a q t ks⟩ with
   | none=>
    rw[hap] at ea hp;simp only at hp;unfold shT at ea;rw[← hp];cases b with
    | true=>simp +contextual -implicitDefEqProofs (maxSteps:=10^7) only[go_sem,seval,↓gZ,aa,he,hw,ea,shO,shT,Ztq]
    | false=>
     have hS:=hb rfl;subst hS;simp only[KX] at ea;simp +contextual -implicitDefEqProofs (maxSteps:=10^7) only[go_sem,seval,↓gZ,aa,he,hw,ea,shO,shT,Zx6]
   | some u=>
    have ad:=Zd2 hap;rw[hap] at ea hp;simp only at hp;obtain⟨S',O',D',L',C'⟩:=u;unfold shT at ea;simp only at ea;cases b with
    | true=>
     simp +contextual -implicitDefEqProofs (maxSteps:=10^7) only[go_sem,seval,↓gZ,aa,he,hw,ea,Ztq];refine ih (i+1,true,⟨S',O',D',L',C'⟩) _ ⟨by simp only;omega,ad,by simp,hp⟩ (by simp only;omega) ?_;simp +contextual -implicitDefEqProofs (maxSteps:=10^7) only[go_sem,seval,↓gZ,Ztq]
    | false=>
     have hS:=hb rfl;subst hS;simp only[KX] at ea;simp +contextual -implicitDefEqProofs (maxSteps:=10^7) only[go_sem,seval,↓gZ,aa,he,hw,ea,Zx6];refine ih (i+1,true,⟨S',O',D',L',C'⟩) _ ⟨by simp only;omega,ad,by simp,hp⟩ (by simp only;omega) ?_;simp +contextual -implicitDefEqProofs (maxSteps:=10^7) only[go_sem,seval,↓gZ,Ztq]
  ·have:i=l.length:=by omega
   subst this;rw[Ztp] at hp;rw[← hp];cases b with
   | true=>
    simp +contextual -implicitDefEqProofs (maxSteps:=10^7) only[go_sem,seval,↓gZ,Ztq,shO];exact⟨_,.inl rfl,rfl⟩
   | false=>
    have hS:=hb rfl;subst hS;simp +contextual -implicitDefEqProofs (maxSteps:=10^7) only[go_sem,seval,↓gZ,Zx6,shO];exact⟨_,.inr ⟨rfl,rfl⟩,rfl⟩
theorem Zsc (l:List Zt) (hl:l.length≤1048576) (hE:∀ e∈l,R64 e.box.W∧R64 e.box.H):Zf Xs Ms Zak [(.d (.sl (l.map Zt.enc)))] []=some (shV (runL ⟨[],[],[],0,0⟩ l)):=by
 refine cE ?_;simp +contextual -implicitDefEqProofs (maxSteps:=10^7) only[go_sem,seval,↓gZ,ZfR];refine LO (α:=Nat×Zs) (fun s=>[(5,.d (J (s.1:Int)))]) (fun s=>[(0,.box [.own 2,.own 3,.own 4,(.d (J (s.2.Lost))),(.d (J (s.2.Came)))]),(2,.row 4 (s.2.Stock.map Zb.enc) true false),(3,.row 5 (s.2.Opn.map Zc.enc) true false),(4,.row 5 (s.2.Done.map Zc.enc) true false)]) (fun s=>s.1≤l.length∧ZM s.2∧runL s.2 (l.drop s.1)=runL ⟨[],[],[],0,0⟩ l) (fun s=>l.length-s.1) (0,⟨[],[],[],0,0⟩) ⟨by simp,ZiR,by simp⟩ ?_;intro⟨i,⟨S,O,D,L,C⟩⟩ ⟨hi,hv,hp⟩ ih;simp only at hi hv hp;by_cases aa:i<l.length
 ·obtain⟨e,he⟩:=Zr aa;have hw:=Zj (k:=i) (by omega);have ab:=hE e (Kb he);rw[ZqT he] at hp;obtain⟨K,Lb,⟨X,Y,W,H⟩,⟨⟨pW,pH,pT,pK⟩,Ct⟩,⟨o,a,q,t,ks⟩⟩:=e;have ea:=Zdo S O D L C K Lb X Y W H pW pH pT pK Ct o a q t ks hv ab.1 ab.2;cases hap:QF ⟨S,O,D,L,C⟩ ⟨K,Lb,⟨X,Y,W,H⟩,⟨⟨pW,pH,pT,pK⟩,Ct⟩,.mk o a q t ks⟩ with
  | none=>
   rw[hap] at ea hp;simp only at hp;unfold shV at ea;rw[← hp];unfold shV;simp +contextual -implicitDefEqProofs (maxSteps:=10^7) only[go_sem,seval,↓gZ,aa,he,hw,ea]
  | some u=>
   have ad:=Zd2 hap;rw[hap] at ea hp;simp only at hp;obtain⟨S',O',D',L',C'⟩:=u;unfold shV at ea;simp only at ea;simp +contextual -implicitDefEqProofs (maxSteps:=10^7) only[go_sem,seval,↓gZ,aa,he,hw,ea];refine ih (i+1,⟨S',O',D',L',C'⟩) _ ⟨by simp only;omega,ad,hp⟩ (by simp only;omega) ?_;simp +contextual -implicitDefEqProofs (maxSteps:=10^7) only[go_sem,seval,↓gZ]
 ·have:i=l.length:=by omega
  subst this;rw[Ztp] at hp;rw[← hp];unfold shV;simp +contextual -implicitDefEqProofs (maxSteps:=10^7) only[go_sem,seval,↓gZ]
theorem Zsd (l:List Zt) (hl:l.length≤1048576) (hE:∀ e∈l,R64 e.box.W∧R64 e.box.H):Zf Xs Ms Zaj [(.d (.sl (l.map Zt.enc)))] []=some (shV (Zsa l)):=by
 have e1:=Zsc l hl hE;unfold Zsa;by_cases aa:(40:Int)<(l.length:Int)
 ·rw[Kj (by omega)];unfold shV;refine cE ?_;simp +contextual -implicitDefEqProofs (maxSteps:=10^7) only[go_sem,seval,↓gZ,Zat,aa]
 ·rw[Kl (by omega)];cases hr:runL ⟨[],[],[],0,0⟩ l with
  | none=>
   rw[hr] at e1;unfold shV at e1 ⊢;refine cE ?_;simp +contextual -implicitDefEqProofs (maxSteps:=10^7) only[go_sem,seval,↓gZ,Zat,aa,e1]
  | some u=>
   obtain⟨S',O',D',L',C'⟩:=u;rw[hr] at e1;unfold shV at e1 ⊢;simp only at e1 ⊢;refine cE ?_;simp +contextual -implicitDefEqProofs (maxSteps:=10^7) only[go_sem,seval,↓gZ,Zat,aa,e1]
end Go.Proofs.YtdhgppkldoopaaaGreat
namespace Go.Proofs.YtdhgppkldoopaaaGreat
open Go Go.Abs Go.Abs.E Go.Abs.L
open Nat (reduceMul reduceSub reduceLeDiff reduceEqDiff)
open Int (reduceLE reduceEq reduceToNat reduceNeg)
set_option linter.unusedSimpArgs false
set_option linter.unusedVariables false
set_option maxRecDepth 20000
set_option maxHeartbeats 4000000
theorem ok_Sm {s:Zs} (h:s.ok) (hs:Zqn s.Stock s.Opn s.Done≤1048576):Ub s:=by
 unfold Zqn at hs;refine⟨by omega,fun x hx=>?_,by omega,by omega⟩;have h1:=h.1.2 x hx;have h2:=Zhd (f:=ZcC) hx;have h3:ZcC x=x.Flaws.length:=rfl;exact⟨by omega,h1.2.1,h1.2.2.1⟩
theorem VSt_sm {l:List Zb} (h:VSt l):l.length≤20∧∀ x∈l,ZcC x≤6:=
 ⟨h.1,fun x hx=>(Qo h.2 x hx).1.2.2.2.2.2.2⟩
theorem Zof (L C k:Int) (h0:0≤k) (hk:k≤281474976710656):Zf Xs Ms Z0 [.agg [.own 0,.own 1,.own 2,(.d (J L)),(.d (J C))],(.d (J k))] [.row 4 [] true false,.row 5 [] true false,.row 5 [] true false]=some ((.d (J k)),[.row 4 [] true false,.row 5 [] true false,.row 5 [] true false]):=by
 have e1:=Zdn k;have e2:=VR [] (by simp) k h0 (by omega);simp only[KX,La,Kag,Ld,Lz,mks] at e2;refine cE ?_;simp +contextual -implicitDefEqProofs (maxSteps:=10^7) only[go_sem,seval,↓gZ,U8,e1,e2]
theorem Zmi {s:Zs} (h:ZM s):s.Stock.length≤20∧(∀ x∈s.Stock,ZcC x≤6)∧s.Opn.length≤1000∧s.Done.length≤1000:=by
 have h1:=VSt_sm h.1;have h2:=h.2.1.1;have h3:=h.2.2.1.1;exact⟨h1.1,h1.2,by omega,by omega⟩
theorem ZdX (s:Zs) (e:Zt) (ho:s.ok) (he:(I64 e.kind∧I64 e.label∧e.box.ok∧e.line.ok)∧e.plan.ok):Zf Xs Ms Q6 [.d s.enc,.d e.enc] []=some ((.d (.bool true)),[]):=by
 have ae:=ok_Sm ho;obtain⟨S,O,D,L,C⟩:=s;obtain⟨K,Lb,⟨X,Y,W,H⟩,⟨⟨pW,pH,pT,pK⟩,Ct⟩,⟨o,a,q,t,kk⟩⟩:=e;obtain⟨⟨h1,af⟩,⟨h2,_⟩,⟨h3,_⟩,_,_⟩:=ho;obtain⟨⟨_,_,hb,_⟩,hp⟩:=he;simp only at h1 af h2 h3 ae hb hp;have e1:=Ztj S O D L C h1 (fun p hp=>(af p hp).2.2.2.1) h2 h3 1048576 (by decide) (by decide);rw[Zt.enc_mk];by_cases hs:((Zqn S O D:Nat):Int)≤1048576
 ·rw[X6 hs] at e1;have aa : Zqn S O D≤1048576:=by omega
  have y1:¬(1048576:Int)-((Zqn S O D:Nat):Int)<0:=by omega
  have ab:=ae aa;have ai:=Zhc S;have ag:∀ p∈S,ZcC p≤1048576:=fun p hp=>by have:=Zhd (f:=ZcC) hp;unfold Zqn at aa;omega
  have ad : ∀ p∈S,ZcC p≤1099511627776:=fun p hp=>by have:=ag p hp;omega
  have hl:S.length≤1048576∧O.length≤1048576∧D.length≤1048576∧Zo ZcC S≤1048576:=by unfold Zqn at aa;omega
  generalize hm:((Zqn S O D:Nat):Int)=m at e1 hs y1;have aj:0≤m:=by omega
  have e2:=ZjR K Lb X Y W H pW pH pT pK Ct o a q t kk hp (1048576-m) (by omega) (by omega);by_cases ah:((nL kk:Nat):Int)≤1048576-m
  ·rw[X6 ah] at e2;have y2:¬(1048576:Int)-m-((nL kk:Nat):Int)<0:=by omega
   have t1:=Ztk S O D L C hl.1 ag hl.2.1 hl.2.2.1;have t2:=ZjS K Lb X Y W H pW pH pT pK Ct o a q t kk (by omega);have c1:=ZnD S O D L C K Lb X Y W H pW pH pT pK Ct o a q t kk ab hb.2.2.1 hb.2.2.2;have c2:=Ze7 S O D L C K Lb X Y W H pW pH pT pK Ct o a q t kk;have q1:=WO S O D L C (by omega) ad (by omega) (by omega);have q2:=ZfJ K Lb X Y W H pW pH pT pK Ct o a q t kk (by omega);have m1:=ZcD S O D L C (by omega) (by omega) (by omega) (by omega) 1 (by decide) (by decide);have m2:=Zod K Lb X Y W H pW pH pT pK Ct o a q t kk (by omega) (1+(Zo pcN S:Nat)+((5*O.length:Nat):Int)+((5*D.length:Nat):Int)) (by omega) (by omega)
   have y3:¬1+(Zo pcN S:Nat)+((5*O.length:Nat):Int)+((5*D.length:Nat):Int)+((4*nL kk:Nat):Int)<0:=by omega
   generalize (1:Int)+(Zo pcN S:Nat)+((5*O.length:Nat):Int)+((5*D.length:Nat):Int)=g1 at *;generalize nL kk=nk at *;generalize g1+((4*nk:Nat):Int)=g2 at *;generalize hw:(if ZM ⟨S,O,D,L,C⟩ then QF ⟨S,O,D,L,C⟩ ⟨K,Lb,⟨X,Y,W,H⟩,⟨⟨pW,pH,pT,pK⟩,Ct⟩,.mk o a q t kk⟩ else none)=w at c1 c2;cases w with
   | none=>
    unfold shV at c1;unfold shT at c2;have q3:=WO [] [] [] 0 0 (by simp) (fun x hx=>by cases hx) (by simp) (by simp);have m3:=Zof 0 0 1 (by decide) (by decide);have h3:=J8 [] 0 0 0 0 (by decide) (by decide) (by decide) (by decide) 1 (by decide) (by decide);simp only[KX,Zo,ZjM,ZaR,mks,Kag,Ld,Lz] at h3 q3;refine cE ?_;simp +contextual -implicitDefEqProofs (maxSteps:=10^7) only[go_sem,seval,↓gZ,QG,e1,y1,e2,y2,t1,t2,c1,c2,q1,q2,q3,m1,m2,y3,m3,h3,bNe,bne_self_eq_false]
   | some u=>
    have hu:ZM u:=by
     split at hw
     ·exact(Zx5 hw).2
     ·cases hw
    obtain⟨r1,r2,r3,r4⟩:=Zmi hu;obtain⟨uS,uO,uD,uL,uC⟩:=u;simp only at r1 r2 r3 r4;unfold shV at c1;unfold shT at c2;simp only at c1 c2;have b1:=ZjN r2;have b2:=Zhc uS;have q3:=WO uS uO uD uL uC (by omega) (fun x hx=>by have:=r2 x hx;omega) (by omega) (by omega);have m3:=ZcD uS uO uD uL uC (by omega) (by omega) (by omega) (by omega) 1 (by decide) (by decide);have h3:=J8 uS uO.length uD.length uL uC (by omega) (by omega) (by omega) (by omega) 1 (by decide) (by decide);have y4:¬(1:Int)+(Zo pcN uS:Nat)+((5*uO.length:Nat):Int)+((5*uD.length:Nat):Int)<0:=by omega
    generalize (1:Int)+(Zo pcN uS:Nat)=g3 at *;generalize mks X7 5 uD.length (g3+((5*uO.length:Nat):Int))=D2 at *;generalize g3+((5*uO.length:Nat):Int)+((5*uD.length:Nat):Int)=g4 at *;generalize mks X7 5 uO.length g3=O2 at *;generalize ZjM uS 1=S2 at *;refine cE ?_;simp +contextual -implicitDefEqProofs (maxSteps:=10^7) only[go_sem,seval,↓gZ,QG,e1,y1,e2,y2,t1,t2,c1,c2,q1,q2,q3,m1,m2,y3,m3,h3,y4,bNe,bne_self_eq_false]
  ·rw[XV ah] at e2;refine cE ?_;simp +contextual -implicitDefEqProofs (maxSteps:=10^7) only[go_sem,seval,↓gZ,QG,e1,y1,e2]
 ·rw[XV hs] at e1;refine cE ?_;simp +contextual -implicitDefEqProofs (maxSteps:=10^7) only[go_sem,seval,↓gZ,QG,e1]
theorem ZfK (O D:List Zc) (L C k:Int) (h3:O.length≤1099511627776) (h4:D.length≤1099511627776) (h0:0≤k) (hk:k≤281474976710656):Zf Xs Ms Z0 [.agg [.own 0,.own 1,.own 2,(.d (J L)),(.d (J C))],(.d (J k))] [.row 4 [] true false,.row 5 (O.map Zc.enc) true false,.row 5 (D.map Zc.enc) true false] =
  some ((.d (J (k+((5*O.length:Nat):Int)+((5*D.length:Nat):Int)))),[.row 4 [] true false,.row 5 ((mks X7 5 O.length k).map Zc.enc) true false,.row 5 ((mks X7 5 D.length (k+((5*O.length:Nat):Int))).map Zc.enc) true false]):=by
 have e1:=Zdn k;have e2:=VR O h3 k h0 (by omega);have e3:=VR D h4 (k+((5*O.length:Nat):Int)) (by omega) (by omega);refine cE ?_;simp +contextual -implicitDefEqProofs (maxSteps:=10^7) only[go_sem,seval,↓gZ,U8,e1,e2,e3]
theorem ZhG (ks:List Zt) (hk:ks.length≤maxLen) (hp:∀ e∈ks,e.plan.ok∧e.box.ok):Zf Xs Ms XY [(.d (.sl (ks.map Zt.enc)))] []=some ((.d (.bool true)),[]):=by
 have e1:=Zqq ks hk (fun e he=>(hp e he).1) 1048576 (by decide) (by decide);by_cases hs:((ks.length+Zo ZcE ks:Nat):Int)≤1048576
 ·rw[X6 hs] at e1;have ab:¬(1048576:Int)-((ks.length+Zo ZcE ks:Nat):Int)<0:=by omega
  have aa:∀ e∈ks,ZcE e≤1048576:=fun e he=>by have:=Zhd (f:=ZcE) he;omega
  have ad : ∀ e∈ks,ZcE e≤4194304:=fun e he=>by have:=aa e he;omega
  have af:Zo evN ks≤5000000*ks.length:=ZjN fun e he=>by have:=aa e he;unfold evN;omega
  have hl:ks.length≤1048576:=by omega
  have ae:Zo evN ks≤1099511627776:=by
   have h1:∀ l:List Zt,Zo evN l=15*l.length+4*Zo ZcE l:=by
    intro l
    induction l with
    | nil=>rfl
    | cons x r ih=>simp only[Zo,ih,evN,Ks];omega
   rw[h1];omega
  have t1:=Zqr ks hl aa;have c1:=Zsd ks hl (fun e he=>⟨(hp e he).2.2.2.1,(hp e he).2.2.2.2⟩);obtain⟨r,c2,hR⟩:=Zsb ks hl;have q1:=ZnB ks hl aa;have m1:=ZnC ks ae (by omega) ad 1 (by decide) (by decide);have y1:¬(1:Int)+(Zo evN ks:Nat)<0:=by omega
  generalize (1:Int)+(Zo evN ks:Nat)=g1 at *;generalize mkEvs ks 1=K2 at *;generalize hw:Zsa ks=w at c1 hR;generalize ks.length+Zo ZcE ks=m at *;cases w with
  | none=>
   simp only[shO] at hR;subst hR;unfold shV at c1;unfold shT at c2;have q3:=WO [] [] [] 0 0 (by simp) (fun x hx=>by cases hx) (by simp) (by simp);have m3:=ZfK [] [] 0 0 1 (by simp) (by simp) (by decide) (by decide);have h3:=J8 [] 0 0 0 0 (by decide) (by decide) (by decide) (by decide) 1 (by decide) (by decide);simp only[KX,La,Zo,ZjM,ZaR,mks,Kag,Ld,Lz] at h3 q3 m3;refine cE ?_;simp +contextual -implicitDefEqProofs (maxSteps:=10^7) only[go_sem,seval,↓gZ,Xc,e1,ab,t1,c1,c2,q1,q3,m1,y1,m3,h3,bNe,bne_self_eq_false]
  | some u=>
   have hu:ZM u:=by
    unfold Zsa at hw;split at hw
    ·exact Zoe ZiR hw
    ·cases hw
   obtain⟨r1,r2,r3,r4⟩:=Zmi hu;obtain⟨uS,uO,uD,uL,uC⟩:=u;simp only at r1 r2 r3 r4;simp only[shO] at hR;obtain⟨o,ho,rfl⟩:=hR;unfold shV at c1;simp only at c1;have b1:=ZjN r2;have b2:=Zhc uS;have q3:=WO uS uO uD uL uC (by omega) (fun x hx=>by have:=r2 x hx;omega) (by omega) (by omega);have h3:=J8 uS uO.length uD.length uL uC (by omega) (by omega) (by omega) (by omega) 1 (by decide) (by decide);have y4:¬(1:Int)+(Zo pcN uS:Nat)+((5*uO.length:Nat):Int)+((5*uD.length:Nat):Int)<0:=by omega
   rcases ho with rfl | ⟨rfl,rfl⟩
   ·have m3:=ZcD uS uO uD uL uC (by omega) (by omega) (by omega) (by omega) 1 (by decide) (by decide);generalize (1:Int)+(Zo pcN uS:Nat)=g3 at *;generalize mks X7 5 uD.length (g3+((5*uO.length:Nat):Int))=D2 at *;generalize g3+((5*uO.length:Nat):Int)+((5*uD.length:Nat):Int)=g4 at *;generalize mks X7 5 uO.length g3=O2 at *;generalize ZjM uS 1=S2 at *;refine cE ?_;simp +contextual -implicitDefEqProofs (maxSteps:=10^7) only[go_sem,seval,↓gZ,Xc,e1,ab,t1,c1,c2,q1,q3,m1,y1,m3,h3,y4,bNe,bne_self_eq_false]
   ·have m3:=ZfK uO uD uL uC 1 (by omega) (by omega) (by decide) (by decide);simp only[KX,Zo,ZjM,ZaR,Ld,Lz] at h3 q3 c1 y4;generalize mks X7 5 uD.length ((1:Int)+((5*uO.length:Nat):Int))=D2 at *;generalize (1:Int)+((5*uO.length:Nat):Int)+((5*uD.length:Nat):Int)=g4 at *;generalize mks X7 5 uO.length (1:Int)=O2 at *;refine cE ?_;simp +contextual -implicitDefEqProofs (maxSteps:=10^7) only[go_sem,seval,↓gZ,Xc,e1,ab,t1,c1,c2,q1,q3,m1,y1,m3,h3,y4,bNe,bne_self_eq_false]
 ·rw[XV hs] at e1;refine cE ?_;simp +contextual -implicitDefEqProofs (maxSteps:=10^7) only[go_sem,seval,↓gZ,Xc,e1]
end Go.Proofs.YtdhgppkldoopaaaGreat
