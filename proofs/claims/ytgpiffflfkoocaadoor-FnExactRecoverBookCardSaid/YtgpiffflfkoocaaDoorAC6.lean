/- Own text. -/
import Derived.Test.YtgpiffflfkoocaaDoorACode
import Derived.Test.YtgpiffflfkoocaaDoorAbsParts
import Derived.Test.YtgpiffflfkoocaaDoorAC5
import Derived.Test.YtgpiffflfkoocaaDoorAbsOkD
namespace Go.Proofs.YtgpiffflfkoocaaDoor
open Go Go.Abs Go.Abs.E Go.Abs.L
open Nat (reduceMul reduceSub reduceLeDiff reduceEqDiff)
open Int (reduceLE reduceEq reduceToNat reduceNeg)
set_option linter.unusedSimpArgs false
set_option linter.unusedVariables false
set_option maxRecDepth 20000
set_option maxHeartbeats 4000000
def VK:List UInt8:=[116,117,114,110,115]
def UR:List UInt8:=[102,105,120,101,100]
def Jw (t:Bool):List UInt8:=if t then VK else UR
def YC (l:QG):List (List UInt8):=[num l.Count.toNat,num l.Pane.W.toNat,num l.Pane.H.toNat,Jw l.Pane.Turns,num l.Pane.Kind.toNat]
def Zde (l:QG):List UInt8:=UQ 32 (YC l)
def six (n:Int):Prop:=0≤n∧n≤999999
instance (n:Int):Decidable (six n):=by unfold six;infer_instance
def Zl7 (l:QG):Prop:=six l.Count∧six l.Pane.W∧six l.Pane.H∧six l.Pane.Kind
def J8:List (List UInt8)→Option QG
 | [a,b,c,t,k]=>if t=VK∨t=UR then (rd a).bind fun a=>(rd b).bind fun b=>(rd c).bind fun c=>(rd k).bind fun k=>some ⟨⟨b,c,decide (t=VK),k⟩,a⟩ else none
 | _=>none
theorem JJ {c:UInt8} (hc:isD c=false) (n:Nat):c∉num n:=fun h=>by rw[Zg0 n c h] at hc;cases hc
theorem ZnG (t:Bool):(32:UInt8)∉Jw t:=by cases t<;>decide
theorem Zhp (t:Bool):Jw t=VK∨Jw t=UR:=by cases t<;>simp[Jw]
theorem Ze1 (t:Bool):decide (Jw t=VK)=t:=by cases t<;>decide
theorem Zrg {w:List UInt8} (h:w=VK∨w=UR):Jw (decide (w=VK))=w:=by
 rcases h with rfl | rfl
 ·simp[Jw]
 ·have:¬UR=VK:=by decide
  simp[Jw,this]
theorem Zhq (l:QG):∀ w∈YC l,(32:UInt8)∉w:=by
 intro w hw;simp only[YC,Ke,KI,or_false] at hw;rcases hw with rfl | rfl | rfl | rfl | rfl
 ·exact JJ rfl _
 ·exact JJ rfl _
 ·exact JJ rfl _
 ·exact ZnG _
 ·exact JJ rfl _
theorem ZaD {l:QG} (h:Zl7 l):J8 (YC l)=some l:=by
 obtain⟨⟨w,h',t,k⟩,c⟩:=l;obtain⟨h1,h2,h3,h4⟩:=h;simp only[six] at h1 h2 h3 h4;have e1:((c.toNat:Nat):Int)=c:=by omega
 have e2:((w.toNat:Nat):Int)=w:=by omega
 have e3:((h'.toNat:Nat):Int)=h':=by omega
 have e4:((k.toNat:Nat):Int)=k:=by omega
 simp only[YC,J8,Ko (Zhp t),UP (show c.toNat≤999999 by omega),UP (show w.toNat≤999999 by omega),UP (show h'.toNat≤999999 by omega),UP (show k.toNat≤999999 by omega),KF,Ze1,e1,e2,e3,e4]
theorem ZjN {ws:List (List UInt8)} {l:QG} (h:J8 ws=some l):ws=YC l∧Zl7 l:=by
 unfold J8 at h;split at h
 ·rename_i a b c t k;split at h
  ·rename_i ht;simp only[KE] at h;obtain⟨n1,h1,n2,h2,n3,h3,n4,h4,h⟩:=h;cases h;obtain⟨r1,b1⟩:=VD h1;obtain⟨r2,b2⟩:=VD h2;obtain⟨r3,b3⟩:=VD h3;obtain⟨r4,b4⟩:=VD h4;refine⟨?_,?_,?_,?_,?_⟩
   ·simp only[YC,Ly,Zrg ht];rw[r1,r2,r3,r4]
   all_goals (simp only[six];omega)
  ·cases h
 ·cases h
def Zbu {α:Type} (f:α→List UInt8) (l:List α):List UInt8:=(l.map fun x=>f x++[10]).flatten
theorem Zl8 {α:Type} (f:α→List UInt8) (x:α) (l:List α):Zbu f (x :: l)=f x++10 :: Zbu f l:=by simp[Zbu]
def ZpO (c:UInt8) (s:List UInt8):Int:=match QI c s with
 | none=>-1
 | some i=>(i:Int)
theorem Zrh (c:UInt8) (s:List UInt8):Lib.indexByte s c=ZpO c s:=by
 unfold ZpO
 induction s with
 | nil=>rfl
 | cons x r ih=>
  simp only[Lib.indexByte,QI,ih];by_cases h:x=c
  ·simp[h]
  ·rw[Kf h];cases QI c r with
   | none=>simp[h]
   | some i=>simp[h]<;>omega
theorem J9 (c:UInt8) (s:List UInt8):(Zt c s).length=s.count c+1:=by
 induction s with
 | nil=>rfl
 | cons x r ih=>
  simp only[Zt];by_cases h:x=c
  ·rw[Ko h];simp[ih,h]
  ·rw[Kf h];cases hs:Zt c r with
   | nil=>exact absurd hs (Y7 c r)
   | cons p q=>
    rw[hs] at ih;simp only[Km] at ih ⊢;rw[List.count_cons_of_ne (fun e=>h e)];exact ih
theorem Zl9 (s:List UInt8) (c:UInt8):Zj Xs Ms ZD [.d (.str s),.d (.str [c])] []=some ((.d (J (ZpO c s))),[]):=by
 refine ZiV Xs Ms W8 ?_;unfold ZqV;simp only;rw[Zrh]
theorem Ze2 (s:List UInt8) (c:UInt8):Zj Xs Ms Yo [.d (.str s),.d (.str [c])] []=some ((.d (J (ZpO c s))),[]):=by
 have e1:=Zl9 s c;refine cE ?_;simp +contextual -implicitDefEqProofs (maxSteps:=10^7) only[go_sem,seval,↓gZ,Ue,e1]
theorem Ze3 (s:List UInt8) (c:UInt8):Zj Xs Ms XJ [.d (.str s),.d (.str [c])] []=some ((.d (J ((s.count c:Nat)))),[]):=by
 refine ZiV Xs Ms ZgK ?_;unfold ZqW;simp only[Lib.countByte]
theorem Cut_ev (s:List UInt8) (c:UInt8) (hs:s.length≤1048576):Zj Xs Ms Qc [.d (.str s),.d (.str [c])] []=some (.tup (match QI c s with | none=>[.d (.str s),.d (.str []),(.d (.bool false))] | some i=>[.d (.str (s.take i)),.d (.str (s.drop (i+1))),(.d (.bool true))]),[]):=by
 have e1:=Zl9 s c;unfold ZpO at e1;cases h:QI c s with
 | none=>
  rw[h] at e1;refine cE ?_;simp +contextual -implicitDefEqProofs (maxSteps:=10^7) only[go_sem,seval,↓gZ,QL,e1]
 | some i=>
  obtain⟨_,_,hi⟩:=Wa h;rw[h] at e1;simp only at e1;have w:=ZM (k:=i) (by omega);have h1:((i+1:Nat):Int)≤(s.length:Int):=by omega
  have h2:(i:Int)≤(s.length:Int):=by omega
  refine cE ?_;simp +contextual -implicitDefEqProofs (maxSteps:=10^7) only[go_sem,seval,↓gZ,QL,e1,w,h1,h2,Zni,Lt,KU,KN]
theorem US (s:List UInt8) (c:UInt8) (hs:s.length≤1048576):Zj Xs Ms Xo [.d (.str s),.d (.str [c])] []=some (.tup (match QI c s with | none=>[.d (.str s),.d (.str []),(.d (.bool false))] | some i=>[.d (.str (s.take i)),.d (.str (s.drop (i+1))),(.d (.bool true))]),[]):=by
 have e1:=Cut_ev s c hs;cases h:QI c s with
 | none=>
  rw[h] at e1;refine cE ?_;simp +contextual -implicitDefEqProofs (maxSteps:=10^7) only[go_sem,seval,↓gZ,WR,e1]
 | some i=>
  rw[h] at e1;refine cE ?_;simp +contextual -implicitDefEqProofs (maxSteps:=10^7) only[go_sem,seval,↓gZ,WR,e1]
theorem ZoU (done:List (List UInt8)) (x y:D) (r:List D):(done.map D.str++x :: r).set done.length y=done.map D.str++y :: r:=by
 have h:=List.set_append_right (s:=done.map D.str) (t:=x :: r) (i:=done.length) y (by simp);rw[h];simp
theorem ZoV (done:List (List UInt8)) (x:D) (r:List D):(done.map D.str++x :: r)[done.length]?=some x:=by
 rw[KB (by simp)];simp
theorem ZfY (a b:List UInt8):Yi (.str a) 0 [.str b]=.str b:=rfl
theorem ZjO (a:List UInt8):(D.str a).notSl=true:=rfl
theorem ZjP (a:List UInt8):(D.str a).cells=[.str a]:=rfl
theorem Zma (s:List UInt8) (c:UInt8) (hs:s.length≤1048576):Zj Xs Ms Xw [.d (.str s),.d (.str [c]),(.d (J 0)),(.d (J (-1)))] []=some (.ownv 0 0 (Zt c s).length,[.row 1 ((Zt c s).map .str) true false]):=by
 have e1:=Ze3 s c;have ai:s.count c≤s.length:=L0;have w1:=ZM (k:=s.count c) (by omega);have w2:=ZM (k:=s.length) (by omega);have ab:=J9 c s;obtain⟨n,hn⟩:∃ n,s.count c=n:=⟨_,rfl⟩
 rw[hn] at e1 w1 ab ai;have aj:(([c]:List UInt8)==[])=false:=rfl;have ae:min ((n+1:Nat):Int) ((s.length+1:Nat):Int)=((n+1:Nat):Int):=by omega
 have w3:IntKind.i64.wrap (((n+1:Nat):Int)-1)=(n:Int):=by rw[show ((n+1:Nat):Int)-1=n by omega];exact wi _ (by omega) (by omega)
 have ak:((n+1:Nat):Int)*16≤140737488355328∧((n+1:Nat):Int)≤140737488355328:=by omega
 refine cE ?_;simp +contextual -implicitDefEqProofs (maxSteps:=10^7) only[go_sem,seval,↓gZ,VM,e1,w1,w2,aj,ae,w3,ak];refine LO (α:=List (List UInt8)×List UInt8) (fun a=>[(10,.d (J (a.1.length:Nat))),(0,.d (.str a.2))]) (fun a=>[(0,.row 1 (a.1.map .str++List.replicate (n+1-a.1.length) (.str [])) true false)]) (fun a=>Zt c s=a.1++Zt c a.2∧a.2.length≤s.length) (fun a=>n-a.1.length) ([],s) ⟨rfl,Kg _⟩ ?_;intro⟨done,rest⟩ ⟨hp,hr⟩ ih;simp only at hp hr ih ⊢;have af:=J9 c rest;have al:=congrArg List.length hp;rw[ab,Ks,af] at al;by_cases an:done.length<n
 ·have ag : (done.length:Int)<(n:Int):=by omega
  have e2:=Ze2 rest c;unfold ZpO at e2;have aa:List.replicate (n+1-done.length) (D.str [])=D.str [] :: List.replicate (n-done.length) (D.str []):=by rw[show n+1-done.length=(n-done.length)+1 by omega];rfl
  rw[aa];cases hi:QI c rest with
  | none=>
   have:=WC (ZdW.1 hi);rw[this] at af;simp at af;omega
  | some m=>
   obtain⟨_,_,hm⟩:=Wa hi;rw[hi] at e2;simp only at e2;have w:=ZM (k:=m) (by omega);have w':=ZM (k:=done.length) (by omega);have w0:=wi (m:Int) (by omega) (by omega);have h1:((m+1:Nat):Int)≤(rest.length:Int):=by omega
   have h2:(m:Int)≤(rest.length:Int):=by omega
   have h3:¬(m:Int)<0:=by omega
   have h4:done.length<done.length+(n-done.length+1):=by omega
   have ah:=UI c rest;rw[hi] at ah;simp only at ah;simp +contextual -implicitDefEqProofs (maxSteps:=10^7) only[go_sem,seval,↓gZ,ag,e2,w,w',w0,h1,h2,h3,h4,ZoU,ZoV,ZfY,ZjO,ZjP,Km,Li,Ls,and_self,Kl,Zc,Int.add_zero,KN,List.length_replicate];refine ih (done++[rest.take m],rest.drop (m+1)) _ ⟨?_,?_⟩ (by simp;omega) ?_
   ·simp only[KH,LC];rw[← ah];exact hp
   ·simp;omega
   ·have ad:n+1-(done.length+1)=n-done.length:=by omega
    simp +contextual -implicitDefEqProofs (maxSteps:=10^7) only[go_sem,seval,↓gZ,Ks,Lc,KH,ad]
 ·have hi:done.length=n:=by omega
  have am:Zt c rest=[rest]:=by
   cases hi2:QI c rest with
   | none=>exact WC (ZdW.1 hi2)
   | some m=>
    obtain⟨h1,_,hm⟩:=Wa hi2;have:c∈rest:=by rw[h1];simp
    have:=KO.2 this;omega
  rw[am] at hp;subst hi;have w':=ZM (k:=done.length) (by omega);have aa:done.length+1-done.length=1:=by omega
  have h5:done.length<done.length+1:=by omega
  have h6:((done.length+1:Nat):Int)≤((done.length+1:Nat):Int):=Int.le_refl _;simp +contextual -implicitDefEqProofs (maxSteps:=10^7) only[go_sem,seval,↓gZ,aa,w',h5,h6,List.replicate_one,ZoU,ZoV,ZfY,ZjO,ZjP,Km,Li,Ls,and_self,Kl,Zc];rw[hp];simp
theorem Zaa (s:List UInt8) (c:UInt8) (hs:s.length≤1048576):Zj Xs Ms XI [.d (.str s),.d (.str [c])] []=some (.ownv 0 0 (Zt c s).length,[.row 1 ((Zt c s).map .str) true false]):=by
 have e1:=Zma s c hs;refine cE ?_;simp +contextual -implicitDefEqProofs (maxSteps:=10^7) only[go_sem,seval,↓gZ,Ud,e1]
def Xt:List (List UInt8)→Option (List Int)
 | []=>some []
 | w :: r=>(rd w).bind fun v=>(Xt r).bind fun vs=>some ((v:Int) :: vs)
def rnV (o:Option (List Int)):AV×List Zf:=match o with
 | none=>(.tup [.own 0,(.d (.bool false))],[.row 1 [] true false])
 | some vs=>(.tup [.own 0,(.d (.bool true))],[.row 1 (vs.map U8) true false])
theorem Zmb {ws:List (List UInt8)} {k:Nat} {x:List UInt8} (hx:ws[k]?=some x):Xt (ws.drop k)=(rd x).bind fun v=>(Xt (ws.drop (k+1))).bind fun vs=>some ((v:Int) :: vs):=by
 obtain⟨h1,h2⟩:=Kb.1 hx;rw[KT h1,h2,Xt]
theorem Zab (ws:List (List UInt8)) (hw:ws.length≤2000000):Zj Xs Ms XH [.d (.sl (ws.map .str))] []=some (rnV (Xt ws)):=by
 refine cE ?_;simp +contextual -implicitDefEqProofs (maxSteps:=10^7) only[go_sem,seval,↓gZ,Uc];refine LO (α:=Nat×List Int) (fun a=>[(11,.d (J (a.1:Int)))]) (fun a=>[(0,.row 1 (a.2.map U8) true false)]) (fun a=>a.1≤ws.length∧a.2.length≤a.1∧Xt ws=(Xt (ws.drop a.1)).map fun r=>a.2++r) (fun a=>ws.length-a.1) (0,[]) ⟨by simp,by simp,by simp⟩ ?_;intro⟨k,vs⟩ ⟨hk,hv,hp⟩ ih;simp only at hk hv hp ih ⊢;by_cases ad:k<ws.length
 ·obtain⟨x,hx⟩:=VR ad;have aa : (k:Int)<(ws.length:Int):=by omega
  have w:=ZM (k:=k) (by omega);have e1:=VE x;rw[Zmb hx] at hp;have ab:(vs.length+1)*8≤140737488355328∧vs.length+1≤140737488355328:=by omega
  have ae:(ws.map D.str)[k]?=some (.str x):=by rw[Lg,hx];rfl
  cases hr:rd x with
  | none=>
   rw[hr] at e1 hp;simp only[ZaB] at e1;simp only[LA,Option.map_none] at hp;rw[hp];simp +contextual -implicitDefEqProofs (maxSteps:=10^7) only[go_sem,seval,↓gZ,aa,ad,ae,hx,w,e1,rnV]
  | some v=>
   rw[hr] at e1 hp;simp only[ZaB] at e1;simp +contextual -implicitDefEqProofs (maxSteps:=10^7) only[go_sem,seval,↓gZ,aa,ad,ae,hx,w,e1,ab];refine ih (k+1,vs++[(v:Int)]) _ ⟨by omega,by simp;omega,?_⟩ (by omega) ?_
   ·rw[hp];cases Xt (ws.drop (k+1))<;>simp
   ·simp +contextual -implicitDefEqProofs (maxSteps:=10^7) only[go_sem,seval,↓gZ,U8,Lc,Ki,Ku]
 ·have:k=ws.length:=by omega
  subst this;simp only[List.drop_length,Xt,KP,KU] at hp;rw[hp];simp +contextual -implicitDefEqProofs (maxSteps:=10^7) only[go_sem,seval,↓gZ,rnV]
def rlV (o:Option QG):AV:=match o with
 | none=>.tup [.d (.agg [J 0,J 0,.bool false,J 0,J 0]),(.d (.bool false))]
 | some l=>.tup [.d l.enc,(.d (.bool true))]
theorem Zjm (s:List UInt8) (hs:s.length≤1048576):Zj Xs Ms Va [.d (.str s)] []=some (rlV (J8 (Zt 32 s)),[]):=by
 have e1:=Zaa s 32 hs;generalize Zt 32 s=ws at e1;by_cases h5:ws.length=5
 ·obtain⟨a,b,c,t,k,rfl⟩:∃ a b c t k,ws=[a,b,c,t,k]:=by
   match ws,h5 with
   | [a,b,c,t,k],_=>exact⟨a,b,c,t,k,rfl⟩
  simp only[Ki,Ku,Km,Li,Ls,Nat.reduceAdd] at e1;have ad:∀ tb:Bool,t=Jw tb→Zj Xs Ms Va [.d (.str s)] []=some (rlV (J8 [a,b,c,t,k]),[]):=by
   intro tb ht;have e2:=Zab [a,b,c,k] (by simp);simp only[Ki,Ku] at e2;have ae:=Zhp tb;rw[← ht] at ae;have aa:=Ze1 tb;rw[← ht] at aa;have af:J8 [a,b,c,t,k]=match Xt [a,b,c,k] with
     | some [a,b,c,k]=>some ⟨⟨b,c,tb,k⟩,a⟩
     | _=>none:=by
    simp only[J8,Ko ae,Xt,aa];cases rd a<;>cases rd b<;>cases rd c<;>cases rd k<;>rfl
   rw[af];have h4:∀ vs,Xt [a,b,c,k]=some vs→∃ x y z u:Int,vs=[x,y,z,u]:=by
    intro vs h;simp only[Xt,KE,Option.some.injEq] at h;obtain⟨x,_,_,⟨y,_,_,⟨z,_,_,⟨u,_,_,h1,rfl⟩,rfl⟩,rfl⟩,rfl⟩:=h;subst h1;exact⟨_,_,_,_,rfl⟩
   have q1:(t==[116,117,114,110,115])=tb:=by
    rw[ht];cases tb<;>rfl
   have q2:(t==[102,105,120,101,100])=!tb:=by
    rw[ht];cases tb<;>rfl
   cases hr:Xt [a,b,c,k] with
   | none=>
    rw[hr] at e2;simp only[rnV] at e2;refine cE ?_;cases tb with
    | true=>simp +contextual -implicitDefEqProofs (maxSteps:=10^7) only[go_sem,seval,↓gZ,XP,e1,e2,q1,q2,rlV,Bool.not_true]
    | false=>simp +contextual -implicitDefEqProofs (maxSteps:=10^7) only[go_sem,seval,↓gZ,XP,e1,e2,q1,q2,rlV,Kab]
   | some vs=>
    obtain⟨x,y,z,u,rfl⟩:=h4 vs hr;rw[hr] at e2;simp only[rnV,Ki,Ku,U8] at e2;refine cE ?_;cases tb with
    | true=>simp +contextual -implicitDefEqProofs (maxSteps:=10^7) only[go_sem,seval,↓gZ,XP,e1,e2,q1,q2,rlV,Bool.not_true,QG.enc]
    | false=>simp +contextual -implicitDefEqProofs (maxSteps:=10^7) only[go_sem,seval,↓gZ,XP,e1,e2,q1,q2,rlV,Kab,QG.enc]
  by_cases t1:t=VK
  ·exact ad true t1
  by_cases t2:t=UR
  ·exact ad false t2
  ·have ab:J8 [a,b,c,t,k]=none:=by
    simp only[J8];rw[Kf (fun h=>h.elim t1 t2)]
   rw[ab];have q1:(t==[116,117,114,110,115])=false:=by simpa [VK] using t1
   have q2:(t==[102,105,120,101,100])=false:=by simpa [UR] using t2
   refine cE ?_;simp +contextual -implicitDefEqProofs (maxSteps:=10^7) only[go_sem,seval,↓gZ,XP,e1,q1,q2,rlV]
 ·have ab:J8 ws=none:=by
   unfold J8;split
   ·exact absurd rfl h5
   ·rfl
  rw[ab];have ag : ¬(ws.length:Int)=5:=by omega
  refine cE ?_;simp +contextual -implicitDefEqProofs (maxSteps:=10^7) only[go_sem,seval,↓gZ,XP,e1,ag,rlV]
theorem ZfZ (l:QG) (h:Zl7 l):(UQ 32 (YC l)).length≤40:=by
 obtain⟨⟨w,h',t,k⟩,c⟩:=l;obtain⟨h1,h2,h3,h4⟩:=h;simp only[six] at h1 h2 h3 h4;have l1:=XM 5 c.toNat (by omega);have l2:=XM 5 w.toNat (by omega);have l3:=XM 5 h'.toNat (by omega);have l4:=XM 5 k.toNat (by omega);have l5:(Jw t).length=5:=by cases t<;>rfl
 simp only[YC,UQ,Ks,Km];omega
theorem Zjn (lW lH:Int) (lT:Bool) (lK lC:Int) (h:Zl7 (QG.mk (Pane.mk lW lH lT lK) lC)):Zj Xs Ms Wb [(.d (.agg [J lW,J lH,.bool lT,J lK,J lC]))] []=some (.d (.str (Zde (QG.mk (Pane.mk lW lH lT lK) lC))),[]):=by
 have hw:=ZfZ (QG.mk (Pane.mk lW lH lT lK) lC) h;obtain⟨h1,h2,h3,h4⟩:=h;simp only[six] at h1 h2 h3 h4;have e1:=Yc lC.toNat (by omega);have e2:=Yc lW.toNat (by omega);have e3:=Yc lH.toNat (by omega);have e4:=Yc lK.toNat (by omega);rw[KD (by omega)] at e1 e2 e3 e4;have l1:=XM 5 lC.toNat (by omega);have l2:=XM 5 lW.toNat (by omega);have l3:=XM 5 lH.toNat (by omega);have l4:=XM 5 lK.toNat (by omega);unfold Zde;simp only[YC,UQ];generalize num lC.toNat=a at *;generalize num lW.toNat=b at *;generalize num lH.toNat=c at *;generalize num lK.toNat=d at *;have b1:a.length+1≤1152921504606846976:=by omega
 have b2:a.length+1+b.length≤1152921504606846976:=by omega
 have b3:a.length+1+b.length+1≤1152921504606846976:=by omega
 have b4:a.length+1+b.length+1+c.length≤1152921504606846976:=by omega
 have b5:a.length+1+b.length+1+c.length+1≤1152921504606846976:=by omega
 have b6:a.length+1+b.length+1+c.length+1+5≤1152921504606846976:=by omega
 have b7:a.length+1+b.length+1+c.length+1+5+1≤1152921504606846976:=by omega
 have b8:a.length+1+b.length+1+c.length+1+5+1+d.length≤1152921504606846976:=by omega
 refine cE ?_;cases lT with
 | true=>
  simp only[Jw,VK,Kl];simp +contextual -implicitDefEqProofs (maxSteps:=10^7) only[go_sem,seval,↓gZ,Ut,e1,e2,e3,e4,b1,b2,b3,b4,b5,b6,b7,b8];simp only[KH,Kv,Lt]
 | false=>
  simp only[Jw,UR,Ka,Kn];simp +contextual -implicitDefEqProofs (maxSteps:=10^7) only[go_sem,seval,↓gZ,Ut,e1,e2,e3,e4,b1,b2,b3,b4,b5,b6,b7,b8];simp only[KH,Kv,Lt]
theorem ZnH {c:UInt8} {s:List UInt8} {f k:Nat} (hf:f≤k) (hk:k≤s.length) (aa:c∉(s.take k).drop f) :
  (∀ x,s[k]?=some x→x=c→Zt c (s.drop f)=(s.take k).drop f :: Zt c (s.drop (k+1)))∧(k=s.length→Zt c (s.drop f)=[(s.take k).drop f]):=by
 constructor
 ·intro x hx hc;obtain⟨h1,h2⟩:=Kb.1 hx;have e:s.drop f=(s.take k).drop f++c :: s.drop (k+1):=by
   have:s=s.take k++x :: s.drop (k+1):=by
    rw[← h2,← KT h1,KZ]
   conv=>lhs;rw[this]
   rw[List.drop_append_of_le_length (by simp;omega),hc]
  rw[e,Zck aa]
 ·intro ab;subst ab;rw[KN] at aa ⊢;exact WC aa
theorem Zhr {s:List UInt8} {f k:Nat} {x:UInt8} (hf:f≤k) (hx:s[k]?=some x):(s.take (k+1)).drop f=(s.take k).drop f++[x]:=by
 obtain⟨h1,h2⟩:=Kb.1 hx;rw[LH,hx,Option.toList_some,List.drop_append_of_le_length (by simp;omega)]
theorem Zd0 (s:List UInt8) (c:UInt8) (n:Int) (hn:(c.toNat:Int)=n) (hs:s.length≤1048576):Zj Xs Ms VX [.d (.str s),.d (.int .u8 n)] []=some (.own 0,[.row 1 ((Zt c s).map .str) true false]):=by
 refine cE ?_;simp +contextual -implicitDefEqProofs (maxSteps:=10^7) only[go_sem,seval,↓gZ,ZbA];refine LO (α:=Nat×Nat×List (List UInt8)) (fun a=>[(7,.d (J (a.1:Int))),(6,.d (J (a.2.1:Int)))]) (fun a=>[(0,.row 1 (a.2.2.map .str) true false)]) (fun a=>a.2.1≤a.1∧a.1≤s.length∧a.2.2.length≤a.1∧c∉(s.take a.1).drop a.2.1∧Zt c s=a.2.2++Zt c (s.drop a.2.1)) (fun a=>s.length-a.1) (0,0,[]) ⟨by simp,by simp,by simp,by simp,by simp⟩ ?_;intro⟨k,f,out⟩ ⟨hf,hk,ho,hno,hp⟩ ih;simp only at hf hk ho hno hp ih ⊢;have aa:(out.length+1)*16≤140737488355328∧out.length+1≤140737488355328:=by omega
 obtain⟨s1,s2⟩:=ZnH hf hk hno;have b1:(f:Int)≤(k:Int):=by omega
 have b2:(k:Int)≤(s.length:Int):=by omega
 have b3:(f:Int)≤(s.length:Int):=by omega
 by_cases ad:k<s.length
 ·obtain⟨x,hx⟩:∃ x,s[k]?=some x:=⟨_,Kj ad⟩
  have ab : (k:Int)<(s.length:Int):=by omega
  have w:=ZM (k:=k) (by omega);by_cases he:x=c
  ·have ae:(x.toNat:Int)=n:=by rw[he,hn]
   have s1:=s1 x hx he;simp +contextual -implicitDefEqProofs (maxSteps:=10^7) only[go_sem,seval,↓gZ,ab,ad,hx,w,ae,b1,b2,aa];refine ih (k+1,k+1,out++[(s.take k).drop f]) _ ⟨by simp,by simp only;omega,by simp;omega,by simp,?_⟩ (by simp only;omega) ?_
   ·simp only[KH,LC];rw[hp,s1]
   ·simp +contextual -implicitDefEqProofs (maxSteps:=10^7) only[go_sem,seval,↓gZ,Lc,Ki,Ku]
  ·have ae:¬(x.toNat:Int)=n:=by
    intro h;rw[← hn] at h;exact he (UInt8.toNat_inj.1 (by omega))
   simp +contextual -implicitDefEqProofs (maxSteps:=10^7) only[go_sem,seval,↓gZ,ab,ad,hx,w,ae];refine ih (k+1,f,out) _ ⟨by simp only;omega,by simp only;omega,by simp only;omega,?_,hp⟩ (by simp only;omega) ?_
   ·simp only;rw[Zhr hf hx];simp only[Kd,Kz,not_or];exact⟨hno,fun e=>he e.symm⟩
   ·simp +contextual -implicitDefEqProofs (maxSteps:=10^7) only[go_sem,seval,↓gZ]
 ·have af:k=s.length:=by omega
  have s2:=s2 af;subst af;rw[KN] at s2;rw[s2] at hp;rw[hp];simp +contextual -implicitDefEqProofs (maxSteps:=10^7) only[go_sem,seval,↓gZ,b3,aa,KN,Lc,Ki,Ku]
def lnS (ws:List (List UInt8)):Option QG:=match ws with
 | [a,b,c,t,k]=>if t=VK∨t=UR then some ⟨⟨Us b,Us c,decide (t=VK),Us k⟩,Us a⟩ else none
 | _=>none
theorem Zjo (ws:List (List UInt8)) (hw:∀ w∈ws,w.length≤1048576):Zj Xs Ms Vb [.d (.sl (ws.map .str))] []=some (rlV (lnS ws),[]):=by
 by_cases h5:ws.length=5
 ·obtain⟨a,b,c,t,k,rfl⟩:∃ a b c t k,ws=[a,b,c,t,k]:=by
   match ws,h5 with
   | [a,b,c,t,k],_=>exact⟨a,b,c,t,k,rfl⟩
  have ea:=Xc a (hw a (by simp));have eb:=Xc b (hw b (by simp));have ec:=Xc c (hw c (by simp));have ek:=Xc k (hw k (by simp));simp only[Ki,Ku];have ad:∀ tb:Bool,t=Jw tb→Zj Xs Ms Vb [.d (.sl [.str a,.str b,.str c,.str t,.str k])] []=some (rlV (lnS [a,b,c,t,k]),[]):=by
   intro tb ht;have ae:=Zhp tb;rw[← ht] at ae;have aa:=Ze1 tb;rw[← ht] at aa;have q1:(t==[116,117,114,110,115])=tb:=by
    rw[ht];cases tb<;>rfl
   have q2:(t==[102,105,120,101,100])=!tb:=by
    rw[ht];cases tb<;>rfl
   simp only[lnS,Ko ae,aa];refine cE ?_;cases tb with
   | true=>simp +contextual -implicitDefEqProofs (maxSteps:=10^7) only[go_sem,seval,↓gZ,Vc,ea,eb,ec,ek,q1,q2,rlV,Bool.not_true,QG.enc]
   | false=>simp +contextual -implicitDefEqProofs (maxSteps:=10^7) only[go_sem,seval,↓gZ,Vc,ea,eb,ec,ek,q1,q2,rlV,Kab,QG.enc]
  by_cases t1:t=VK
  ·exact ad true t1
  by_cases t2:t=UR
  ·exact ad false t2
  ·have ab:lnS [a,b,c,t,k]=none:=by
    simp only[lnS];rw[Kf (fun h=>h.elim t1 t2)]
   rw[ab];have q1:(t==[116,117,114,110,115])=false:=by simpa [VK] using t1
   have q2:(t==[102,105,120,101,100])=false:=by simpa [UR] using t2
   refine cE ?_;simp +contextual -implicitDefEqProofs (maxSteps:=10^7) only[go_sem,seval,↓gZ,Vc,q1,q2,rlV]
 ·have ab:lnS ws=none:=by
   unfold lnS;split
   ·exact absurd rfl h5
   ·rfl
  rw[ab];have af : ¬(ws.length:Int)=5:=by omega
  refine cE ?_;simp +contextual -implicitDefEqProofs (maxSteps:=10^7) only[go_sem,seval,↓gZ,Vc,af,rlV]
theorem Zdf (c:UInt8):∀ s:List UInt8,∀ w∈Zt c s,w.length≤s.length
 | [],w,h=>by simp only[Zt,Kz] at h;rw[h];simp
 | x :: r,w,h=>by
  have ih:=Zdf c r;simp only[Zt] at h;by_cases hx:x=c
  ·rw[Ko hx] at h;rcases Ke.1 h with rfl | h
   ·simp
   ·have:=ih w h;simp;omega
  ·rw[Kf hx] at h;cases hs:Zt c r with
   | nil=>exact absurd hs (Y7 c r)
   | cons p q=>
    rw[hs] at h ih;simp only at h;rcases Ke.1 h with rfl | h
    ·have:=ih p (by simp);simp;omega
    ·have:=ih w (by simp[h]);simp;omega
theorem Zmc {ws:List (List UInt8)} {x:QG} (h:J8 ws=some x):lnS ws=some x:=by
 unfold J8 at h;split at h
 ·rename_i a b c t k;split at h
  ·rename_i ht;simp only[KE] at h;obtain⟨n1,h1,n2,h2,n3,h3,n4,h4,h⟩:=h;cases h;simp only[lnS,Ko ht,WX h1,WX h2,WX h3,WX h4]
  ·cases h
 ·cases h
def QA:List UInt8:=[115,104,101,101,116]
def Q1:List UInt8:=[102,108,97,119]
def Xi:List UInt8:=[111,114,100,101,114]
def UT:List UInt8:=[99,117,116]
def Xj:List UInt8:=[98,114,101,97,107]
def QY:List UInt8:=[115,99,114,97,112]
inductive Ev where
 | sheet (l w h:Nat)
 | flaw (l x y w h:Nat)
 | order (n:QG)
 | cut (l:Nat) (b:BT)
 | brk (n:QG)
 | scrap (l:Nat)
deriving DecidableEq
def bx0:Box:=⟨0,0,0,0⟩
def ln0:QG:=⟨⟨0,0,false,0⟩,0⟩
def Ev.ev:Ev→Zw
 | .sheet l w h=>⟨0,l,⟨0,0,w,h⟩,ln0,BT.waste.plan⟩
 | .flaw l x y w h=>⟨1,l,⟨x,y,w,h⟩,ln0,BT.waste.plan⟩
 | .order n=>⟨2,0,bx0,n,BT.waste.plan⟩
 | .cut l b=>⟨3,l,bx0,ln0,b.plan⟩
 | .brk n=>⟨4,0,bx0,n,BT.waste.plan⟩
 | .scrap l=>⟨5,l,bx0,ln0,BT.waste.plan⟩
def Ev.words:Ev→List (List UInt8)
 | .sheet l w h=>[QA,num l,num w,num h]
 | .flaw l x y w h=>[Q1,num l,num x,num y,num w,num h]
 | .order n=>Xi :: YC n
 | .cut l b=>[UT,num l,shw b]
 | .brk n=>Xj :: YC n
 | .scrap l=>[QY,num l]
def Ev.text (v:Ev):List UInt8:=UQ 32 v.words
def Ze4 (b:BT):Prop:=b.cnt≤255∧Vn b=true∧(shw b).length≤1600
instance (b:BT):Decidable (Ze4 b):=by unfold Ze4;infer_instance
def Ev.ok:Ev→Prop
 | .sheet l w h=>l≤999999∧w≤999999∧h≤999999
 | .flaw l x y w h=>l≤999999∧x≤999999∧y≤999999∧w≤999999∧h≤999999
 | .order n=>Zl7 n
 | .cut l b=>l≤999999∧Ze4 b
 | .brk n=>Zl7 n
 | .scrap l=>l≤999999
def Zk2 (s:List UInt8):Option BT:=if s.length≤1600 then ZeZ s else none
theorem Zd1 {s:List UInt8} {b:BT}:Zk2 s=some b↔s=shw b∧Ze4 b:=by
 unfold Zk2;constructor
 ·intro h;split at h
  ·rename_i hl;obtain⟨h1,h2,h3⟩:=Zbr.1 h;exact⟨h1,h2,h3,h1 ▸ hl⟩
  ·cases h
 ·rintro ⟨rfl,h1,h2,h3⟩
  rw[Ko h3];exact ZpL h1 h2
def W7:List (List UInt8)→Option (List Nat)
 | []=>some []
 | w :: r=>(rd w).bind fun n=>(W7 r).bind fun l=>some (n :: l)
theorem Zbv:∀ {ws:List (List UInt8)} {ns:List Nat},W7 ws=some ns→ws=ns.map num∧∀ n∈ns,n≤999999
 | [],ns,h=>by simp[W7] at h;subst h;simp
 | w :: r,ns,h=>by
  simp only[W7,KE] at h;obtain⟨n,h1,l,h2,h3⟩:=h;cases h3;obtain⟨e1,b1⟩:=VD h1;obtain⟨e2,b2⟩:=Zbv h2;refine⟨by rw[e1,e2];rfl,fun x hx=>?_⟩;rcases Ke.1 hx with rfl | hx
  ·exact b1
  ·exact b2 x hx
theorem UU:∀ {ns:List Nat},(∀ n∈ns,n≤999999)→W7 (ns.map num)=some ns
 | [],_=>rfl
 | n :: r,h=>by
  have ih:=UU (ns:=r) (fun x hx=>h x (Kr _ hx));simp only[Ki,W7,UP (h n (KX ..)),KF,ih]
def ZaE (w:List UInt8):List Nat→Option Ev
 | [l]=>if w=QY then some (.scrap l) else none
 | [l,a,b]=>if w=QA then some (.sheet l a b) else none
 | [l,x,y,a,b]=>if w=Q1 then some (.flaw l x y a b) else none
 | _=>none
def ZoW:List (List UInt8)→Option Ev
 | [a,p]=>(rd a).bind fun l=>(Zk2 p).bind fun b=>some (.cut l b)
 | _=>none
def Y8:List (List UInt8)→Option Ev
 | []=>none
 | w :: r=>if w=Xi then (J8 r).bind fun n=>some (.order n) else if w=Xj then (J8 r).bind fun n=>some (.brk n) else if w=UT then ZoW r else (W7 r).bind (ZaE w)
theorem Zk3 {ws:List (List UInt8)} {v:Ev} (h:Y8 ws=some v):ws=v.words∧v.ok:=by
 cases ws with
 | nil=>simp[Y8] at h
 | cons w r=>
  simp only[Y8] at h;split at h
  ·rename_i hw;simp only[KE] at h;obtain⟨n,h1,h2⟩:=h;cases h2;obtain⟨e,s⟩:=ZjN h1;exact⟨by rw[hw,e];rfl,s⟩
  ·split at h
   ·rename_i hw;simp only[KE] at h;obtain⟨n,h1,h2⟩:=h;cases h2;obtain⟨e,s⟩:=ZjN h1;exact⟨by rw[hw,e];rfl,s⟩
   ·split at h
    ·rename_i hw;unfold ZoW at h;split at h
     ·simp only[KE] at h;obtain⟨n,h1,b,h2,h3⟩:=h;cases h3;obtain⟨e1,b1⟩:=VD h1;obtain⟨e2,b2⟩:=Zd1.1 h2;exact⟨by rw[hw,e1,e2];rfl,b1,b2⟩
     ·cases h
    ·simp only[KE] at h;obtain⟨ns,h1,h2⟩:=h;obtain⟨e1,b1⟩:=Zbv h1;unfold ZaE at h2;split at h2
     ·split at h2
      ·rename_i hw;cases h2;exact⟨by rw[hw,e1];rfl,b1 _ (by simp)⟩
      ·cases h2
     ·split at h2
      ·rename_i hw;cases h2;exact⟨by rw[hw,e1];rfl,b1 _ (by simp),b1 _ (by simp),b1 _ (by simp)⟩
      ·cases h2
     ·split at h2
      ·rename_i hw;cases h2;exact⟨by rw[hw,e1];rfl,b1 _ (by simp),b1 _ (by simp),b1 _ (by simp),b1 _ (by simp),b1 _ (by simp)⟩
      ·cases h2
     ·cases h2
theorem Zjp {v:Ev} (h:v.ok):Y8 v.words=some v:=by
 have d1:¬QA=Xi:=by decide
 have d2:¬QA=Xj:=by decide
 have d3:¬QA=UT:=by decide
 have d4:¬Q1=Xi:=by decide
 have d5:¬Q1=Xj:=by decide
 have d6:¬Q1=UT:=by decide
 have d7:¬QY=Xi:=by decide
 have d8:¬QY=Xj:=by decide
 have d9:¬QY=UT:=by decide
 have aa:¬UT=Xi:=by decide
 have ab:¬UT=Xj:=by decide
 have ad:¬Xj=Xi:=by decide
 cases v with
 | sheet l w h' =>
  obtain⟨h1,h2,h3⟩:=h;have e:=UU (ns:=[l,w,h']) (by simp;omega);simp only[Ki,Ku] at e;simp only[Ev.words,Y8,Kf d1,Kf d2,Kf d3,e,KF,ZaE,Kl]
 | flaw l x y w h' =>
  obtain⟨h1,h2,h3,h4,h5⟩:=h;have e:=UU (ns:=[l,x,y,w,h']) (by simp;omega);simp only[Ki,Ku] at e;simp only[Ev.words,Y8,Kf d4,Kf d5,Kf d6,e,KF,ZaE,Kl]
 | order n=>simp only[Ev.words,Y8,Kl,ZaD (l:=n) h,KF]
 | brk n=>simp only[Ev.words,Y8,Kf ad,Kl,ZaD (l:=n) h,KF]
 | cut l b=>
  obtain⟨h1,h2⟩:=h;simp only[Ev.words,Y8,Kf aa,Kf ab,Kl,ZoW,UP h1,Zd1.2 ⟨rfl,h2⟩,KF]
 | scrap l=>
  have h1:l≤999999:=h;have e:=UU (ns:=[l]) (by simp;omega);simp only[Ki,Ku] at e;simp only[Ev.words,Y8,Kf d7,Kf d8,Kf d9,e,KF,ZaE,Kl]
theorem Zk4 {c:UInt8} (hd:isD c=false) (h:c≠119∧c≠112∧c≠116∧c≠100∧c≠97∧c≠40∧c≠44∧c≠41):∀ b:BT,c∉shw b
 | .waste=>by simp[shw,h]
 | .pane i t=>by
  simp only[shw,Ke,not_or];exact⟨by cases t<;>simp[h],JJ hd _⟩
 | .cut d a l r=>by
  simp only[shw,Ke,Kd,not_or,KI,not_false_eq_true,and_true];exact⟨by cases d<;>simp[h],JJ hd _,h.2.2.2.2.2.1,Zk4 hd h l,h.2.2.2.2.2.2.1,Zk4 hd h r,h.2.2.2.2.2.2.2⟩
theorem ZoX (v:Ev):∀ w∈v.words,(32:UInt8)∉w:=by
 intro w hw;cases v with
 | order n=>
  rcases Ke.1 hw with rfl | hw
  ·decide
  ·exact Zhq n w hw
 | brk n=>
  rcases Ke.1 hw with rfl | hw
  ·decide
  ·exact Zhq n w hw
 | cut l b=>
  simp only[Ev.words,Ke,KI,or_false] at hw;rcases hw with rfl | rfl | rfl
  ·decide
  ·exact JJ rfl _
  ·exact Zk4 rfl (by decide) b
 | sheet l a b=>
  simp only[Ev.words,Ke,KI,or_false] at hw;rcases hw with rfl | rfl | rfl | rfl<;>first | decide | exact JJ rfl _
 | flaw l x y a b=>
  simp only[Ev.words,Ke,KI,or_false] at hw;rcases hw with rfl | rfl | rfl | rfl | rfl | rfl<;>first | decide | exact JJ rfl _
 | scrap l=>
  simp only[Ev.words,Ke,KI,or_false] at hw;rcases hw with rfl | rfl<;>first | decide | exact JJ rfl _
def Zac (s:List UInt8):Option Ev:=Y8 (Zt 32 s)
theorem Zmd (v:Ev):v.words≠[]:=by cases v<;>simp[Ev.words]
theorem UJ {s:List UInt8} {v:Ev}:Zac s=some v↔s=v.text∧v.ok:=by
 unfold Zac;constructor
 ·intro h;obtain⟨h1,h2⟩:=Zk3 h;exact⟨by rw[Ev.text,← h1,Zhj],h2⟩
 ·rintro ⟨rfl,h⟩
  rw[Ev.text,Zdb (Zmd v) (ZoX v),Zjp h]
def Zhs:Nat→Nat→List UInt8→List Ev
 | 0,_,_=>[]
 | n+1,k,s=>if 40≤k then [] else match QI 10 s with
  | none=>[]
  | some i=>match Zac (s.take i) with
   | none=>[]
   | some v=>v :: Zhs n (k+1) (s.drop (i+1))
def Zf0 (l:List Ev):List UInt8:=Zbu Ev.text l
theorem ZjQ:∀ {n k:Nat} {s:List UInt8},∃ r,s=Zf0 (Zhs n k s)++r∧(Zhs n k s).length+k≤max k 40∧(∀ v∈Zhs n k s,v.ok)
 | 0,k,s=>⟨s,by simp[Zhs,Zf0,Zbu],by simp[Zhs];omega,by simp[Zhs]⟩
 | n+1,k,s=>by
  rw[Zhs];split
  ·exact⟨s,by simp[Zf0,Zbu],by simp;omega,by simp⟩
  ·split
   ·exact⟨s,by simp[Zf0,Zbu],by simp;omega,by simp⟩
   ·rename_i i hi;split
    ·exact⟨s,by simp[Zf0,Zbu],by simp;omega,by simp⟩
    ·rename_i v hv;obtain⟨h1,h2,h3⟩:=Wa hi;obtain⟨e1,e2⟩:=UJ.1 hv;obtain⟨r,g1,g2,g3⟩:=ZjQ (n:=n) (k:=k+1) (s:=s.drop (i+1));refine⟨r,?_,by simp only[Km];omega,fun x hx=>?_⟩
     ·rw[Zf0,Zl8,← Zf0,KH,Kv,← g1,← e1];exact h1
     ·rcases Ke.1 hx with rfl | hx
      ·exact e2
      ·exact g3 x hx
theorem Zbw (n:Int) (h:six n):(num n.toNat).length≤6:=XM 5 n.toNat (by have:=h.1;have:=h.2;omega)
def Yy (e:Zw):List Int:=[e.kind,e.label,e.box.X,e.box.Y,e.box.W,e.box.H,e.line.Pane.W,e.line.Pane.H,e.line.Pane.Kind,e.line.Count]
end Go.Proofs.YtgpiffflfkoocaaDoor
