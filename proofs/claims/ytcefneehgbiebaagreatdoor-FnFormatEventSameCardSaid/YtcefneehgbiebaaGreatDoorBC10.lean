/- Own text. -/
import Derived.Test.YtcefneehgbiebaaGreatDoorBCode
import Derived.Test.YtcefneehgbiebaaGreatDoorAbsParts
import Derived.Test.YtcefneehgbiebaaGreatDoorBC9
namespace Go.Proofs.YtcefneehgbiebaaGreatDoor
open Go Go.Abs Go.Abs.E Go.Abs.L
open Nat (reduceMul reduceSub reduceLeDiff reduceEqDiff)
open Int (reduceLE reduceEq reduceToNat reduceNeg)
set_option linter.unusedSimpArgs false
set_option linter.unusedVariables false
set_option maxRecDepth 20000
set_option maxHeartbeats 4000000
theorem ZwN (p:Zf):Zw5 p=[]∨∃ b,p=b.plan∧b.cnt≤255∧JZ b=true∧Zw5 p=shw b:=by
 cases h:Q6 p with
 | none=>exact .inl (ZsB h)
 | some b=>
  rw[Zlr h];by_cases hc:b.cnt≤255∧JZ b=true
  ·rw[Ki hc];exact .inr ⟨b,ZaE h,hc.1,hc.2,rfl⟩
  ·rw[Kd hc];exact .inl rfl
theorem ZyZ {s:List UInt8} {b:BT}:ZtK s=some b↔s.length≤1600∧s=shw b∧b.cnt≤255∧JZ b=true:=by
 unfold ZtK;by_cases h:s.length≤1600
 ·rw[Ki h,Zhd];exact⟨fun h'=>⟨h,h'⟩,fun h'=>h'.2⟩
 ·rw[Kd h];constructor
  ·intro h';cases h'
  ·intro h';exact absurd h'.1 h
theorem Zk0 (a b:Bool):Zjw .neq true (AV.d (.bool a)) (.d (.bool b))=VE (some (AV.d (.bool (a != b)))):=by cases a<;>cases b<;>rfl
theorem ZoS (a b:Bool):Zjw .eql true (AV.d (.bool a)) (.d (.bool b))=VE (some (AV.d (.bool (a==b)))):=by cases a<;>cases b<;>rfl
def ZcP:List UInt8:=[116,117,114,110,115]
def ZgW:List UInt8:=[102,105,120,101,100]
def ZeI (t:Bool):List UInt8:=if t then ZcP else ZgW
def X6 (l:Zc):List (List UInt8):=[num l.Count.toNat,num l.Pane.W.toNat,num l.Pane.H.toNat,ZeI l.Pane.Turns,num l.Pane.Kind.toNat]
def Zk1 (l:Zc):List UInt8:=VA 32 (X6 l)
def six (n:Int):Prop:=0≤n∧n≤999999
instance (n:Int):Decidable (six n):=by unfold six;infer_instance
def Ztp (l:Zc):Prop:=six l.Count∧six l.Pane.W∧six l.Pane.H∧six l.Pane.Kind
def Zgh:List (List UInt8)→Option Zc
 | [a,b,c,t,k]=>if t=ZcP∨t=ZgW then (rd a).bind fun a=>(rd b).bind fun b=>(rd c).bind fun c=>(rd k).bind fun k=>some ⟨⟨b,c,decide (t=ZcP),k⟩,a⟩ else none
 | _=>none
theorem ZdR {c:UInt8} (hc:isD c=false) (n:Nat):c∉num n:=fun h=>by rw[ZtG n c h] at hc;cases hc
theorem ZwO (t:Bool):(32:UInt8)∉ZeI t:=by cases t<;>decide
theorem Zu6 (t:Bool):ZeI t=ZcP∨ZeI t=ZgW:=by cases t<;>simp[ZeI]
theorem Zsf (t:Bool):decide (ZeI t=ZcP)=t:=by cases t<;>decide
theorem ZAa {w:List UInt8} (h:w=ZcP∨w=ZgW):ZeI (decide (w=ZcP))=w:=by
 rcases h with rfl | rfl
 ·simp[ZeI]
 ·have:¬ZgW=ZcP:=by decide
  simp[ZeI,this]
theorem ZoT (l:Zc):∀ w∈X6 l,(32:UInt8)∉w:=by
 intro w hw;simp only[X6,Kf,Ky,or_false] at hw;rcases hw with rfl | rfl | rfl | rfl | rfl
 ·exact ZdR rfl _
 ·exact ZdR rfl _
 ·exact ZdR rfl _
 ·exact ZwO _
 ·exact ZdR rfl _
theorem ZoU {l:Zc} (h:Ztp l):Zgh (X6 l)=some l:=by
 obtain⟨⟨w,h',t,k⟩,c⟩:=l;obtain⟨h1,h2,h3,h4⟩:=h;simp only[six] at h1 h2 h3 h4;have e1:((c.toNat:Nat):Int)=c:=by omega
 have e2:((w.toNat:Nat):Int)=w:=by omega
 have e3:((h'.toNat:Nat):Int)=h':=by omega
 have e4:((k.toNat:Nat):Int)=k:=by omega
 simp only[X6,Zgh,Ki (Zu6 t),Zha (show c.toNat≤999999 by omega),Zha (show w.toNat≤999999 by omega),Zha (show h'.toNat≤999999 by omega),Zha (show k.toNat≤999999 by omega),KI,Zsf,e1,e2,e3,e4]
theorem Zsg {ws:List (List UInt8)} {l:Zc} (h:Zgh ws=some l):ws=X6 l∧Ztp l:=by
 unfold Zgh at h;split at h
 ·rename_i a b c t k;split at h
  ·rename_i ht;simp only[KZ] at h;obtain⟨n1,h1,n2,h2,n3,h3,n4,h4,h⟩:=h;cases h;obtain⟨r1,b1⟩:=Zdx h1;obtain⟨r2,b2⟩:=Zdx h2;obtain⟨r3,b3⟩:=Zdx h3;obtain⟨r4,b4⟩:=Zdx h4;refine⟨?_,?_,?_,?_,?_⟩
   ·simp only[X6,KD,ZAa ht];rw[r1,r2,r3,r4]
   all_goals (simp only[six];omega)
  ·cases h
 ·cases h
def Zy0 (c:UInt8) (s:List UInt8):Int:=match XM c s with
 | none=>-1
 | some i=>(i:Int)
theorem ZAb (c:UInt8) (s:List UInt8):Lib.indexByte s c=Zy0 c s:=by
 unfold Zy0
 induction s with
 | nil=>rfl
 | cons x r ih=>
  simp only[Lib.indexByte,XM,ih];by_cases h:x=c
  ·simp[h]
  ·rw[Kd h];cases XM c r with
   | none=>simp[h]
   | some i=>simp[h]<;>omega
theorem Zk2 (c:UInt8) (s:List UInt8):(Qn c s).length=s.count c+1:=by
 induction s with
 | nil=>rfl
 | cons x r ih=>
  simp only[Qn];by_cases h:x=c
  ·rw[Ki h];simp[ih,h]
  ·rw[Kd h];cases hs:Qn c r with
   | nil=>exact absurd hs (ZhU c r)
   | cons p q=>
    rw[hs] at ih;simp only[Ks] at ih ⊢;rw[List.count_cons_of_ne (fun e=>h e)];exact ih
theorem ZwP (ws:List (List UInt8)):ZgT (ws.map .str)=some ws:=by
 induction ws with
 | nil=>rfl
 | cons x r ih=>simp only[Kj,ZgT,ih];rfl
theorem ZoV (c:UInt8):∀ ws:List (List UInt8),Lib.join ws [c]=VA c ws
 | []=>rfl
 | [x]=>Lib.join_one x [c]
 | x :: y :: r=>by
  have ih:=ZoV c (y :: r);unfold Lib.join at ih ⊢;simp only[VA,← ih,List.intercalate,List.intersperse,KK,Lc,List.singleton_append,KF,Lu]
theorem Zf5 (ws:List (List UInt8)) (c:UInt8) (h0:0<ws.length) (h1:ws.length≤1000) (h2:(VA c ws).length≤1000000):Ze Xs Ms Yp [.d (.sl (ws.map .str)),.d (.str [c])] []=some (.d (.str (VA c ws)),[]):=by
 refine VH Xs Ms Zpy ?_;unfold Zse;simp only;rw[ZwP];simp only[Zg];rw[Ki ⟨h0,by unfold ZbE;omega,by rw[ZoV];unfold ZbE;omega⟩,ZoV]
theorem Zu7 (s:List UInt8) (c:UInt8):Ze Xs Ms ZW [.d (.str s),.d (.str [c])] []=some ((.d (J (Zy0 c s))),[]):=by
 refine VH Xs Ms ZbI ?_;unfold ZyX;simp only;rw[ZAb]
theorem Zk3 (s:List UInt8) (c:UInt8):Ze Xs Ms V4 [.d (.str s),.d (.str [c])] []=some ((.d (J (Zy0 c s))),[]):=by
 have e1:=Zu7 s c;refine cE ?_;simp +contextual -implicitDefEqProofs (maxSteps:=10^7) only[go_sem,seval,↓gZ,ZbM,e1]
theorem Zk4 (s:List UInt8) (c:UInt8):Ze Xs Ms Yz [.d (.str s),.d (.str [c])] []=some ((.d (J ((s.count c:Nat)))),[]):=by
 refine VH Xs Ms ZmQ ?_;unfold ZyY;simp only[Lib.countByte]
theorem Cut_ev (s:List UInt8) (c:UInt8) (hs:s.length≤1000000):Ze Xs Ms QB [.d (.str s),.d (.str [c])] []=some (.tup (match XM c s with | none=>[.d (.str s),.d (.str []),(.d (.bool false))] | some i=>[.d (.str (s.take i)),.d (.str (s.drop (i+1))),(.d (.bool true))]),[]):=by
 have e1:=Zu7 s c;unfold Zy0 at e1;cases h:XM c s with
 | none=>
  rw[h] at e1;refine cE ?_;simp +contextual -implicitDefEqProofs (maxSteps:=10^7) only[go_sem,seval,↓gZ,Xe,e1]
 | some i=>
  obtain⟨_,_,hi⟩:=ZeT h;rw[h] at e1;simp only at e1;have w:=Zj (k:=i) (by omega);have h1:((i+1:Nat):Int)≤(s.length:Int):=by omega
  have h2:(i:Int)≤(s.length:Int):=by omega
  refine cE ?_;simp +contextual -implicitDefEqProofs (maxSteps:=10^7) only[go_sem,seval,↓gZ,Xe,e1,w,h1,h2,Zmk,Lu,K8,La]
theorem ZgX (s:List UInt8) (c:UInt8) (hs:s.length≤1000000):Ze Xs Ms YR [.d (.str s),.d (.str [c])] []=some (.tup (match XM c s with | none=>[.d (.str s),.d (.str []),(.d (.bool false))] | some i=>[.d (.str (s.take i)),.d (.str (s.drop (i+1))),(.d (.bool true))]),[]):=by
 have e1:=Cut_ev s c hs;cases h:XM c s with
 | none=>
  rw[h] at e1;refine cE ?_;simp +contextual -implicitDefEqProofs (maxSteps:=10^7) only[go_sem,seval,↓gZ,Zba,e1]
 | some i=>
  rw[h] at e1;refine cE ?_;simp +contextual -implicitDefEqProofs (maxSteps:=10^7) only[go_sem,seval,↓gZ,Zba,e1]
theorem ZxN (done:List (List UInt8)) (x y:D) (r:List D):(done.map D.str++x :: r).set done.length y=done.map D.str++y :: r:=by
 have h:=List.set_append_right (s:=done.map D.str) (t:=x :: r) (i:=done.length) y (by simp);rw[h];simp
theorem ZxO (done:List (List UInt8)) (x:D) (r:List D):(done.map D.str++x :: r)[done.length]?=some x:=by
 rw[K3 (by simp)];simp
theorem Zl9 (a b:List UInt8):Ze0 (.str a) 0 [.str b]=.str b:=rfl
theorem Zsh (a:List UInt8):(D.str a).notSl=true:=rfl
theorem Zsi (a:List UInt8):(D.str a).cells=[.str a]:=rfl
theorem Zu8 (s:List UInt8) (c:UInt8) (hs:s.length≤1000000):Ze Xs Ms Yn [.d (.str s),.d (.str [c]),(.d (J 0)),(.d (J (-1)))] []=some (.ownv 0 0 (Qn c s).length,[.row 1 ((Qn c s).map .str) true false]):=by
 have e1:=Zk4 s c;have ai:s.count c≤s.length:=List.count_le_length;have w1:=Zj (k:=s.count c) (by omega);have w2:=Zj (k:=s.length) (by omega);have ab:=Zk2 c s;obtain⟨n,hn⟩:∃ n,s.count c=n:=⟨_,rfl⟩
 rw[hn] at e1 w1 ab ai;have aj:(([c]:List UInt8)==[])=false:=rfl;have ae:min ((n+1:Nat):Int) ((s.length+1:Nat):Int)=((n+1:Nat):Int):=by omega
 have w3:IntKind.i64.wrap (((n+1:Nat):Int)-1)=(n:Int):=by rw[show ((n+1:Nat):Int)-1=n by omega];exact wi _ (by omega) (by omega)
 have ak:((n+1:Nat):Int)*16≤140737488355328∧((n+1:Nat):Int)≤140737488355328:=by omega
 refine cE ?_;simp +contextual -implicitDefEqProofs (maxSteps:=10^7) only[go_sem,seval,↓gZ,Jf,e1,w1,w2,aj,ae,w3,ak];refine LO (α:=List (List UInt8)×List UInt8) (fun a=>[(10,.d (J (a.1.length:Nat))),(0,.d (.str a.2))]) (fun a=>[(0,.row 1 (a.1.map .str++List.replicate (n+1-a.1.length) (.str [])) true false)]) (fun a=>Qn c s=a.1++Qn c a.2∧a.2.length≤s.length) (fun a=>n-a.1.length) ([],s) ⟨rfl,Kr _⟩ ?_;intro⟨done,rest⟩ ⟨hp,hr⟩ ih;simp only at hp hr ih ⊢;have af:=Zk2 c rest;have al:=congrArg List.length hp;rw[ab,Kt,af] at al;by_cases an:done.length<n
 ·have ag : (done.length:Int)<(n:Int):=by omega
  have e2:=Zk3 rest c;unfold Zy0 at e2;have aa:List.replicate (n+1-done.length) (D.str [])=D.str [] :: List.replicate (n-done.length) (D.str []):=by rw[show n+1-done.length=(n-done.length)+1 by omega];rfl
  rw[aa];cases hi:XM c rest with
  | none=>
   have:=ZcY (Zkf.1 hi);rw[this] at af;simp at af;omega
  | some m=>
   obtain⟨_,_,hm⟩:=ZeT hi;rw[hi] at e2;simp only at e2;have w:=Zj (k:=m) (by omega);have w':=Zj (k:=done.length) (by omega);have w0:=wi (m:Int) (by omega) (by omega);have h1:((m+1:Nat):Int)≤(rest.length:Int):=by omega
   have h2:(m:Int)≤(rest.length:Int):=by omega
   have h3:¬(m:Int)<0:=by omega
   have h4:done.length<done.length+(n-done.length+1):=by omega
   have ah:=ZhV c rest;rw[hi] at ah;simp only at ah;simp +contextual -implicitDefEqProofs (maxSteps:=10^7) only[go_sem,seval,↓gZ,ag,e2,w,w',w0,h1,h2,h3,h4,ZxN,ZxO,Zl9,Zsh,Zsi,Ks,KM,K2,and_self,Km,Zg,Int.add_zero,La,List.length_replicate];refine ih (done++[rest.take m],rest.drop (m+1)) _ ⟨?_,?_⟩ (by simp;omega) ?_
   ·simp only[Lc,List.singleton_append];rw[← ah];exact hp
   ·simp;omega
   ·have ad:n+1-(done.length+1)=n-done.length:=by omega
    simp +contextual -implicitDefEqProofs (maxSteps:=10^7) only[go_sem,seval,↓gZ,Kt,K9,Lc,ad]
 ·have hi:done.length=n:=by omega
  have am:Qn c rest=[rest]:=by
   cases hi2:XM c rest with
   | none=>exact ZcY (Zkf.1 hi2)
   | some m=>
    obtain⟨h1,_,hm⟩:=ZeT hi2;have:c∈rest:=by rw[h1];simp
    have:=List.count_pos_iff.2 this;omega
  rw[am] at hp;subst hi;have w':=Zj (k:=done.length) (by omega);have aa:done.length+1-done.length=1:=by omega
  have h5:done.length<done.length+1:=by omega
  have h6:((done.length+1:Nat):Int)≤((done.length+1:Nat):Int):=Int.le_refl _;simp +contextual -implicitDefEqProofs (maxSteps:=10^7) only[go_sem,seval,↓gZ,aa,w',h5,h6,List.replicate_one,ZxN,ZxO,Zl9,Zsh,Zsi,Ks,KM,K2,and_self,Km,Zg];rw[hp];simp
theorem ZeJ (s:List UInt8) (c:UInt8) (hs:s.length≤1000000):Ze Xs Ms Yy [.d (.str s),.d (.str [c])] []=some (.ownv 0 0 (Qn c s).length,[.row 1 ((Qn c s).map .str) true false]):=by
 have e1:=Zu8 s c hs;refine cE ?_;simp +contextual -implicitDefEqProofs (maxSteps:=10^7) only[go_sem,seval,↓gZ,ZbK,e1]
def ZbW:List (List UInt8)→Option (List Int)
 | []=>some []
 | w :: r=>(rd w).bind fun v=>(ZbW r).bind fun vs=>some ((v:Int) :: vs)
def rnV (o:Option (List Int)):AV×List Zl:=match o with
 | none=>(.tup [.own 0,(.d (.bool false))],[.row 1 [] true false])
 | some vs=>(.tup [.own 0,(.d (.bool true))],[.row 1 (vs.map Ys) true false])
theorem ZAc {ws:List (List UInt8)} {k:Nat} {x:List UInt8} (hx:ws[k]?=some x):ZbW (ws.drop k)=(rd x).bind fun v=>(ZbW (ws.drop (k+1))).bind fun vs=>some ((v:Int) :: vs):=by
 obtain⟨h1,h2⟩:=Kb.1 hx;rw[Kw h1,h2,ZbW]
theorem ZeK (ws:List (List UInt8)) (hw:ws.length≤2000000):Ze Xs Ms Yx [.d (.sl (ws.map .str))] []=some (rnV (ZbW ws)):=by
 refine cE ?_;simp +contextual -implicitDefEqProofs (maxSteps:=10^7) only[go_sem,seval,↓gZ,ZbJ];refine LO (α:=Nat×List Int) (fun a=>[(11,.d (J (a.1:Int)))]) (fun a=>[(0,.row 1 (a.2.map Ys) true false)]) (fun a=>a.1≤ws.length∧a.2.length≤a.1∧ZbW ws=(ZbW (ws.drop a.1)).map fun r=>a.2++r) (fun a=>ws.length-a.1) (0,[]) ⟨by simp,by simp,by simp⟩ ?_;intro⟨k,vs⟩ ⟨hk,hv,hp⟩ ih;simp only at hk hv hp ih ⊢;by_cases ad:k<ws.length
 ·obtain⟨x,hx⟩:=Zr ad;have aa : (k:Int)<(ws.length:Int):=by omega
  have w:=Zj (k:=k) (by omega);have e1:=U4 x;rw[ZAc hx] at hp;have ab:(vs.length+1)*8≤140737488355328∧vs.length+1≤140737488355328:=by omega
  have ae:(ws.map D.str)[k]?=some (.str x):=by rw[KS,hx];rfl
  cases hr:rd x with
  | none=>
   rw[hr] at e1 hp;simp only[ZfD] at e1;simp only[LI,Option.map_none] at hp;rw[hp];simp +contextual -implicitDefEqProofs (maxSteps:=10^7) only[go_sem,seval,↓gZ,aa,ad,ae,hx,w,e1,rnV]
  | some v=>
   rw[hr] at e1 hp;simp only[ZfD] at e1;simp +contextual -implicitDefEqProofs (maxSteps:=10^7) only[go_sem,seval,↓gZ,aa,ad,ae,hx,w,e1,ab];refine ih (k+1,vs++[(v:Int)]) _ ⟨by omega,by simp;omega,?_⟩ (by omega) ?_
   ·rw[hp];cases ZbW (ws.drop (k+1))<;>simp
   ·simp +contextual -implicitDefEqProofs (maxSteps:=10^7) only[go_sem,seval,↓gZ,Ys,K9,Kj,Ku]
 ·have:k=ws.length:=by omega
  subst this;simp only[List.drop_length,ZbW,KJ,K8] at hp;rw[hp];simp +contextual -implicitDefEqProofs (maxSteps:=10^7) only[go_sem,seval,↓gZ,rnV]
def rlV (o:Option Zc):AV:=match o with
 | none=>.tup [.d (.agg [J 0,J 0,.bool false,J 0,J 0]),(.d (.bool false))]
 | some l=>.tup [.d l.enc,(.d (.bool true))]
theorem Zql (s:List UInt8) (hs:s.length≤1000000):Ze Xs Ms W7 [.d (.str s)] []=some (rlV (Zgh (Qn 32 s)),[]):=by
 have e1:=ZeJ s 32 hs;generalize Qn 32 s=ws at e1;by_cases h5:ws.length=5
 ·obtain⟨a,b,c,t,k,rfl⟩:∃ a b c t k,ws=[a,b,c,t,k]:=by
   match ws,h5 with
   | [a,b,c,t,k],_=>exact⟨a,b,c,t,k,rfl⟩
  simp only[Kj,Ku,Ks,KM,K2,Nat.reduceAdd] at e1;have ad:∀ tb:Bool,t=ZeI tb→Ze Xs Ms W7 [.d (.str s)] []=some (rlV (Zgh [a,b,c,t,k]),[]):=by
   intro tb ht;have e2:=ZeK [a,b,c,k] (by simp);simp only[Kj,Ku] at e2;have ae:=Zu6 tb;rw[← ht] at ae;have aa:=Zsf tb;rw[← ht] at aa;have af:Zgh [a,b,c,t,k]=match ZbW [a,b,c,k] with
     | some [a,b,c,k]=>some ⟨⟨b,c,tb,k⟩,a⟩
     | _=>none:=by
    simp only[Zgh,Ki ae,ZbW,aa];cases rd a<;>cases rd b<;>cases rd c<;>cases rd k<;>rfl
   rw[af];have h4:∀ vs,ZbW [a,b,c,k]=some vs→∃ x y z u:Int,vs=[x,y,z,u]:=by
    intro vs h;simp only[ZbW,KZ,Option.some.injEq] at h;obtain⟨x,_,_,⟨y,_,_,⟨z,_,_,⟨u,_,_,h1,rfl⟩,rfl⟩,rfl⟩,rfl⟩:=h;subst h1;exact⟨_,_,_,_,rfl⟩
   have q1:(t==[116,117,114,110,115])=tb:=by
    rw[ht];cases tb<;>rfl
   have q2:(t==[102,105,120,101,100])=!tb:=by
    rw[ht];cases tb<;>rfl
   cases hr:ZbW [a,b,c,k] with
   | none=>
    rw[hr] at e2;simp only[rnV] at e2;refine cE ?_;cases tb with
    | true=>simp +contextual -implicitDefEqProofs (maxSteps:=10^7) only[go_sem,seval,↓gZ,YL,e1,e2,q1,q2,rlV,Bool.not_true]
    | false=>simp +contextual -implicitDefEqProofs (maxSteps:=10^7) only[go_sem,seval,↓gZ,YL,e1,e2,q1,q2,rlV,Bool.not_false]
   | some vs=>
    obtain⟨x,y,z,u,rfl⟩:=h4 vs hr;rw[hr] at e2;simp only[rnV,Kj,Ku,Ys] at e2;refine cE ?_;cases tb with
    | true=>simp +contextual -implicitDefEqProofs (maxSteps:=10^7) only[go_sem,seval,↓gZ,YL,e1,e2,q1,q2,rlV,Bool.not_true,Zc.enc]
    | false=>simp +contextual -implicitDefEqProofs (maxSteps:=10^7) only[go_sem,seval,↓gZ,YL,e1,e2,q1,q2,rlV,Bool.not_false,Zc.enc]
  by_cases t1:t=ZcP
  ·exact ad true t1
  by_cases t2:t=ZgW
  ·exact ad false t2
  ·have ab:Zgh [a,b,c,t,k]=none:=by
    simp only[Zgh];rw[Kd (fun h=>h.elim t1 t2)]
   rw[ab];have q1:(t==[116,117,114,110,115])=false:=by simpa [ZcP] using t1
   have q2:(t==[102,105,120,101,100])=false:=by simpa [ZgW] using t2
   refine cE ?_;simp +contextual -implicitDefEqProofs (maxSteps:=10^7) only[go_sem,seval,↓gZ,YL,e1,q1,q2,rlV]
 ·have ab:Zgh ws=none:=by
   unfold Zgh;split
   ·exact absurd rfl h5
   ·rfl
  rw[ab];have ag : ¬(ws.length:Int)=5:=by omega
  refine cE ?_;simp +contextual -implicitDefEqProofs (maxSteps:=10^7) only[go_sem,seval,↓gZ,YL,e1,ag,rlV]
theorem Zma (l:Zc) (h:Ztp l):(VA 32 (X6 l)).length≤40:=by
 obtain⟨⟨w,h',t,k⟩,c⟩:=l;obtain⟨h1,h2,h3,h4⟩:=h;simp only[six] at h1 h2 h3 h4;have l1:=Za8 5 c.toNat (by omega);have l2:=Za8 5 w.toNat (by omega);have l3:=Za8 5 h'.toNat (by omega);have l4:=Za8 5 k.toNat (by omega);have l5:(ZeI t).length=5:=by cases t<;>rfl
 simp only[X6,VA,Kt,Ks];omega
theorem Zqm (lW lH:Int) (lT:Bool) (lK lC:Int) (h:Ztp (Zc.mk (Pane.mk lW lH lT lK) lC)):Ze Xs Ms W8 [(.d (.agg [J lW,J lH,.bool lT,J lK,J lC]))] []=some (.d (.str (Zk1 (Zc.mk (Pane.mk lW lH lT lK) lC))),[]):=by
 have hw:=Zma (Zc.mk (Pane.mk lW lH lT lK) lC) h;obtain⟨h1,h2,h3,h4⟩:=h;simp only[six] at h1 h2 h3 h4;have e1:=X2 lC h1.1 (by omega);have e2:=X2 lW h2.1 (by omega);have e3:=X2 lH h3.1 (by omega);have e4:=X2 lK h4.1 (by omega);have e5:=Zf5 (X6 (Zc.mk (Pane.mk lW lH lT lK) lC)) 32 (by simp[X6]) (by simp[X6]) (by omega);simp only[X6,Kj,Ku] at e5;unfold Zk1;simp only[X6];refine cE ?_;cases lT with
 | true=>
  simp only[ZeI,ZcP,Km] at e5 ⊢;simp +contextual -implicitDefEqProofs (maxSteps:=10^7) only[go_sem,seval,↓gZ,Zcb,e1,e2,e3,e4,e5]
 | false=>
  simp only[ZeI,ZgW,Ka,Ko] at e5 ⊢;simp +contextual -implicitDefEqProofs (maxSteps:=10^7) only[go_sem,seval,↓gZ,Zcb,e1,e2,e3,e4,e5]
end Go.Proofs.YtcefneehgbiebaaGreatDoor
