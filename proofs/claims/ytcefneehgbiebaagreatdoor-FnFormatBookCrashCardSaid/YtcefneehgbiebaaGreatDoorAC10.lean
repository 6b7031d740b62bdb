/- Own text. -/
import Derived.Test.YtcefneehgbiebaaGreatDoorACode
import Derived.Test.YtcefneehgbiebaaGreatDoorAbsParts
import Derived.Test.YtcefneehgbiebaaGreatDoorAC9
namespace Go.Proofs.YtcefneehgbiebaaGreatDoor
open Go Go.Abs Go.Abs.E Go.Abs.L
open Nat (reduceMul reduceSub reduceLeDiff reduceEqDiff)
open Int (reduceLE reduceEq reduceToNat reduceNeg)
set_option linter.unusedSimpArgs false
set_option linter.unusedVariables false
set_option maxRecDepth 20000
set_option maxHeartbeats 4000000
theorem ZwY (p:Zf):Zxi p=[]∨∃ b,p=b.plan∧b.cnt≤255∧VZ b=true∧Zxi p=shw b:=by
 cases h:QU p with
 | none=>exact .inl (Ztk h)
 | some b=>
  rw[ZnQ h];by_cases hc:b.cnt≤255∧VZ b=true
  ·rw[Kh hc];exact .inr ⟨b,UM h,hc.1,hc.2,rfl⟩
  ·rw[Kd hc];exact .inl rfl
theorem Zzk {s:List UInt8} {b:BT}:Zuv s=some b↔s.length≤1600∧s=shw b∧b.cnt≤255∧VZ b=true:=by
 unfold Zuv;by_cases h:s.length≤1600
 ·rw[Kh h,Zik];exact⟨fun h'=>⟨h,h'⟩,fun h'=>h'.2⟩
 ·rw[Kd h];constructor
  ·intro h';cases h'
  ·intro h';exact absurd h'.1 h
theorem ZcW (a b:Bool):Zm1 .neq true (AV.d (.bool a)) (.d (.bool b))=Wa (some (AV.d (.bool (a != b)))):=by cases a<;>cases b<;>rfl
theorem Ze9 (a b:Bool):Zm1 .eql true (AV.d (.bool a)) (.d (.bool b))=Wa (some (AV.d (.bool (a==b)))):=by cases a<;>cases b<;>rfl
def Zb5:List UInt8:=[116,117,114,110,115]
def Zf4:List UInt8:=[102,105,120,101,100]
def Zcp (t:Bool):List UInt8:=if t then Zb5 else Zf4
def Xq (l:Zc):List (List UInt8):=[num l.Count.toNat,num l.Pane.W.toNat,num l.Pane.H.toNat,Zcp l.Pane.Turns,num l.Pane.Kind.toNat]
def Za7 (l:Zc):List UInt8:=Yb 32 (Xq l)
def six (n:Int):Prop:=0≤n∧n≤999999
instance (n:Int):Decidable (six n):=by unfold six;infer_instance
def Zp8 (l:Zc):Prop:=six l.Count∧six l.Pane.W∧six l.Pane.H∧six l.Pane.Kind
def ZhW:List (List UInt8)→Option Zc
 | [a,b,c,t,k]=>if t=Zb5∨t=Zf4 then (rd a).bind fun a=>(rd b).bind fun b=>(rd c).bind fun c=>(rd k).bind fun k=>some ⟨⟨b,c,decide (t=Zb5),k⟩,a⟩ else none
 | _=>none
theorem JF {c:UInt8} (hc:isD c=false) (n:Nat):c∉num n:=fun h=>by rw[Zur n c h] at hc;cases hc
theorem ZwZ (t:Bool):(32:UInt8)∉Zcp t:=by cases t<;>decide
theorem Zvg (t:Bool):Zcp t=Zb5∨Zcp t=Zf4:=by cases t<;>simp[Zcp]
theorem ZsX (t:Bool):decide (Zcp t=Zb5)=t:=by cases t<;>decide
theorem ZAw {w:List UInt8} (h:w=Zb5∨w=Zf4):Zcp (decide (w=Zb5))=w:=by
 rcases h with rfl | rfl
 ·simp[Zcp]
 ·have:¬Zf4=Zb5:=by decide
  simp[Zcp,this]
theorem Zp9 (l:Zc):∀ w∈Xq l,(32:UInt8)∉w:=by
 intro w hw;simp only[Xq,Ke,Ku,or_false] at hw;rcases hw with rfl | rfl | rfl | rfl | rfl
 ·exact JF rfl _
 ·exact JF rfl _
 ·exact JF rfl _
 ·exact ZwZ _
 ·exact JF rfl _
theorem Zqa {l:Zc} (h:Zp8 l):ZhW (Xq l)=some l:=by
 obtain⟨⟨w,h',t,k⟩,c⟩:=l;obtain⟨h1,h2,h3,h4⟩:=h;simp only[six] at h1 h2 h3 h4;have e1:((c.toNat:Nat):Int)=c:=by omega
 have e2:((w.toNat:Nat):Int)=w:=by omega
 have e3:((h'.toNat:Nat):Int)=h':=by omega
 have e4:((k.toNat:Nat):Int)=k:=by omega
 simp only[Xq,ZhW,Kh (Zvg t),Zig (show c.toNat≤999999 by omega),Zig (show w.toNat≤999999 by omega),Zig (show h'.toNat≤999999 by omega),Zig (show k.toNat≤999999 by omega),KI,ZsX,e1,e2,e3,e4]
theorem ZsY {ws:List (List UInt8)} {l:Zc} (h:ZhW ws=some l):ws=Xq l∧Zp8 l:=by
 unfold ZhW at h;split at h
 ·rename_i a b c t k;split at h
  ·rename_i ht;simp only[KQ] at h;obtain⟨n1,h1,n2,h2,n3,h3,n4,h4,h⟩:=h;cases h;obtain⟨r1,b1⟩:=Zd6 h1;obtain⟨r2,b2⟩:=Zd6 h2;obtain⟨r3,b3⟩:=Zd6 h3;obtain⟨r4,b4⟩:=Zd6 h4;refine⟨?_,?_,?_,?_,?_⟩
   ·simp only[Xq,KF,ZAw ht];rw[r1,r2,r3,r4]
   all_goals (simp only[six];omega)
  ·cases h
 ·cases h
theorem Zvh {c d:UInt8} (hd:c≠d):∀ {ws:List (List UInt8)},(∀ w∈ws,c∉w)→c∉Yb d ws
 | [],_=>by simp[Yb]
 | [x],h=>h x (by simp)
 | x :: y :: r,h=>by
  have ih:=Zvh hd (ws:=y :: r) fun w hw=>h w (by simp[hw]);have hx:=h x (by simp);simp only[Yb,Kg,Ke,not_or];exact⟨hx,hd,ih⟩
theorem Zw0 (t:Bool):(10:UInt8)∉Zcp t:=by cases t<;>decide
def Zf5 {α:Type} (f:α→List UInt8) (l:List α):List UInt8:=(l.map fun x=>f x++[10]).flatten
theorem Zd2 {α:Type} (f:α→List UInt8) (x:α) (l:List α):Zf5 f (x :: l)=f x++10 :: Zf5 f l:=by simp[Zf5]
theorem Zvi {α:Type} (f:α→List UInt8) (l:List α) (x:α):Zf5 f (l++[x])=Zf5 f l++(f x++[10]):=by simp[Zf5]
theorem Zyv {c:UInt8}:∀ {a b:List UInt8},c∉a→QI c (a++c :: b)=some a.length
 | [],b,_=>by simp[QI]
 | x :: a,b,h=>by
  simp only[Ke,not_or] at h;simp only[Kv,QI,Kd (fun e=>h.1 (Eq.symm e)),Zyv h.2,KJ,Ko]
def Zzl (c:UInt8) (s:List UInt8):Int:=match QI c s with
 | none=>-1
 | some i=>(i:Int)
theorem ZAx (c:UInt8) (s:List UInt8):Lib.indexByte s c=Zzl c s:=by
 unfold Zzl
 induction s with
 | nil=>rfl
 | cons x r ih=>
  simp only[Lib.indexByte,QI,ih];by_cases h:x=c
  ·simp[h]
  ·rw[Kd h];cases QI c r with
   | none=>simp[h]
   | some i=>simp[h]<;>omega
theorem Znp (c:UInt8) (s:List UInt8):(Z8 c s).length=s.count c+1:=by
 induction s with
 | nil=>rfl
 | cons x r ih=>
  simp only[Z8];by_cases h:x=c
  ·rw[Kh h];simp[ih,h]
  ·rw[Kd h];cases hs:Z8 c r with
   | nil=>exact absurd hs (ZcZ c r)
   | cons p q=>
    rw[hs] at ih;simp only[Ko] at ih ⊢;rw[List.count_cons_of_ne (fun e=>h e)];exact ih
theorem Zw1 (ws:List (List UInt8)):ZjA (ws.map .str)=some ws:=by
 induction ws with
 | nil=>rfl
 | cons x r ih=>simp only[Kk,ZjA,ih];rfl
theorem Zqb (c:UInt8):∀ ws:List (List UInt8),Lib.join ws [c]=Yb c ws
 | []=>rfl
 | [x]=>Lib.join_one x [c]
 | x :: y :: r=>by
  have ih:=Zqb c (y :: r);unfold Lib.join at ih ⊢;simp only[Yb,← ih,List.intercalate,List.intersperse,KM,KN,List.singleton_append,Kv,Lg]
theorem Zhd (ws:List (List UInt8)) (c:UInt8) (h0:0<ws.length) (h1:ws.length≤1000) (h2:(Yb c ws).length≤1000000):Ze Xs Ms XU [.d (.sl (ws.map .str)),.d (.str [c])] []=some (.d (.str (Yb c ws)),[]):=by
 refine We Xs Ms ZqT ?_;unfold Zsh;simp only;rw[Zw1];simp only[Zg];rw[Kh ⟨h0,by unfold Zco;omega,by rw[Zqb];unfold Zco;omega⟩,Zqb]
theorem Zvj (s:List UInt8) (c:UInt8):Ze Xs Ms ZN [.d (.str s),.d (.str [c])] []=some ((.d (J (Zzl c s))),[]):=by
 refine We Xs Ms Zb9 ?_;unfold Zyt;simp only;rw[ZAx]
theorem Znq (s:List UInt8) (c:UInt8):Ze Xs Ms Wj [.d (.str s),.d (.str [c])] []=some ((.d (J (Zzl c s))),[]):=by
 have e1:=Zvj s c;refine cE ?_;simp +contextual -implicitDefEqProofs (maxSteps:=10^7) only[go_sem,seval,↓gZ,Zce,e1]
theorem Znr (s:List UInt8) (c:UInt8):Ze Xs Ms Ya [.d (.str s),.d (.str [c])] []=some ((.d (J ((s.count c:Nat)))),[]):=by
 refine We Xs Ms ZpM ?_;unfold Zyu;simp only[Lib.countByte]
theorem Cut_ev (s:List UInt8) (c:UInt8) (hs:s.length≤1000000):Ze Xs Ms QD [.d (.str s),.d (.str [c])] []=some (.tup (match QI c s with | none=>[.d (.str s),.d (.str []),(.d (.bool false))] | some i=>[.d (.str (s.take i)),.d (.str (s.drop (i+1))),(.d (.bool true))]),[]):=by
 have e1:=Zvj s c;unfold Zzl at e1;cases h:QI c s with
 | none=>
  rw[h] at e1;refine cE ?_;simp +contextual -implicitDefEqProofs (maxSteps:=10^7) only[go_sem,seval,↓gZ,Xf,e1]
 | some i=>
  obtain⟨_,_,hi⟩:=ZbL h;rw[h] at e1;simp only at e1;have w:=Zj (k:=i) (by omega);have h1:((i+1:Nat):Int)≤(s.length:Int):=by omega
  have h2:(i:Int)≤(s.length:Int):=by omega
  refine cE ?_;simp +contextual -implicitDefEqProofs (maxSteps:=10^7) only[go_sem,seval,↓gZ,Xf,e1,w,h1,h2,ZlM,Lg,KU,KY]
theorem Zc7 (s:List UInt8) (c:UInt8) (hs:s.length≤1000000):Ze Xs Ms Yh [.d (.str s),.d (.str [c])] []=some (.tup (match QI c s with | none=>[.d (.str s),.d (.str []),(.d (.bool false))] | some i=>[.d (.str (s.take i)),.d (.str (s.drop (i+1))),(.d (.bool true))]),[]):=by
 have e1:=Cut_ev s c hs;cases h:QI c s with
 | none=>
  rw[h] at e1;refine cE ?_;simp +contextual -implicitDefEqProofs (maxSteps:=10^7) only[go_sem,seval,↓gZ,ZbB,e1]
 | some i=>
  rw[h] at e1;refine cE ?_;simp +contextual -implicitDefEqProofs (maxSteps:=10^7) only[go_sem,seval,↓gZ,ZbB,e1]
theorem Zyw (done:List (List UInt8)) (x y:D) (r:List D):(done.map D.str++x :: r).set done.length y=done.map D.str++y :: r:=by
 have h:=List.set_append_right (s:=done.map D.str) (t:=x :: r) (i:=done.length) y (by simp);rw[h];simp
theorem Zyx (done:List (List UInt8)) (x:D) (r:List D):(done.map D.str++x :: r)[done.length]?=some x:=by
 rw[K8 (by simp)];simp
theorem Zow (a b:List UInt8):ZgK (.str a) 0 [.str b]=.str b:=rfl
theorem ZsZ (a:List UInt8):(D.str a).notSl=true:=rfl
theorem Zs0 (a:List UInt8):(D.str a).cells=[.str a]:=rfl
theorem Zvk (s:List UInt8) (c:UInt8) (hs:s.length≤1000000):Ze Xs Ms Yu [.d (.str s),.d (.str [c]),(.d (J 0)),(.d (J (-1)))] []=some (.ownv 0 0 (Z8 c s).length,[.row 1 ((Z8 c s).map .str) true false]):=by
 have e1:=Znr s c;have ai:s.count c≤s.length:=List.count_le_length;have w1:=Zj (k:=s.count c) (by omega);have w2:=Zj (k:=s.length) (by omega);have ab:=Znp c s;obtain⟨n,hn⟩:∃ n,s.count c=n:=⟨_,rfl⟩
 rw[hn] at e1 w1 ab ai;have aj:(([c]:List UInt8)==[])=false:=rfl;have ae:min ((n+1:Nat):Int) ((s.length+1:Nat):Int)=((n+1:Nat):Int):=by omega
 have w3:IntKind.i64.wrap (((n+1:Nat):Int)-1)=(n:Int):=by rw[show ((n+1:Nat):Int)-1=n by omega];exact wi _ (by omega) (by omega)
 have ak:((n+1:Nat):Int)*16≤140737488355328∧((n+1:Nat):Int)≤140737488355328:=by omega
 refine cE ?_;simp +contextual -implicitDefEqProofs (maxSteps:=10^7) only[go_sem,seval,↓gZ,JJ,e1,w1,w2,aj,ae,w3,ak];refine LO (α:=List (List UInt8)×List UInt8) (fun a=>[(10,.d (J (a.1.length:Nat))),(0,.d (.str a.2))]) (fun a=>[(0,.row 1 (a.1.map .str++List.replicate (n+1-a.1.length) (.str [])) true false)]) (fun a=>Z8 c s=a.1++Z8 c a.2∧a.2.length≤s.length) (fun a=>n-a.1.length) ([],s) ⟨rfl,Kt _⟩ ?_;intro⟨done,rest⟩ ⟨hp,hr⟩ ih;simp only at hp hr ih ⊢;have af:=Znp c rest;have al:=congrArg List.length hp;rw[ab,Kp,af] at al;by_cases an:done.length<n
 ·have ag : (done.length:Int)<(n:Int):=by omega
  have e2:=Znq rest c;unfold Zzl at e2;have aa:List.replicate (n+1-done.length) (D.str [])=D.str [] :: List.replicate (n-done.length) (D.str []):=by rw[show n+1-done.length=(n-done.length)+1 by omega];rfl
  rw[aa];cases hi:QI c rest with
  | none=>
   have:=Zdh (Zih.1 hi);rw[this] at af;simp at af;omega
  | some m=>
   obtain⟨_,_,hm⟩:=ZbL hi;rw[hi] at e2;simp only at e2;have w:=Zj (k:=m) (by omega);have w':=Zj (k:=done.length) (by omega);have w0:=wi (m:Int) (by omega) (by omega);have h1:((m+1:Nat):Int)≤(rest.length:Int):=by omega
   have h2:(m:Int)≤(rest.length:Int):=by omega
   have h3:¬(m:Int)<0:=by omega
   have h4:done.length<done.length+(n-done.length+1):=by omega
   have ah:=Zc0 c rest;rw[hi] at ah;simp only at ah;simp +contextual -implicitDefEqProofs (maxSteps:=10^7) only[go_sem,seval,↓gZ,ag,e2,w,w',w0,h1,h2,h3,h4,Zyw,Zyx,Zow,ZsZ,Zs0,Ko,KL,K5,and_self,Km,Zg,Int.add_zero,KY,List.length_replicate];refine ih (done++[rest.take m],rest.drop (m+1)) _ ⟨?_,?_⟩ (by simp;omega) ?_
   ·simp only[KN,List.singleton_append];rw[← ah];exact hp
   ·simp;omega
   ·have ad:n+1-(done.length+1)=n-done.length:=by omega
    simp +contextual -implicitDefEqProofs (maxSteps:=10^7) only[go_sem,seval,↓gZ,Kp,Lc,KN,ad]
 ·have hi:done.length=n:=by omega
  have am:Z8 c rest=[rest]:=by
   cases hi2:QI c rest with
   | none=>exact Zdh (Zih.1 hi2)
   | some m=>
    obtain⟨h1,_,hm⟩:=ZbL hi2;have:c∈rest:=by rw[h1];simp
    have:=List.count_pos_iff.2 this;omega
  rw[am] at hp;subst hi;have w':=Zj (k:=done.length) (by omega);have aa:done.length+1-done.length=1:=by omega
  have h5:done.length<done.length+1:=by omega
  have h6:((done.length+1:Nat):Int)≤((done.length+1:Nat):Int):=Int.le_refl _;simp +contextual -implicitDefEqProofs (maxSteps:=10^7) only[go_sem,seval,↓gZ,aa,w',h5,h6,List.replicate_one,Zyw,Zyx,Zow,ZsZ,Zs0,Ko,KL,K5,and_self,Km,Zg];rw[hp];simp
theorem Zfa (s:List UInt8) (c:UInt8) (hs:s.length≤1000000):Ze Xs Ms YN [.d (.str s),.d (.str [c])] []=some (.ownv 0 0 (Z8 c s).length,[.row 1 ((Z8 c s).map .str) true false]):=by
 have e1:=Zvk s c hs;refine cE ?_;simp +contextual -implicitDefEqProofs (maxSteps:=10^7) only[go_sem,seval,↓gZ,Zcc,e1]
def Zcq:List (List UInt8)→Option (List Int)
 | []=>some []
 | w :: r=>(rd w).bind fun v=>(Zcq r).bind fun vs=>some ((v:Int) :: vs)
def rnV (o:Option (List Int)):AV×List Zm:=match o with
 | none=>(.tup [.own 0,(.d (.bool false))],[.row 1 [] true false])
 | some vs=>(.tup [.own 0,(.d (.bool true))],[.row 1 (vs.map YI) true false])
theorem ZAy {ws:List (List UInt8)} {k:Nat} {x:List UInt8} (hx:ws[k]?=some x):Zcq (ws.drop k)=(rd x).bind fun v=>(Zcq (ws.drop (k+1))).bind fun vs=>some ((v:Int) :: vs):=by
 obtain⟨h1,h2⟩:=Kb.1 hx;rw[Kx h1,h2,Zcq]
theorem Zfb (ws:List (List UInt8)) (hw:ws.length≤2000000):Ze Xs Ms YM [.d (.sl (ws.map .str))] []=some (rnV (Zcq ws)):=by
 refine cE ?_;simp +contextual -implicitDefEqProofs (maxSteps:=10^7) only[go_sem,seval,↓gZ,Zcb];refine LO (α:=Nat×List Int) (fun a=>[(11,.d (J (a.1:Int)))]) (fun a=>[(0,.row 1 (a.2.map YI) true false)]) (fun a=>a.1≤ws.length∧a.2.length≤a.1∧Zcq ws=(Zcq (ws.drop a.1)).map fun r=>a.2++r) (fun a=>ws.length-a.1) (0,[]) ⟨by simp,by simp,by simp⟩ ?_;intro⟨k,vs⟩ ⟨hk,hv,hp⟩ ih;simp only at hk hv hp ih ⊢;by_cases ad:k<ws.length
 ·obtain⟨x,hx⟩:=Zq ad;have aa : (k:Int)<(ws.length:Int):=by omega
  have w:=Zj (k:=k) (by omega);have e1:=Jx x;rw[ZAy hx] at hp;have ab:(vs.length+1)*8≤140737488355328∧vs.length+1≤140737488355328:=by omega
  have ae:(ws.map D.str)[k]?=some (.str x):=by rw[KX,hx];rfl
  cases hr:rd x with
  | none=>
   rw[hr] at e1 hp;simp only[Zgi] at e1;simp only[LM,Option.map_none] at hp;rw[hp];simp +contextual -implicitDefEqProofs (maxSteps:=10^7) only[go_sem,seval,↓gZ,aa,ad,ae,hx,w,e1,rnV]
  | some v=>
   rw[hr] at e1 hp;simp only[Zgi] at e1;simp +contextual -implicitDefEqProofs (maxSteps:=10^7) only[go_sem,seval,↓gZ,aa,ad,ae,hx,w,e1,ab];refine ih (k+1,vs++[(v:Int)]) _ ⟨by omega,by simp;omega,?_⟩ (by omega) ?_
   ·rw[hp];cases Zcq (ws.drop (k+1))<;>simp
   ·simp +contextual -implicitDefEqProofs (maxSteps:=10^7) only[go_sem,seval,↓gZ,YI,Lc,Kk,Kw]
 ·have:k=ws.length:=by omega
  subst this;simp only[List.drop_length,Zcq,KJ,KU] at hp;rw[hp];simp +contextual -implicitDefEqProofs (maxSteps:=10^7) only[go_sem,seval,↓gZ,rnV]
def rlV (o:Option Zc):AV:=match o with
 | none=>.tup [.d (.agg [J 0,J 0,.bool false,J 0,J 0]),(.d (.bool false))]
 | some l=>.tup [.d l.enc,(.d (.bool true))]
theorem Zsk (s:List UInt8) (hs:s.length≤1000000):Ze Xs Ms Us [.d (.str s)] []=some (rlV (ZhW (Z8 32 s)),[]):=by
 have e1:=Zfa s 32 hs;generalize Z8 32 s=ws at e1;by_cases h5:ws.length=5
 ·obtain⟨a,b,c,t,k,rfl⟩:∃ a b c t k,ws=[a,b,c,t,k]:=by
   match ws,h5 with
   | [a,b,c,t,k],_=>exact⟨a,b,c,t,k,rfl⟩
  simp only[Kk,Kw,Ko,KL,K5,Nat.reduceAdd] at e1;have ad:∀ tb:Bool,t=Zcp tb→Ze Xs Ms Us [.d (.str s)] []=some (rlV (ZhW [a,b,c,t,k]),[]):=by
   intro tb ht;have e2:=Zfb [a,b,c,k] (by simp);simp only[Kk,Kw] at e2;have ae:=Zvg tb;rw[← ht] at ae;have aa:=ZsX tb;rw[← ht] at aa;have af:ZhW [a,b,c,t,k]=match Zcq [a,b,c,k] with
     | some [a,b,c,k]=>some ⟨⟨b,c,tb,k⟩,a⟩
     | _=>none:=by
    simp only[ZhW,Kh ae,Zcq,aa];cases rd a<;>cases rd b<;>cases rd c<;>cases rd k<;>rfl
   rw[af];have h4:∀ vs,Zcq [a,b,c,k]=some vs→∃ x y z u:Int,vs=[x,y,z,u]:=by
    intro vs h;simp only[Zcq,KQ,Option.some.injEq] at h;obtain⟨x,_,_,⟨y,_,_,⟨z,_,_,⟨u,_,_,h1,rfl⟩,rfl⟩,rfl⟩,rfl⟩:=h;subst h1;exact⟨_,_,_,_,rfl⟩
   have q1:(t==[116,117,114,110,115])=tb:=by
    rw[ht];cases tb<;>rfl
   have q2:(t==[102,105,120,101,100])=!tb:=by
    rw[ht];cases tb<;>rfl
   cases hr:Zcq [a,b,c,k] with
   | none=>
    rw[hr] at e2;simp only[rnV] at e2;refine cE ?_;cases tb with
    | true=>simp +contextual -implicitDefEqProofs (maxSteps:=10^7) only[go_sem,seval,↓gZ,YW,e1,e2,q1,q2,rlV,Bool.not_true]
    | false=>simp +contextual -implicitDefEqProofs (maxSteps:=10^7) only[go_sem,seval,↓gZ,YW,e1,e2,q1,q2,rlV,Bool.not_false]
   | some vs=>
    obtain⟨x,y,z,u,rfl⟩:=h4 vs hr;rw[hr] at e2;simp only[rnV,Kk,Kw,YI] at e2;refine cE ?_;cases tb with
    | true=>simp +contextual -implicitDefEqProofs (maxSteps:=10^7) only[go_sem,seval,↓gZ,YW,e1,e2,q1,q2,rlV,Bool.not_true,Zc.enc]
    | false=>simp +contextual -implicitDefEqProofs (maxSteps:=10^7) only[go_sem,seval,↓gZ,YW,e1,e2,q1,q2,rlV,Bool.not_false,Zc.enc]
  by_cases t1:t=Zb5
  ·exact ad true t1
  by_cases t2:t=Zf4
  ·exact ad false t2
  ·have ab:ZhW [a,b,c,t,k]=none:=by
    simp only[ZhW];rw[Kd (fun h=>h.elim t1 t2)]
   rw[ab];have q1:(t==[116,117,114,110,115])=false:=by simpa [Zb5] using t1
   have q2:(t==[102,105,120,101,100])=false:=by simpa [Zf4] using t2
   refine cE ?_;simp +contextual -implicitDefEqProofs (maxSteps:=10^7) only[go_sem,seval,↓gZ,YW,e1,q1,q2,rlV]
 ·have ab:ZhW ws=none:=by
   unfold ZhW;split
   ·exact absurd rfl h5
   ·rfl
  rw[ab];have ag : ¬(ws.length:Int)=5:=by omega
  refine cE ?_;simp +contextual -implicitDefEqProofs (maxSteps:=10^7) only[go_sem,seval,↓gZ,YW,e1,ag,rlV]
theorem Zd3 (l:Zc) (h:Zp8 l):(Yb 32 (Xq l)).length≤40:=by
 obtain⟨⟨w,h',t,k⟩,c⟩:=l;obtain⟨h1,h2,h3,h4⟩:=h;simp only[six] at h1 h2 h3 h4;have l1:=YC 5 c.toNat (by omega);have l2:=YC 5 w.toNat (by omega);have l3:=YC 5 h'.toNat (by omega);have l4:=YC 5 k.toNat (by omega);have l5:(Zcp t).length=5:=by cases t<;>rfl
 simp only[Xq,Yb,Kp,Ko];omega
theorem Zsl (lW lH:Int) (lT:Bool) (lK lC:Int) (h:Zp8 (Zc.mk (Pane.mk lW lH lT lK) lC)):Ze Xs Ms Ut [(.d (.agg [J lW,J lH,.bool lT,J lK,J lC]))] []=some (.d (.str (Za7 (Zc.mk (Pane.mk lW lH lT lK) lC))),[]):=by
 have hw:=Zd3 (Zc.mk (Pane.mk lW lH lT lK) lC) h;obtain⟨h1,h2,h3,h4⟩:=h;simp only[six] at h1 h2 h3 h4;have e1:=X9 lC h1.1 (by omega);have e2:=X9 lW h2.1 (by omega);have e3:=X9 lH h3.1 (by omega);have e4:=X9 lK h4.1 (by omega);have e5:=Zhd (Xq (Zc.mk (Pane.mk lW lH lT lK) lC)) 32 (by simp[Xq]) (by simp[Xq]) (by omega);simp only[Xq,Kk,Kw] at e5;unfold Za7;simp only[Xq];refine cE ?_;cases lT with
 | true=>
  simp only[Zcp,Zb5,Km] at e5 ⊢;simp +contextual -implicitDefEqProofs (maxSteps:=10^7) only[go_sem,seval,↓gZ,ZcH,e1,e2,e3,e4,e5]
 | false=>
  simp only[Zcp,Zf4,Ka,Kq] at e5 ⊢;simp +contextual -implicitDefEqProofs (maxSteps:=10^7) only[go_sem,seval,↓gZ,ZcH,e1,e2,e3,e4,e5]
theorem Zsm (lW lH:Int) (lT:Bool) (lK lC:Int) (h:Zp8 (Zc.mk (Pane.mk lW lH lT lK) lC)):Ze Xs Ms Zal [(.d (.agg [J lW,J lH,.bool lT,J lK,J lC]))] []=some (.d (.str (Za7 (Zc.mk (Pane.mk lW lH lT lK) lC))),[]):=by
 have hw:=Zd3 (Zc.mk (Pane.mk lW lH lT lK) lC) h;obtain⟨h1,h2,h3,h4⟩:=h;simp only[six] at h1 h2 h3 h4;have e1:=W0 lC.toNat (by omega);have e2:=W0 lW.toNat (by omega);have e3:=W0 lH.toNat (by omega);have e4:=W0 lK.toNat (by omega);rw[Ld (by omega)] at e1 e2 e3 e4;have l1:=YC 5 lC.toNat (by omega);have l2:=YC 5 lW.toNat (by omega);have l3:=YC 5 lH.toNat (by omega);have l4:=YC 5 lK.toNat (by omega);unfold Za7;simp only[Xq,Yb];generalize num lC.toNat=a at *;generalize num lW.toNat=b at *;generalize num lH.toNat=c at *;generalize num lK.toNat=d at *;have b1:a.length+1≤1152921504606846976:=by omega
 have b2:a.length+1+b.length≤1152921504606846976:=by omega
 have b3:a.length+1+b.length+1≤1152921504606846976:=by omega
 have b4:a.length+1+b.length+1+c.length≤1152921504606846976:=by omega
 have b5:a.length+1+b.length+1+c.length+1≤1152921504606846976:=by omega
 have b6:a.length+1+b.length+1+c.length+1+5≤1152921504606846976:=by omega
 have b7:a.length+1+b.length+1+c.length+1+5+1≤1152921504606846976:=by omega
 have b8:a.length+1+b.length+1+c.length+1+5+1+d.length≤1152921504606846976:=by omega
 refine cE ?_;cases lT with
 | true=>
  simp only[Zcp,Zb5,Km];simp +contextual -implicitDefEqProofs (maxSteps:=10^7) only[go_sem,seval,↓gZ,ZcI,e1,e2,e3,e4,b1,b2,b3,b4,b5,b6,b7,b8];simp only[KN,Kv,Lg]
 | false=>
  simp only[Zcp,Zf4,Ka,Kq];simp +contextual -implicitDefEqProofs (maxSteps:=10^7) only[go_sem,seval,↓gZ,ZcI,e1,e2,e3,e4,b1,b2,b3,b4,b5,b6,b7,b8];simp only[KN,Kv,Lg]
end Go.Proofs.YtcefneehgbiebaaGreatDoor
