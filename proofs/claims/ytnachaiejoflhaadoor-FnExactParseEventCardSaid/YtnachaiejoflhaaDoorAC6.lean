/- Own text. -/
import Derived.Test.YtnachaiejoflhaaDoorACode
import Derived.Test.YtnachaiejoflhaaDoorAbsParts
import Derived.Test.YtnachaiejoflhaaDoorAC5
import Derived.Test.YtnachaiejoflhaaDoorAbsOkD
namespace Go.Proofs.YtnachaiejoflhaaDoor
open Go Go.Abs Go.Abs.E Go.Abs.L
open Nat (reduceMul reduceSub reduceLeDiff reduceEqDiff)
open Int (reduceLE reduceEq reduceToNat reduceNeg)
set_option linter.unusedSimpArgs false
set_option linter.unusedVariables false
set_option maxRecDepth 20000
set_option maxHeartbeats 4000000
def VG:List UInt8:=[116,117,114,110,115]
def UL:List UInt8:=[102,105,120,101,100]
def Jn (t:Bool):List UInt8:=if t then VG else UL
def Yy (l:QG):List (List UInt8):=[num l.Count.toNat,num l.Pane.W.toNat,num l.Pane.H.toNat,Jn l.Pane.Turns,num l.Pane.Kind.toNat]
def Zc5 (l:QG):List UInt8:=UK 32 (Yy l)
def six (n:Int):Prop:=0≤n∧n≤999999
instance (n:Int):Decidable (six n):=by unfold six;infer_instance
def ZlP (l:QG):Prop:=six l.Count∧six l.Pane.W∧six l.Pane.H∧six l.Pane.Kind
def JY:List (List UInt8)→Option QG
 | [a,b,c,t,k]=>if t=VG∨t=UL then (rd a).bind fun a=>(rd b).bind fun b=>(rd c).bind fun c=>(rd k).bind fun k=>some ⟨⟨b,c,decide (t=VG),k⟩,a⟩ else none
 | _=>none
theorem JA {c:UInt8} (hc:isD c=false) (n:Nat):c∉num n:=fun h=>by rw[ZgF n c h] at hc;cases hc
theorem Znl (t:Bool):(32:UInt8)∉Jn t:=by cases t<;>decide
theorem Zg7 (t:Bool):Jn t=VG∨Jn t=UL:=by cases t<;>simp[Jn]
theorem ZeL (t:Bool):decide (Jn t=VG)=t:=by cases t<;>decide
theorem ZqQ {w:List UInt8} (h:w=VG∨w=UL):Jn (decide (w=VG))=w:=by
 rcases h with rfl | rfl
 ·simp[Jn]
 ·have:¬UL=VG:=by decide
  simp[Jn,this]
theorem Zg8 (l:QG):∀ w∈Yy l,(32:UInt8)∉w:=by
 intro w hw;simp only[Yy,Ke,KH,or_false] at hw;rcases hw with rfl | rfl | rfl | rfl | rfl
 ·exact JA rfl _
 ·exact JA rfl _
 ·exact JA rfl _
 ·exact Znl _
 ·exact JA rfl _
theorem Zas {l:QG} (h:ZlP l):JY (Yy l)=some l:=by
 obtain⟨⟨w,h',t,k⟩,c⟩:=l;obtain⟨h1,h2,h3,h4⟩:=h;simp only[six] at h1 h2 h3 h4;have e1:((c.toNat:Nat):Int)=c:=by omega
 have e2:((w.toNat:Nat):Int)=w:=by omega
 have e3:((h'.toNat:Nat):Int)=h':=by omega
 have e4:((k.toNat:Nat):Int)=k:=by omega
 simp only[Yy,JY,Ko (Zg7 t),UJ (show c.toNat≤999999 by omega),UJ (show w.toNat≤999999 by omega),UJ (show h'.toNat≤999999 by omega),UJ (show k.toNat≤999999 by omega),KE,ZeL,e1,e2,e3,e4]
theorem Zjx {ws:List (List UInt8)} {l:QG} (h:JY ws=some l):ws=Yy l∧ZlP l:=by
 unfold JY at h;split at h
 ·rename_i a b c t k;split at h
  ·rename_i ht;simp only[KD] at h;obtain⟨n1,h1,n2,h2,n3,h3,n4,h4,h⟩:=h;cases h;obtain⟨r1,b1⟩:=Vy h1;obtain⟨r2,b2⟩:=Vy h2;obtain⟨r3,b3⟩:=Vy h3;obtain⟨r4,b4⟩:=Vy h4;refine⟨?_,?_,?_,?_,?_⟩
   ·simp only[Yy,Ln,ZqQ ht];rw[r1,r2,r3,r4]
   all_goals (simp only[six];omega)
  ·cases h
 ·cases h
def Zpt (c:UInt8) (s:List UInt8):Int:=match Q5 c s with
 | none=>-1
 | some i=>(i:Int)
theorem ZqR (c:UInt8) (s:List UInt8):Lib.indexByte s c=Zpt c s:=by
 unfold Zpt
 induction s with
 | nil=>rfl
 | cons x r ih=>
  simp only[Lib.indexByte,Q5,ih];by_cases h:x=c
  ·simp[h]
  ·rw[Kf h];cases Q5 c r with
   | none=>simp[h]
   | some i=>simp[h]<;>omega
theorem Zcd (c:UInt8) (s:List UInt8):(Zz c s).length=s.count c+1:=by
 induction s with
 | nil=>rfl
 | cons x r ih=>
  simp only[Zz];by_cases h:x=c
  ·rw[Ko h];simp[ih,h]
  ·rw[Kf h];cases hs:Zz c r with
   | nil=>exact absurd hs (UD c r)
   | cons p q=>
    rw[hs] at ih;simp only[Kn] at ih ⊢;rw[List.count_cons_of_ne (fun e=>h e)];exact ih
theorem ZlQ (s:List UInt8) (c:UInt8):Zj Xs Ms ZD [.d (.str s),.d (.str [c])] []=some ((.d (J (Zpt c s))),[]):=by
 refine ZiE Xs Ms W6 ?_;unfold Zqz;simp only;rw[ZqR]
theorem ZeM (s:List UInt8) (c:UInt8):Zj Xs Ms Yj [.d (.str s),.d (.str [c])] []=some ((.d (J (Zpt c s))),[]):=by
 have e1:=ZlQ s c;refine cE ?_;simp +contextual -implicitDefEqProofs (maxSteps:=10^7) only[go_sem,seval,↓gZ,W9,e1]
theorem ZeN (s:List UInt8) (c:UInt8):Zj Xs Ms XH [.d (.str s),.d (.str [c])] []=some ((.d (J ((s.count c:Nat)))),[]):=by
 refine ZiE Xs Ms Zgq ?_;unfold ZqA;simp only[Lib.countByte]
theorem Cut_ev (s:List UInt8) (c:UInt8) (hs:s.length≤1048576):Zj Xs Ms Qc [.d (.str s),.d (.str [c])] []=some (.tup (match Q5 c s with | none=>[.d (.str s),.d (.str []),(.d (.bool false))] | some i=>[.d (.str (s.take i)),.d (.str (s.drop (i+1))),(.d (.bool true))]),[]):=by
 have e1:=ZlQ s c;unfold Zpt at e1;cases h:Q5 c s with
 | none=>
  rw[h] at e1;refine cE ?_;simp +contextual -implicitDefEqProofs (maxSteps:=10^7) only[go_sem,seval,↓gZ,QJ,e1]
 | some i=>
  obtain⟨_,_,hi⟩:=JT h;rw[h] at e1;simp only at e1;have w:=ZY (k:=i) (by omega);have h1:((i+1:Nat):Int)≤(s.length:Int):=by omega
  have h2:(i:Int)≤(s.length:Int):=by omega
  refine cE ?_;simp +contextual -implicitDefEqProofs (maxSteps:=10^7) only[go_sem,seval,↓gZ,QJ,e1,w,h1,h2,ZmX,Lh,Lg,KR]
theorem Zbj (s:List UInt8) (c:UInt8) (hs:s.length≤1048576):Zj Xs Ms XS [.d (.str s),.d (.str [c])] []=some (.tup (match Q5 c s with | none=>[.d (.str s),.d (.str []),(.d (.bool false))] | some i=>[.d (.str (s.take i)),.d (.str (s.drop (i+1))),(.d (.bool true))]),[]):=by
 have e1:=Cut_ev s c hs;cases h:Q5 c s with
 | none=>
  rw[h] at e1;refine cE ?_;simp +contextual -implicitDefEqProofs (maxSteps:=10^7) only[go_sem,seval,↓gZ,WP,e1]
 | some i=>
  rw[h] at e1;refine cE ?_;simp +contextual -implicitDefEqProofs (maxSteps:=10^7) only[go_sem,seval,↓gZ,WP,e1]
theorem ZoA (done:List (List UInt8)) (x y:D) (r:List D):(done.map D.str++x :: r).set done.length y=done.map D.str++y :: r:=by
 have h:=List.set_append_right (s:=done.map D.str) (t:=x :: r) (i:=done.length) y (by simp);rw[h];simp
theorem ZoB (done:List (List UInt8)) (x:D) (r:List D):(done.map D.str++x :: r)[done.length]?=some x:=by
 rw[KA (by simp)];simp
theorem ZfF (a b:List UInt8):Yf (.str a) 0 [.str b]=.str b:=rfl
theorem Zjy (a:List UInt8):(D.str a).notSl=true:=rfl
theorem Zjz (a:List UInt8):(D.str a).cells=[.str a]:=rfl
theorem ZlR (s:List UInt8) (c:UInt8) (hs:s.length≤1048576):Zj Xs Ms Xu [.d (.str s),.d (.str [c]),(.d (J 0)),(.d (J (-1)))] []=some (.ownv 0 0 (Zz c s).length,[.row 1 ((Zz c s).map .str) true false]):=by
 have e1:=ZeN s c;have ai:s.count c≤s.length:=List.count_le_length;have w1:=ZY (k:=s.count c) (by omega);have w2:=ZY (k:=s.length) (by omega);have ab:=Zcd c s;obtain⟨n,hn⟩:∃ n,s.count c=n:=⟨_,rfl⟩
 rw[hn] at e1 w1 ab ai;have aj:(([c]:List UInt8)==[])=false:=rfl;have ae:min ((n+1:Nat):Int) ((s.length+1:Nat):Int)=((n+1:Nat):Int):=by omega
 have w3:IntKind.i64.wrap (((n+1:Nat):Int)-1)=(n:Int):=by rw[show ((n+1:Nat):Int)-1=n by omega];exact wi _ (by omega) (by omega)
 have ak:((n+1:Nat):Int)*16≤140737488355328∧((n+1:Nat):Int)≤140737488355328:=by omega
 refine cE ?_;simp +contextual -implicitDefEqProofs (maxSteps:=10^7) only[go_sem,seval,↓gZ,VI,e1,w1,w2,aj,ae,w3,ak];refine LO (α:=List (List UInt8)×List UInt8) (fun a=>[(10,.d (J (a.1.length:Nat))),(0,.d (.str a.2))]) (fun a=>[(0,.row 1 (a.1.map .str++List.replicate (n+1-a.1.length) (.str [])) true false)]) (fun a=>Zz c s=a.1++Zz c a.2∧a.2.length≤s.length) (fun a=>n-a.1.length) ([],s) ⟨rfl,Kg _⟩ ?_;intro⟨done,rest⟩ ⟨hp,hr⟩ ih;simp only at hp hr ih ⊢;have af:=Zcd c rest;have al:=congrArg List.length hp;rw[ab,Kt,af] at al;by_cases an:done.length<n
 ·have ag : (done.length:Int)<(n:Int):=by omega
  have e2:=ZeM rest c;unfold Zpt at e2;have aa:List.replicate (n+1-done.length) (D.str [])=D.str [] :: List.replicate (n-done.length) (D.str []):=by rw[show n+1-done.length=(n-done.length)+1 by omega];rfl
  rw[aa];cases hi:Q5 c rest with
  | none=>
   have:=Wy (ZdM.1 hi);rw[this] at af;simp at af;omega
  | some m=>
   obtain⟨_,_,hm⟩:=JT hi;rw[hi] at e2;simp only at e2;have w:=ZY (k:=m) (by omega);have w':=ZY (k:=done.length) (by omega);have w0:=wi (m:Int) (by omega) (by omega);have h1:((m+1:Nat):Int)≤(rest.length:Int):=by omega
   have h2:(m:Int)≤(rest.length:Int):=by omega
   have h3:¬(m:Int)<0:=by omega
   have h4:done.length<done.length+(n-done.length+1):=by omega
   have ah:=Zca c rest;rw[hi] at ah;simp only at ah;simp +contextual -implicitDefEqProofs (maxSteps:=10^7) only[go_sem,seval,↓gZ,ag,e2,w,w',w0,h1,h2,h3,h4,ZoA,ZoB,ZfF,Zjy,Zjz,Kn,Lo,Lw,and_self,Kk,Zc,Int.add_zero,KR,List.length_replicate];refine ih (done++[rest.take m],rest.drop (m+1)) _ ⟨?_,?_⟩ (by simp;omega) ?_
   ·simp only[KT,List.singleton_append];rw[← ah];exact hp
   ·simp;omega
   ·have ad:n+1-(done.length+1)=n-done.length:=by omega
    simp +contextual -implicitDefEqProofs (maxSteps:=10^7) only[go_sem,seval,↓gZ,Kt,Li,KT,ad]
 ·have hi:done.length=n:=by omega
  have am:Zz c rest=[rest]:=by
   cases hi2:Q5 c rest with
   | none=>exact Wy (ZdM.1 hi2)
   | some m=>
    obtain⟨h1,_,hm⟩:=JT hi2;have:c∈rest:=by rw[h1];simp
    have:=KM.2 this;omega
  rw[am] at hp;subst hi;have w':=ZY (k:=done.length) (by omega);have aa:done.length+1-done.length=1:=by omega
  have h5:done.length<done.length+1:=by omega
  have h6:((done.length+1:Nat):Int)≤((done.length+1:Nat):Int):=Int.le_refl _;simp +contextual -implicitDefEqProofs (maxSteps:=10^7) only[go_sem,seval,↓gZ,aa,w',h5,h6,List.replicate_one,ZoA,ZoB,ZfF,Zjy,Zjz,Kn,Lo,Lw,and_self,Kk,Zc];rw[hp];simp
theorem JZ (s:List UInt8) (c:UInt8) (hs:s.length≤1048576):Zj Xs Ms XG [.d (.str s),.d (.str [c])] []=some (.ownv 0 0 (Zz c s).length,[.row 1 ((Zz c s).map .str) true false]):=by
 have e1:=ZlR s c hs;refine cE ?_;simp +contextual -implicitDefEqProofs (maxSteps:=10^7) only[go_sem,seval,↓gZ,W8,e1]
def Xp:List (List UInt8)→Option (List Int)
 | []=>some []
 | w :: r=>(rd w).bind fun v=>(Xp r).bind fun vs=>some ((v:Int) :: vs)
def rnV (o:Option (List Int)):AV×List Zf:=match o with
 | none=>(.tup [.own 0,(.d (.bool false))],[.row 1 [] true false])
 | some vs=>(.tup [.own 0,(.d (.bool true))],[.row 1 (vs.map U0) true false])
theorem ZlS {ws:List (List UInt8)} {k:Nat} {x:List UInt8} (hx:ws[k]?=some x):Xp (ws.drop k)=(rd x).bind fun v=>(Xp (ws.drop (k+1))).bind fun vs=>some ((v:Int) :: vs):=by
 obtain⟨h1,h2⟩:=Kc.1 hx;rw[K9 h1,h2,Xp]
theorem J0 (ws:List (List UInt8)) (hw:ws.length≤2000000):Zj Xs Ms XF [.d (.sl (ws.map .str))] []=some (rnV (Xp ws)):=by
 refine cE ?_;simp +contextual -implicitDefEqProofs (maxSteps:=10^7) only[go_sem,seval,↓gZ,W7];refine LO (α:=Nat×List Int) (fun a=>[(11,.d (J (a.1:Int)))]) (fun a=>[(0,.row 1 (a.2.map U0) true false)]) (fun a=>a.1≤ws.length∧a.2.length≤a.1∧Xp ws=(Xp (ws.drop a.1)).map fun r=>a.2++r) (fun a=>ws.length-a.1) (0,[]) ⟨by simp,by simp,by simp⟩ ?_;intro⟨k,vs⟩ ⟨hk,hv,hp⟩ ih;simp only at hk hv hp ih ⊢;by_cases ad:k<ws.length
 ·obtain⟨x,hx⟩:=JJ ad;have aa : (k:Int)<(ws.length:Int):=by omega
  have w:=ZY (k:=k) (by omega);have e1:=Vz x;rw[ZlS hx] at hp;have ab:(vs.length+1)*8≤140737488355328∧vs.length+1≤140737488355328:=by omega
  have ae:(ws.map D.str)[k]?=some (.str x):=by rw[K3,hx];rfl
  cases hr:rd x with
  | none=>
   rw[hr] at e1 hp;simp only[Zaq] at e1;simp only[Lq,Option.map_none] at hp;rw[hp];simp +contextual -implicitDefEqProofs (maxSteps:=10^7) only[go_sem,seval,↓gZ,aa,ad,ae,hx,w,e1,rnV]
  | some v=>
   rw[hr] at e1 hp;simp only[Zaq] at e1;simp +contextual -implicitDefEqProofs (maxSteps:=10^7) only[go_sem,seval,↓gZ,aa,ad,ae,hx,w,e1,ab];refine ih (k+1,vs++[(v:Int)]) _ ⟨by omega,by simp;omega,?_⟩ (by omega) ?_
   ·rw[hp];cases Xp (ws.drop (k+1))<;>simp
   ·simp +contextual -implicitDefEqProofs (maxSteps:=10^7) only[go_sem,seval,↓gZ,U0,Li,Kl,Kv]
 ·have:k=ws.length:=by omega
  subst this;simp only[List.drop_length,Xp,KN,Lg] at hp;rw[hp];simp +contextual -implicitDefEqProofs (maxSteps:=10^7) only[go_sem,seval,↓gZ,rnV]
def rlV (o:Option QG):AV:=match o with
 | none=>.tup [.d (.agg [J 0,J 0,.bool false,J 0,J 0]),(.d (.bool false))]
 | some l=>.tup [.d l.enc,(.d (.bool true))]
theorem Zi7 (s:List UInt8) (hs:s.length≤1048576):Zj Xs Ms Y5 [.d (.str s)] []=some (rlV (JY (Zz 32 s)),[]):=by
 have e1:=JZ s 32 hs;generalize Zz 32 s=ws at e1;by_cases h5:ws.length=5
 ·obtain⟨a,b,c,t,k,rfl⟩:∃ a b c t k,ws=[a,b,c,t,k]:=by
   match ws,h5 with
   | [a,b,c,t,k],_=>exact⟨a,b,c,t,k,rfl⟩
  simp only[Kl,Kv,Kn,Lo,Lw,Nat.reduceAdd] at e1;have ad:∀ tb:Bool,t=Jn tb→Zj Xs Ms Y5 [.d (.str s)] []=some (rlV (JY [a,b,c,t,k]),[]):=by
   intro tb ht;have e2:=J0 [a,b,c,k] (by simp);simp only[Kl,Kv] at e2;have ae:=Zg7 tb;rw[← ht] at ae;have aa:=ZeL tb;rw[← ht] at aa;have af:JY [a,b,c,t,k]=match Xp [a,b,c,k] with
     | some [a,b,c,k]=>some ⟨⟨b,c,tb,k⟩,a⟩
     | _=>none:=by
    simp only[JY,Ko ae,Xp,aa];cases rd a<;>cases rd b<;>cases rd c<;>cases rd k<;>rfl
   rw[af];have h4:∀ vs,Xp [a,b,c,k]=some vs→∃ x y z u:Int,vs=[x,y,z,u]:=by
    intro vs h;simp only[Xp,KD,Option.some.injEq] at h;obtain⟨x,_,_,⟨y,_,_,⟨z,_,_,⟨u,_,_,h1,rfl⟩,rfl⟩,rfl⟩,rfl⟩:=h;subst h1;exact⟨_,_,_,_,rfl⟩
   have q1:(t==[116,117,114,110,115])=tb:=by
    rw[ht];cases tb<;>rfl
   have q2:(t==[102,105,120,101,100])=!tb:=by
    rw[ht];cases tb<;>rfl
   cases hr:Xp [a,b,c,k] with
   | none=>
    rw[hr] at e2;simp only[rnV] at e2;refine cE ?_;cases tb with
    | true=>simp +contextual -implicitDefEqProofs (maxSteps:=10^7) only[go_sem,seval,↓gZ,XN,e1,e2,q1,q2,rlV,Bool.not_true]
    | false=>simp +contextual -implicitDefEqProofs (maxSteps:=10^7) only[go_sem,seval,↓gZ,XN,e1,e2,q1,q2,rlV,LY]
   | some vs=>
    obtain⟨x,y,z,u,rfl⟩:=h4 vs hr;rw[hr] at e2;simp only[rnV,Kl,Kv,U0] at e2;refine cE ?_;cases tb with
    | true=>simp +contextual -implicitDefEqProofs (maxSteps:=10^7) only[go_sem,seval,↓gZ,XN,e1,e2,q1,q2,rlV,Bool.not_true,QG.enc]
    | false=>simp +contextual -implicitDefEqProofs (maxSteps:=10^7) only[go_sem,seval,↓gZ,XN,e1,e2,q1,q2,rlV,LY,QG.enc]
  by_cases t1:t=VG
  ·exact ad true t1
  by_cases t2:t=UL
  ·exact ad false t2
  ·have ab:JY [a,b,c,t,k]=none:=by
    simp only[JY];rw[Kf (fun h=>h.elim t1 t2)]
   rw[ab];have q1:(t==[116,117,114,110,115])=false:=by simpa [VG] using t1
   have q2:(t==[102,105,120,101,100])=false:=by simpa [UL] using t2
   refine cE ?_;simp +contextual -implicitDefEqProofs (maxSteps:=10^7) only[go_sem,seval,↓gZ,XN,e1,q1,q2,rlV]
 ·have ab:JY ws=none:=by
   unfold JY;split
   ·exact absurd rfl h5
   ·rfl
  rw[ab];have ag : ¬(ws.length:Int)=5:=by omega
  refine cE ?_;simp +contextual -implicitDefEqProofs (maxSteps:=10^7) only[go_sem,seval,↓gZ,XN,e1,ag,rlV]
theorem ZfG (l:QG) (h:ZlP l):(UK 32 (Yy l)).length≤40:=by
 obtain⟨⟨w,h',t,k⟩,c⟩:=l;obtain⟨h1,h2,h3,h4⟩:=h;simp only[six] at h1 h2 h3 h4;have l1:=XK 5 c.toNat (by omega);have l2:=XK 5 w.toNat (by omega);have l3:=XK 5 h'.toNat (by omega);have l4:=XK 5 k.toNat (by omega);have l5:(Jn t).length=5:=by cases t<;>rfl
 simp only[Yy,UK,Kt,Kn];omega
theorem Zi8 (lW lH:Int) (lT:Bool) (lK lC:Int) (h:ZlP (QG.mk (Pane.mk lW lH lT lK) lC)):Zj Xs Ms V7 [(.d (.agg [J lW,J lH,.bool lT,J lK,J lC]))] []=some (.d (.str (Zc5 (QG.mk (Pane.mk lW lH lT lK) lC))),[]):=by
 have hw:=ZfG (QG.mk (Pane.mk lW lH lT lK) lC) h;obtain⟨h1,h2,h3,h4⟩:=h;simp only[six] at h1 h2 h3 h4;have e1:=X9 lC.toNat (by omega);have e2:=X9 lW.toNat (by omega);have e3:=X9 lH.toNat (by omega);have e4:=X9 lK.toNat (by omega);rw[KC (by omega)] at e1 e2 e3 e4;have l1:=XK 5 lC.toNat (by omega);have l2:=XK 5 lW.toNat (by omega);have l3:=XK 5 lH.toNat (by omega);have l4:=XK 5 lK.toNat (by omega);unfold Zc5;simp only[Yy,UK];generalize num lC.toNat=a at *;generalize num lW.toNat=b at *;generalize num lH.toNat=c at *;generalize num lK.toNat=d at *;have b1:a.length+1≤1152921504606846976:=by omega
 have b2:a.length+1+b.length≤1152921504606846976:=by omega
 have b3:a.length+1+b.length+1≤1152921504606846976:=by omega
 have b4:a.length+1+b.length+1+c.length≤1152921504606846976:=by omega
 have b5:a.length+1+b.length+1+c.length+1≤1152921504606846976:=by omega
 have b6:a.length+1+b.length+1+c.length+1+5≤1152921504606846976:=by omega
 have b7:a.length+1+b.length+1+c.length+1+5+1≤1152921504606846976:=by omega
 have b8:a.length+1+b.length+1+c.length+1+5+1+d.length≤1152921504606846976:=by omega
 refine cE ?_;cases lT with
 | true=>
  simp only[Jn,VG,Kk];simp +contextual -implicitDefEqProofs (maxSteps:=10^7) only[go_sem,seval,↓gZ,Up,e1,e2,e3,e4,b1,b2,b3,b4,b5,b6,b7,b8];simp only[KT,Ku,Lh]
 | false=>
  simp only[Jn,UL,Ka,Km];simp +contextual -implicitDefEqProofs (maxSteps:=10^7) only[go_sem,seval,↓gZ,Up,e1,e2,e3,e4,b1,b2,b3,b4,b5,b6,b7,b8];simp only[KT,Ku,Lh]
theorem Znm {c:UInt8} {s:List UInt8} {f k:Nat} (hf:f≤k) (hk:k≤s.length) (aa:c∉(s.take k).drop f) :
  (∀ x,s[k]?=some x→x=c→Zz c (s.drop f)=(s.take k).drop f :: Zz c (s.drop (k+1)))∧(k=s.length→Zz c (s.drop f)=[(s.take k).drop f]):=by
 constructor
 ·intro x hx hc;obtain⟨h1,h2⟩:=Kc.1 hx;have e:s.drop f=(s.take k).drop f++c :: s.drop (k+1):=by
   have:s=s.take k++x :: s.drop (k+1):=by
    rw[← h2,← K9 h1,KX]
   conv=>lhs;rw[this]
   rw[List.drop_append_of_le_length (by simp;omega),hc]
  rw[e,Zb9 aa]
 ·intro ab;subst ab;rw[KR] at aa ⊢;exact Wy aa
theorem Zg9 {s:List UInt8} {f k:Nat} {x:UInt8} (hf:f≤k) (hx:s[k]?=some x):(s.take (k+1)).drop f=(s.take k).drop f++[x]:=by
 obtain⟨h1,h2⟩:=Kc.1 hx;rw[Lv,hx,Option.toList_some,List.drop_append_of_le_length (by simp;omega)]
theorem ZkL (s:List UInt8) (c:UInt8) (n:Int) (hn:(c.toNat:Int)=n) (hs:s.length≤1048576):Zj Xs Ms WX [.d (.str s),.d (.int .u8 n)] []=some (.own 0,[.row 1 ((Zz c s).map .str) true false]):=by
 refine cE ?_;simp +contextual -implicitDefEqProofs (maxSteps:=10^7) only[go_sem,seval,↓gZ,Zbp];refine LO (α:=Nat×Nat×List (List UInt8)) (fun a=>[(7,.d (J (a.1:Int))),(6,.d (J (a.2.1:Int)))]) (fun a=>[(0,.row 1 (a.2.2.map .str) true false)]) (fun a=>a.2.1≤a.1∧a.1≤s.length∧a.2.2.length≤a.1∧c∉(s.take a.1).drop a.2.1∧Zz c s=a.2.2++Zz c (s.drop a.2.1)) (fun a=>s.length-a.1) (0,0,[]) ⟨by simp,by simp,by simp,by simp,by simp⟩ ?_;intro⟨k,f,out⟩ ⟨hf,hk,ho,hno,hp⟩ ih;simp only at hf hk ho hno hp ih ⊢;have aa:(out.length+1)*16≤140737488355328∧out.length+1≤140737488355328:=by omega
 obtain⟨s1,s2⟩:=Znm hf hk hno;have b1:(f:Int)≤(k:Int):=by omega
 have b2:(k:Int)≤(s.length:Int):=by omega
 have b3:(f:Int)≤(s.length:Int):=by omega
 by_cases ad:k<s.length
 ·obtain⟨x,hx⟩:∃ x,s[k]?=some x:=⟨_,Ki ad⟩
  have ab : (k:Int)<(s.length:Int):=by omega
  have w:=ZY (k:=k) (by omega);by_cases he:x=c
  ·have ae:(x.toNat:Int)=n:=by rw[he,hn]
   have s1:=s1 x hx he;simp +contextual -implicitDefEqProofs (maxSteps:=10^7) only[go_sem,seval,↓gZ,ab,ad,hx,w,ae,b1,b2,aa];refine ih (k+1,k+1,out++[(s.take k).drop f]) _ ⟨by simp,by simp only;omega,by simp;omega,by simp,?_⟩ (by simp only;omega) ?_
   ·simp only[KT,List.singleton_append];rw[hp,s1]
   ·simp +contextual -implicitDefEqProofs (maxSteps:=10^7) only[go_sem,seval,↓gZ,Li,Kl,Kv]
  ·have ae:¬(x.toNat:Int)=n:=by
    intro h;rw[← hn] at h;exact he (UInt8.toNat_inj.1 (by omega))
   simp +contextual -implicitDefEqProofs (maxSteps:=10^7) only[go_sem,seval,↓gZ,ab,ad,hx,w,ae];refine ih (k+1,f,out) _ ⟨by simp only;omega,by simp only;omega,by simp only;omega,?_,hp⟩ (by simp only;omega) ?_
   ·simp only;rw[Zg9 hf hx];simp only[Kd,Ky,not_or];exact⟨hno,fun e=>he e.symm⟩
   ·simp +contextual -implicitDefEqProofs (maxSteps:=10^7) only[go_sem,seval,↓gZ]
 ·have af:k=s.length:=by omega
  have s2:=s2 af;subst af;rw[KR] at s2;rw[s2] at hp;rw[hp];simp +contextual -implicitDefEqProofs (maxSteps:=10^7) only[go_sem,seval,↓gZ,b3,aa,KR,Li,Kl,Kv]
def lnS (ws:List (List UInt8)):Option QG:=match ws with
 | [a,b,c,t,k]=>if t=VG∨t=UL then some ⟨⟨Un b,Un c,decide (t=VG),Un k⟩,Un a⟩ else none
 | _=>none
theorem Zi9 (ws:List (List UInt8)) (hw:∀ w∈ws,w.length≤1048576):Zj Xs Ms Y6 [.d (.sl (ws.map .str))] []=some (rlV (lnS ws),[]):=by
 by_cases h5:ws.length=5
 ·obtain⟨a,b,c,t,k,rfl⟩:∃ a b c t k,ws=[a,b,c,t,k]:=by
   match ws,h5 with
   | [a,b,c,t,k],_=>exact⟨a,b,c,t,k,rfl⟩
  have ea:=Xd a (hw a (by simp));have eb:=Xd b (hw b (by simp));have ec:=Xd c (hw c (by simp));have ek:=Xd k (hw k (by simp));simp only[Kl,Kv];have ad:∀ tb:Bool,t=Jn tb→Zj Xs Ms Y6 [.d (.sl [.str a,.str b,.str c,.str t,.str k])] []=some (rlV (lnS [a,b,c,t,k]),[]):=by
   intro tb ht;have ae:=Zg7 tb;rw[← ht] at ae;have aa:=ZeL tb;rw[← ht] at aa;have q1:(t==[116,117,114,110,115])=tb:=by
    rw[ht];cases tb<;>rfl
   have q2:(t==[102,105,120,101,100])=!tb:=by
    rw[ht];cases tb<;>rfl
   simp only[lnS,Ko ae,aa];refine cE ?_;cases tb with
   | true=>simp +contextual -implicitDefEqProofs (maxSteps:=10^7) only[go_sem,seval,↓gZ,Y7,ea,eb,ec,ek,q1,q2,rlV,Bool.not_true,QG.enc]
   | false=>simp +contextual -implicitDefEqProofs (maxSteps:=10^7) only[go_sem,seval,↓gZ,Y7,ea,eb,ec,ek,q1,q2,rlV,LY,QG.enc]
  by_cases t1:t=VG
  ·exact ad true t1
  by_cases t2:t=UL
  ·exact ad false t2
  ·have ab:lnS [a,b,c,t,k]=none:=by
    simp only[lnS];rw[Kf (fun h=>h.elim t1 t2)]
   rw[ab];have q1:(t==[116,117,114,110,115])=false:=by simpa [VG] using t1
   have q2:(t==[102,105,120,101,100])=false:=by simpa [UL] using t2
   refine cE ?_;simp +contextual -implicitDefEqProofs (maxSteps:=10^7) only[go_sem,seval,↓gZ,Y7,q1,q2,rlV]
 ·have ab:lnS ws=none:=by
   unfold lnS;split
   ·exact absurd rfl h5
   ·rfl
  rw[ab];have af : ¬(ws.length:Int)=5:=by omega
  refine cE ?_;simp +contextual -implicitDefEqProofs (maxSteps:=10^7) only[go_sem,seval,↓gZ,Y7,af,rlV]
theorem Zha (c:UInt8):∀ s:List UInt8,∀ w∈Zz c s,w.length≤s.length
 | [],w,h=>by simp only[Zz,Ky] at h;rw[h];simp
 | x :: r,w,h=>by
  have ih:=Zha c r;simp only[Zz] at h;by_cases hx:x=c
  ·rw[Ko hx] at h;rcases Ke.1 h with rfl | h
   ·simp
   ·have:=ih w h;simp;omega
  ·rw[Kf hx] at h;cases hs:Zz c r with
   | nil=>exact absurd hs (UD c r)
   | cons p q=>
    rw[hs] at h ih;simp only at h;rcases Ke.1 h with rfl | h
    ·have:=ih p (by simp);simp;omega
    ·have:=ih w (by simp[h]);simp;omega
theorem ZlT {ws:List (List UInt8)} {x:QG} (h:JY ws=some x):lnS ws=some x:=by
 unfold JY at h;split at h
 ·rename_i a b c t k;split at h
  ·rename_i ht;simp only[KD] at h;obtain⟨n1,h1,n2,h2,n3,h3,n4,h4,h⟩:=h;cases h;simp only[lnS,Ko ht,WV h1,WV h2,WV h3,WV h4]
  ·cases h
 ·cases h
def QA:List UInt8:=[115,104,101,101,116]
def Q1:List UInt8:=[102,108,97,119]
def Xi:List UInt8:=[111,114,100,101,114]
def UM:List UInt8:=[99,117,116]
def Xj:List UInt8:=[98,114,101,97,107]
def QY:List UInt8:=[115,99,114,97,112]
inductive Ev where
 | sheet (l w h:Nat)
 | flaw (l x y w h:Nat)
 | order (n:QG)
 | cut (l:Nat) (b:BT)
 | brk (n:QG)
 | scrap (l:Nat)
deriving DecidableEq
def bx0:Box:=⟨0,0,0,0⟩
def ln0:QG:=⟨⟨0,0,false,0⟩,0⟩
def Ev.ev:Ev→ZR
 | .sheet l w h=>⟨0,l,⟨0,0,w,h⟩,ln0,BT.waste.plan⟩
 | .flaw l x y w h=>⟨1,l,⟨x,y,w,h⟩,ln0,BT.waste.plan⟩
 | .order n=>⟨2,0,bx0,n,BT.waste.plan⟩
 | .cut l b=>⟨3,l,bx0,ln0,b.plan⟩
 | .brk n=>⟨4,0,bx0,n,BT.waste.plan⟩
 | .scrap l=>⟨5,l,bx0,ln0,BT.waste.plan⟩
def Ev.words:Ev→List (List UInt8)
 | .sheet l w h=>[QA,num l,num w,num h]
 | .flaw l x y w h=>[Q1,num l,num x,num y,num w,num h]
 | .order n=>Xi :: Yy n
 | .cut l b=>[UM,num l,shw b]
 | .brk n=>Xj :: Yy n
 | .scrap l=>[QY,num l]
def Ev.text (v:Ev):List UInt8:=UK 32 v.words
def ZeO (b:BT):Prop:=b.cnt≤255∧Vj b=true∧(shw b).length≤1600
instance (b:BT):Decidable (ZeO b):=by unfold ZeO;infer_instance
def Ev.ok:Ev→Prop
 | .sheet l w h=>l≤999999∧w≤999999∧h≤999999
 | .flaw l x y w h=>l≤999999∧x≤999999∧y≤999999∧w≤999999∧h≤999999
 | .order n=>ZlP n
 | .cut l b=>l≤999999∧ZeO b
 | .brk n=>ZlP n
 | .scrap l=>l≤999999
def ZkM (s:List UInt8):Option BT:=if s.length≤1600 then ZeJ s else none
theorem ZdQ {s:List UInt8} {b:BT}:ZkM s=some b↔s=shw b∧ZeO b:=by
 unfold ZkM;constructor
 ·intro h;split at h
  ·rename_i hl;obtain⟨h1,h2,h3⟩:=Zbg.1 h;exact⟨h1,h2,h3,h1 ▸ hl⟩
  ·cases h
 ·rintro ⟨rfl,h1,h2,h3⟩
  rw[Ko h3];exact Zpq h1 h2
def W5:List (List UInt8)→Option (List Nat)
 | []=>some []
 | w :: r=>(rd w).bind fun n=>(W5 r).bind fun l=>some (n :: l)
theorem Zbk:∀ {ws:List (List UInt8)} {ns:List Nat},W5 ws=some ns→ws=ns.map num∧∀ n∈ns,n≤999999
 | [],ns,h=>by simp[W5] at h;subst h;simp
 | w :: r,ns,h=>by
  simp only[W5,KD] at h;obtain⟨n,h1,l,h2,h3⟩:=h;cases h3;obtain⟨e1,b1⟩:=Vy h1;obtain⟨e2,b2⟩:=Zbk h2;refine⟨by rw[e1,e2];rfl,fun x hx=>?_⟩;rcases Ke.1 hx with rfl | hx
  ·exact b1
  ·exact b2 x hx
theorem UN:∀ {ns:List Nat},(∀ n∈ns,n≤999999)→W5 (ns.map num)=some ns
 | [],_=>rfl
 | n :: r,h=>by
  have ih:=UN (ns:=r) (fun x hx=>h x (Kq _ hx));simp only[Kl,W5,UJ (h n (KV ..)),KE,ih]
def Zat (w:List UInt8):List Nat→Option Ev
 | [l]=>if w=QY then some (.scrap l) else none
 | [l,a,b]=>if w=QA then some (.sheet l a b) else none
 | [l,x,y,a,b]=>if w=Q1 then some (.flaw l x y a b) else none
 | _=>none
def ZoC:List (List UInt8)→Option Ev
 | [a,p]=>(rd a).bind fun l=>(ZkM p).bind fun b=>some (.cut l b)
 | _=>none
def Y4:List (List UInt8)→Option Ev
 | []=>none
 | w :: r=>if w=Xi then (JY r).bind fun n=>some (.order n) else if w=Xj then (JY r).bind fun n=>some (.brk n) else if w=UM then ZoC r else (W5 r).bind (Zat w)
theorem ZkN {ws:List (List UInt8)} {v:Ev} (h:Y4 ws=some v):ws=v.words∧v.ok:=by
 cases ws with
 | nil=>simp[Y4] at h
 | cons w r=>
  simp only[Y4] at h;split at h
  ·rename_i hw;simp only[KD] at h;obtain⟨n,h1,h2⟩:=h;cases h2;obtain⟨e,s⟩:=Zjx h1;exact⟨by rw[hw,e];rfl,s⟩
  ·split at h
   ·rename_i hw;simp only[KD] at h;obtain⟨n,h1,h2⟩:=h;cases h2;obtain⟨e,s⟩:=Zjx h1;exact⟨by rw[hw,e];rfl,s⟩
   ·split at h
    ·rename_i hw;unfold ZoC at h;split at h
     ·simp only[KD] at h;obtain⟨n,h1,b,h2,h3⟩:=h;cases h3;obtain⟨e1,b1⟩:=Vy h1;obtain⟨e2,b2⟩:=ZdQ.1 h2;exact⟨by rw[hw,e1,e2];rfl,b1,b2⟩
     ·cases h
    ·simp only[KD] at h;obtain⟨ns,h1,h2⟩:=h;obtain⟨e1,b1⟩:=Zbk h1;unfold Zat at h2;split at h2
     ·split at h2
      ·rename_i hw;cases h2;exact⟨by rw[hw,e1];rfl,b1 _ (by simp)⟩
      ·cases h2
     ·split at h2
      ·rename_i hw;cases h2;exact⟨by rw[hw,e1];rfl,b1 _ (by simp),b1 _ (by simp),b1 _ (by simp)⟩
      ·cases h2
     ·split at h2
      ·rename_i hw;cases h2;exact⟨by rw[hw,e1];rfl,b1 _ (by simp),b1 _ (by simp),b1 _ (by simp),b1 _ (by simp),b1 _ (by simp)⟩
      ·cases h2
     ·cases h2
theorem Zja {v:Ev} (h:v.ok):Y4 v.words=some v:=by
 have d1:¬QA=Xi:=by decide
 have d2:¬QA=Xj:=by decide
 have d3:¬QA=UM:=by decide
 have d4:¬Q1=Xi:=by decide
 have d5:¬Q1=Xj:=by decide
 have d6:¬Q1=UM:=by decide
 have d7:¬QY=Xi:=by decide
 have d8:¬QY=Xj:=by decide
 have d9:¬QY=UM:=by decide
 have aa:¬UM=Xi:=by decide
 have ab:¬UM=Xj:=by decide
 have ad:¬Xj=Xi:=by decide
 cases v with
 | sheet l w h' =>
  obtain⟨h1,h2,h3⟩:=h;have e:=UN (ns:=[l,w,h']) (by simp;omega);simp only[Kl,Kv] at e;simp only[Ev.words,Y4,Kf d1,Kf d2,Kf d3,e,KE,Zat,Kk]
 | flaw l x y w h' =>
  obtain⟨h1,h2,h3,h4,h5⟩:=h;have e:=UN (ns:=[l,x,y,w,h']) (by simp;omega);simp only[Kl,Kv] at e;simp only[Ev.words,Y4,Kf d4,Kf d5,Kf d6,e,KE,Zat,Kk]
 | order n=>simp only[Ev.words,Y4,Kk,Zas (l:=n) h,KE]
 | brk n=>simp only[Ev.words,Y4,Kf ad,Kk,Zas (l:=n) h,KE]
 | cut l b=>
  obtain⟨h1,h2⟩:=h;simp only[Ev.words,Y4,Kf aa,Kf ab,Kk,ZoC,UJ h1,ZdQ.2 ⟨rfl,h2⟩,KE]
 | scrap l=>
  have h1:l≤999999:=h;have e:=UN (ns:=[l]) (by simp;omega);simp only[Kl,Kv] at e;simp only[Ev.words,Y4,Kf d7,Kf d8,Kf d9,e,KE,Zat,Kk]
theorem ZkO {c:UInt8} (hd:isD c=false) (h:c≠119∧c≠112∧c≠116∧c≠100∧c≠97∧c≠40∧c≠44∧c≠41):∀ b:BT,c∉shw b
 | .waste=>by simp[shw,h]
 | .pane i t=>by
  simp only[shw,Ke,not_or];exact⟨by cases t<;>simp[h],JA hd _⟩
 | .cut d a l r=>by
  simp only[shw,Ke,Kd,not_or,KH,not_false_eq_true,and_true];exact⟨by cases d<;>simp[h],JA hd _,h.2.2.2.2.2.1,ZkO hd h l,h.2.2.2.2.2.2.1,ZkO hd h r,h.2.2.2.2.2.2.2⟩
theorem ZoD (v:Ev):∀ w∈v.words,(32:UInt8)∉w:=by
 intro w hw;cases v with
 | order n=>
  rcases Ke.1 hw with rfl | hw
  ·decide
  ·exact Zg8 n w hw
 | brk n=>
  rcases Ke.1 hw with rfl | hw
  ·decide
  ·exact Zg8 n w hw
 | cut l b=>
  simp only[Ev.words,Ke,KH,or_false] at hw;rcases hw with rfl | rfl | rfl
  ·decide
  ·exact JA rfl _
  ·exact ZkO rfl (by decide) b
 | sheet l a b=>
  simp only[Ev.words,Ke,KH,or_false] at hw;rcases hw with rfl | rfl | rfl | rfl<;>first | decide | exact JA rfl _
 | flaw l x y a b=>
  simp only[Ev.words,Ke,KH,or_false] at hw;rcases hw with rfl | rfl | rfl | rfl | rfl | rfl<;>first | decide | exact JA rfl _
 | scrap l=>
  simp only[Ev.words,Ke,KH,or_false] at hw;rcases hw with rfl | rfl<;>first | decide | exact JA rfl _
def Zc6 (s:List UInt8):Option Ev:=Y4 (Zz 32 s)
theorem ZlU (v:Ev):v.words≠[]:=by cases v<;>simp[Ev.words]
theorem Zce {s:List UInt8} {v:Ev}:Zc6 s=some v↔s=v.text∧v.ok:=by
 unfold Zc6;constructor
 ·intro h;obtain⟨h1,h2⟩:=ZkN h;exact⟨by rw[Ev.text,← h1,Zg1],h2⟩
 ·rintro ⟨rfl,h⟩
  rw[Ev.text,Zc2 (ZlU v) (ZoD v),Zja h]
theorem Zbl (n:Int) (h:six n):(num n.toNat).length≤6:=XK 5 n.toNat (by have:=h.1;have:=h.2;omega)
def Yu (e:ZR):List Int:=[e.kind,e.label,e.box.X,e.box.Y,e.box.W,e.box.H,e.line.Pane.W,e.line.Pane.H,e.line.Pane.Kind,e.line.Count]
end Go.Proofs.YtnachaiejoflhaaDoor
