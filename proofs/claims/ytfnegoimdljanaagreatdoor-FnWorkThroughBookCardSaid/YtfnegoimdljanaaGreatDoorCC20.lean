import Derived.Test.YtfnegoimdljanaaGreatDoorCC16
import Derived.Test.YtfnegoimdljanaaGreatDoorCC5
set_option linter.unusedSimpArgs false
set_option linter.unusedVariables false
namespace Go.Proofs.YtfnegoimdljanaaGreatDoor
open Go Go.Abs Go.Abs.E Go.Abs.L
set_option maxRecDepth 20000
set_option maxHeartbeats 4000000
theorem Zx1 (p:Zf):Zx0 p=[]∨∃ b,p=b.plan∧b.cnt≤255∧WQ b=true∧Zx0 p=shw b:=by
 cases h:Q8 p with
 | none=>exact .inl (Ztt h)
 | some b=>
  rw[ZmN h];by_cases hc:b.cnt≤255∧WQ b=true
  ·rw[Kj hc];exact .inr ⟨b,Zbp h,hc.1,hc.2,rfl⟩
  ·rw[Ke hc];exact .inl rfl
theorem ZAn {s:List UInt8} {b:BT}:ZuN s=some b↔s.length≤1600∧s=shw b∧b.cnt≤255∧WQ b=true:=by
 unfold ZuN;by_cases h:s.length≤1600
 ·rw[Kj h,Zhf];exact⟨fun h'=>⟨h,h'⟩,fun h'=>h'.2⟩
 ·rw[Ke h];constructor
  ·intro h';cases h'
  ·intro h';exact absurd h'.1 h
def Zb7:List UInt8:=[116,117,114,110,115]
def Zhi:List UInt8:=[102,105,120,101,100]
def Zda (t:Bool):List UInt8:=if t then Zb7 else Zhi
def Xz (l:Zc):List (List UInt8):=[num l.Count.toNat,num l.Pane.W.toNat,num l.Pane.H.toNat,Zda l.Pane.Turns,num l.Pane.Kind.toNat]
def ZmP (l:Zc):List UInt8:=Yu 32 (Xz l)
def six (n:Int):Prop:=0≤n∧n≤999999
instance (n:Int):Decidable (six n):=by unfold six;infer_instance
def ZuO (l:Zc):Prop:=six l.Count∧six l.Pane.W∧six l.Pane.H∧six l.Pane.Kind
def Zgs:List (List UInt8)→Option Zc
 | [a,b,c,t,k]=>if t=Zb7∨t=Zhi then (rd a).bind fun a=>(rd b).bind fun b=>(rd c).bind fun c=>(rd k).bind fun k=>some ⟨⟨b,c,decide (t=Zb7),k⟩,a⟩ else none
 | _=>none
theorem Ul {c:UInt8} (hc:isD c=false) (n:Nat):c∉num n:=fun h=>by rw[ZuJ n c h] at hc;cases hc
theorem Zx2 (t:Bool):(32:UInt8)∉Zda t:=by cases t<;>decide
theorem Zwm (t:Bool):Zda t=Zb7∨Zda t=Zhi:=by cases t<;>simp[Zda]
theorem Ztu (t:Bool):decide (Zda t=Zb7)=t:=by cases t<;>decide
theorem ZBK {w:List UInt8} (h:w=Zb7∨w=Zhi):Zda (decide (w=Zb7))=w:=by
 rcases h with rfl | rfl
 ·simp[Zda]
 ·have:¬Zhi=Zb7:=by decide
  simp[Zda,this]
theorem Zq0 (l:Zc):∀ w∈Xz l,(32:UInt8)∉w:=by
 intro w hw;simp only[Xz,Kd,KC,or_false] at hw;rcases hw with rfl | rfl | rfl | rfl | rfl
 ·exact Ul rfl _
 ·exact Ul rfl _
 ·exact Ul rfl _
 ·exact Zx2 _
 ·exact Ul rfl _
theorem Zq1 {l:Zc} (h:ZuO l):Zgs (Xz l)=some l:=by
 obtain⟨⟨w,h',t,k⟩,c⟩:=l;obtain⟨h1,h2,h3,h4⟩:=h;simp only[six] at h1 h2 h3 h4;have e1:((c.toNat:Nat):Int)=c:=o_
 have e2:((w.toNat:Nat):Int)=w:=o_
 have e3:((h'.toNat:Nat):Int)=h':=o_
 have e4:((k.toNat:Nat):Int)=k:=o_
 simp only[Xz,Zgs,Kj (Zwm t),Zhb (show c.toNat≤999999 by omega),Zhb (show w.toNat≤999999 by omega),Zhb (show h'.toNat≤999999 by omega),Zhb (show k.toNat≤999999 by omega),KN,Ztu,e1,e2,e3,e4]
theorem Ztv {ws:List (List UInt8)} {l:Zc} (h:Zgs ws=some l):ws=Xz l∧ZuO l:=by
 unfold Zgs at h;split at h
 ·rename_i a b c t k;split at h
  ·rename_i ht;simp only[Lf] at h;obtain⟨n1,h1,n2,h2,n3,h3,n4,h4,h⟩:=h;cases h;obtain⟨r1,b1⟩:=Zc8 h1;obtain⟨r2,b2⟩:=Zc8 h2;obtain⟨r3,b3⟩:=Zc8 h3;obtain⟨r4,b4⟩:=Zc8 h4;refine⟨?_,?_,?_,?_,?_⟩
   ·simp only[Xz,Ky,ZBK ht];rw[r1,r2,r3,r4]
   all_goals (simp only[six];omega)
  ·cases h
 ·cases h
theorem Zwn {c d:UInt8} (hd:c≠d):∀ {ws:List (List UInt8)},(∀ w∈ws,c∉w)→c∉Yu d ws
 | [],_=>by simp[Yu]
 | [x],h=>h x (by simp)
 | x :: y :: r,h=>by
  have ih:=Zwn hd (ws:=y :: r) fun w hw=>h w (by simp[hw]);have hx:=h x (by simp);simp only[Yu,Kh,Kd,not_or];exact⟨hx,hd,ih⟩
theorem Zx3 (t:Bool):(10:UInt8)∉Zda t:=by cases t<;>decide
def Zfp {α:Type} (f:α→List UInt8) (l:List α):List UInt8:=(l.map fun x=>f x++[10]).flatten
theorem Zdb {α:Type} (f:α→List UInt8) (x:α) (l:List α):Zfp f (x :: l)=f x++10 :: Zfp f l:=by simp[Zfp]
theorem Zwo {α:Type} (f:α→List UInt8) (l:List α) (x:α):Zfp f (l++[x])=Zfp f l++(f x++[10]):=by simp[Zfp]
theorem ZuP {c:UInt8}:∀ {a b:List UInt8},c∉a→Qh c (a++c :: b)=some a.length
 | [],b,_=>by simp[Qh]
 | x :: a,b,h=>by
  simp only[Kd,not_or] at h;simp only[KA,Qh,Ke (fun e=>h.1 (Eq.symm e)),ZuP h.2,K4,Kn]
end Go.Proofs.YtfnegoimdljanaaGreatDoor
namespace Go.Proofs.YtfnegoimdljanaaGreatDoor
open Go Go.Abs Go.Abs.E Go.Abs.L
set_option maxRecDepth 20000
set_option maxHeartbeats 4000000
def ZAo (c:UInt8) (s:List UInt8):Int:=match Qh c s with
 | none=>-1
 | some i=>(i:Int)
theorem ZBL (c:UInt8) (s:List UInt8):Lib.indexByte s c=ZAo c s:=by
 unfold ZAo
 induction s with
 | nil=>rfl
 | cons x r ih=>
  simp only[Lib.indexByte,Qh,ih];by_cases h:x=c
  ·simp[h]
  ·rw[Ke h];cases Qh c r with
   | none=>simp[h]
   | some i=>simp[h]<;>omega
theorem ZmQ (c:UInt8) (s:List UInt8):(Z1 c s).length=s.count c+1:=by
 induction s with
 | nil=>rfl
 | cons x r ih=>
  simp only[Z1];by_cases h:x=c
  ·rw[Kj h];simp[ih,h]
  ·rw[Ke h];cases hs:Z1 c r with
   | nil=>exact absurd hs (Zbr c r)
   | cons p q=>
    rw[hs] at ih;simp only[Kn] at ih ⊢;rw[List.count_cons_of_ne (fun e=>h e)];exact ih
theorem Zx4 (ws:List (List UInt8)):Zg7 (ws.map .str)=some ws:=by
 induction ws with
 | nil=>rfl
 | cons x r ih=>simp only[Kk,Zg7,ih];rfl
theorem Zq2 (c:UInt8):∀ ws:List (List UInt8),Lib.join ws [c]=Yu c ws
 | []=>rfl
 | [x]=>Lib.join_one x [c]
 | x :: y :: r=>by
  have ih:=Zq2 c (y :: r);unfold Lib.join at ih ⊢;simp only[Yu,← ih,List.intercalate,List.intersperse,Lc,Le,Kai,KA,Lm]
theorem Zgf (ws:List (List UInt8)) (c:UInt8) (h0:0<ws.length) (h1:ws.length≤1000) (h2:(Yu c ws).length≤1048576):v_ 89 [.d (.sl (ws.map .str)),.d (.str [c])] []=some (.d (.str (Yu c ws)),[]):=by
 refine Y9 Xs Ms ZrD ?_;unfold Ztk;simp only;rw[Zx4];simp only[Zg];rw[Kj ⟨h0,by unfold ZaD;omega,by rw[Zq2];unfold ZaD;omega⟩,Zq2]
theorem Zwp (s:List UInt8) (c:UInt8):v_ 118 [.d (.str s),.d (.str [c])] []=some ((.d (J (ZAo c s))),[]):=by
 refine Y9 Xs Ms ZaQ ?_;unfold ZAf;simp only;rw[ZBL]
theorem ZmR (s:List UInt8) (c:UInt8):v_ 174 [.d (.str s),.d (.str [c])] []=some ((.d (J (ZAo c s))),[]):=by
 have e1:=Zwp s c;refine cE ?_;simp (maxSteps:=10^7) +contextual -implicitDefEqProofs only[go_sem,seval,Zgp,e1]
theorem ZmS (s:List UInt8) (c:UInt8):v_ 173 [.d (.str s),.d (.str [c])] []=some ((.d (J ((s.count c:Nat)))),[]):=by
 refine Y9 Xs Ms ZoO ?_;unfold ZAg;simp only[Lib.countByte]
theorem Cut_ev (s:List UInt8) (c:UInt8) (hs:s.length≤1048576):v_ 69 [.d (.str s),.d (.str [c])] []=some (.tup (match Qh c s with | none=>[.d (.str s),.d (.str []),(.d (.bool false))] | some i=>[.d (.str (s.take i)),.d (.str (s.drop (i+1))),(.d (.bool true))]),[]):=by
 have e1:=Zwp s c;unfold ZAo at e1;cases h:Qh c s with
 | none=>
  rw[h] at e1;refine cE ?_;simp (maxSteps:=10^7) +contextual -implicitDefEqProofs only[go_sem,seval,Yg,e1]
 | some i=>
  obtain⟨_,_,hi⟩:=Vl h;rw[h] at e1;simp only at e1;have w:=Zh (k:=i) o_;have h1:((i+1:Nat):Int)≤(s.length:Int):=o_
  have h2:(i:Int)≤(s.length:Int):=o_
  refine cE ?_;simp (maxSteps:=10^7) +contextual -implicitDefEqProofs only[go_sem,seval,Yg,e1,w,h1,h2,Zod,Lm,KD,Ln]
theorem Zb8 (s:List UInt8) (c:UInt8) (hs:s.length≤1048576):v_ 36 [.d (.str s),.d (.str [c])] []=some (.tup (match Qh c s with | none=>[.d (.str s),.d (.str []),(.d (.bool false))] | some i=>[.d (.str (s.take i)),.d (.str (s.drop (i+1))),(.d (.bool true))]),[]):=by
 have e1:=Cut_ev s c hs;cases h:Qh c s with
 | none=>
  rw[h] at e1;refine cE ?_;simp (maxSteps:=10^7) +contextual -implicitDefEqProofs only[go_sem,seval,Zea,e1]
 | some i=>
  rw[h] at e1;refine cE ?_;simp (maxSteps:=10^7) +contextual -implicitDefEqProofs only[go_sem,seval,Zea,e1]
theorem Zy5 (done:List (List UInt8)) (x y:D) (r:List D):(done.map D.str++x :: r).set done.length y=done.map D.str++y :: r:=by
 have h:=List.set_append_right (s:=done.map D.str) (t:=x :: r) (i:=done.length) y (by simp);rw[h];simp
theorem Zy6 (done:List (List UInt8)) (x:D) (r:List D):(done.map D.str++x :: r)[done.length]?=some x:=by
 rw[KF (by simp)];simp
theorem ZnV (a b:List UInt8):Y6 (.str a) 0 [.str b]=.str b:=rfl
theorem Ztw (a:List UInt8):(D.str a).notSl=true:=rfl
theorem Ztx (a:List UInt8):(D.str a).cells=[.str a]:=rfl
theorem Zwq (s:List UInt8) (c:UInt8) (hs:s.length≤1048576):v_ 121 [.d (.str s),.d (.str [c]),(.d (J 0)),(.d (J (-1)))] []=some (.ownv 0 0 (Z1 c s).length,[.row 1 ((Z1 c s).map .str) true false]):=by
 have e1:=ZmS s c;have ai:s.count c≤s.length:=List.count_le_length;have w1:=Zh (k:=s.count c) o_;have w2:=Zh (k:=s.length) o_;have ab:=ZmQ c s;obtain⟨n,hn⟩:∃ n,s.count c=n:=⟨_,rfl⟩
 rw[hn] at e1 w1 ab ai;have aj:(([c]:List UInt8)==[])=false:=rfl;have ae:min ((n+1:Nat):Int) ((s.length+1:Nat):Int)=((n+1:Nat):Int):=o_
 have w3:IntKind.i64.wrap (((n+1:Nat):Int)-1)=(n:Int):=by rw[show ((n+1:Nat):Int)-1=n by omega];exact wi _ o_ o_
 have ak:((n+1:Nat):Int)*16≤140737488355328∧((n+1:Nat):Int)≤140737488355328:=o_
 refine cE ?_;simp (maxSteps:=10^7) +contextual -implicitDefEqProofs only[go_sem,seval,ZcF,e1,w1,w2,aj,ae,w3,ak];refine LO (α:=List (List UInt8)×List UInt8) (fun a=>[(10,.d (J (a.1.length:Nat))),(0,.d (.str a.2))]) (fun a=>[(0,.row 1 (a.1.map .str++List.replicate (n+1-a.1.length) (.str [])) true false)]) (fun a=>Z1 c s=a.1++Z1 c a.2∧a.2.length≤s.length) (fun a=>n-a.1.length) ([],s) ⟨rfl,Kp _⟩ ?_;intro⟨done,rest⟩ ⟨hp,hr⟩ ih;simp only at hp hr ih ⊢;have af:=ZmQ c rest;have al:=congrArg List.length hp;rw[ab,Kr,af] at al;by_cases an:done.length<n
 ·have ag : (done.length:Int)<(n:Int):=o_
  have e2:=ZmR rest c;unfold ZAo at e2;have aa:List.replicate (n+1-done.length) (D.str [])=D.str [] :: List.replicate (n-done.length) (D.str []):=by rw[show n+1-done.length=(n-done.length)+1 by omega];rfl
  rw[aa];cases hi:Qh c rest with
  | none=>
   have:=Zb4 (Zhc.1 hi);rw[this] at af;simp at af;omega
  | some m=>
   obtain⟨_,_,hm⟩:=Vl hi;rw[hi] at e2;simp only at e2;have w:=Zh (k:=m) o_;have w':=Zh (k:=done.length) o_;have w0:=wi (m:Int) o_ o_;have h1:((m+1:Nat):Int)≤(rest.length:Int):=o_
   have h2:(m:Int)≤(rest.length:Int):=o_
   have h3:¬(m:Int)<0:=o_
   have h4:done.length<done.length+(n-done.length+1):=o_
   have ah:=Zbs c rest;rw[hi] at ah;simp only at ah;simp (maxSteps:=10^7) +contextual -implicitDefEqProofs only[go_sem,seval,ag,e2,w,w',w0,h1,h2,h3,h4,Zy5,Zy6,ZnV,Ztw,Ztx,Kn,KL,K8,and_self,Kl,Zg,Int.add_zero,Ln,List.length_replicate];refine ih (done++[rest.take m],rest.drop (m+1)) _ ⟨?_,?_⟩ (by simp;omega) ?_
   ·simp only[Le,Kai];rw[← ah];exact hp
   ·simp;omega
   ·have ad:n+1-(done.length+1)=n-done.length:=o_
    simp (maxSteps:=10^7) +contextual -implicitDefEqProofs only[go_sem,seval,Kr,KJ,Le,ad]
 ·have hi:done.length=n:=o_
  have am:Z1 c rest=[rest]:=by
   cases hi2:Qh c rest with
   | none=>exact Zb4 (Zhc.1 hi2)
   | some m=>
    obtain⟨h1,_,hm⟩:=Vl hi2;have:c∈rest:=by rw[h1];simp
    have:=K3.2 this;omega
  rw[am] at hp;subst hi;have w':=Zh (k:=done.length) o_;have aa:done.length+1-done.length=1:=o_
  have h5:done.length<done.length+1:=o_
  have h6:((done.length+1:Nat):Int)≤((done.length+1:Nat):Int):=Kab _;simp (maxSteps:=10^7) +contextual -implicitDefEqProofs only[go_sem,seval,aa,w',h5,h6,List.replicate_one,Zy5,Zy6,ZnV,Ztw,Ztx,Kn,KL,K8,and_self,Kl,Zg];rw[hp];simp
theorem Zey (s:List UInt8) (c:UInt8) (hs:s.length≤1048576):v_ 73 [.d (.str s),.d (.str [c])] []=some (.ownv 0 0 (Z1 c s).length,[.row 1 ((Z1 c s).map .str) true false]):=by
 have e1:=Zwq s c hs;refine cE ?_;simp (maxSteps:=10^7) +contextual -implicitDefEqProofs only[go_sem,seval,Zgn,e1]
def ZaX:List (List UInt8)→Option (List Int)
 | []=>some []
 | w :: r=>(rd w).bind fun v=>(ZaX r).bind fun vs=>some ((v:Int) :: vs)
def rnV (o:Option (List Int)):AV×List Zk:=match o with
 | none=>(.tup [.own 0,(.d (.bool false))],[.row 1 [] true false])
 | some vs=>(.tup [.own 0,(.d (.bool true))],[.row 1 (vs.map Yi) true false])
theorem ZBM {ws:List (List UInt8)} {k:Nat} {x:List UInt8} (hx:ws[k]?=some x):ZaX (ws.drop k)=(rd x).bind fun v=>(ZaX (ws.drop (k+1))).bind fun vs=>some ((v:Int) :: vs):=by
 obtain⟨h1,h2⟩:=Kc.1 hx;rw[Kx h1,h2,ZaX]
theorem Zez (ws:List (List UInt8)) (hw:ws.length≤2000000):v_ 72 [.d (.sl (ws.map .str))] []=some (rnV (ZaX ws)):=by
 refine cE ?_;simp (maxSteps:=10^7) +contextual -implicitDefEqProofs only[go_sem,seval,Zgl];refine LO (α:=Nat×List Int) (fun a=>[(11,.d (J (a.1:Int)))]) (fun a=>[(0,.row 1 (a.2.map Yi) true false)]) (fun a=>a.1≤ws.length∧a.2.length≤a.1∧ZaX ws=(ZaX (ws.drop a.1)).map fun r=>a.2++r) (fun a=>ws.length-a.1) (0,[]) ⟨by simp,by simp,by simp⟩ ?_;intro⟨k,vs⟩ ⟨hk,hv,hp⟩ ih;simp only at hk hv hp ih ⊢;by_cases ad:k<ws.length
 ·obtain⟨x,hx⟩:=Zp ad;have aa : (k:Int)<(ws.length:Int):=o_
  have w:=Zh (k:=k) o_;have e1:=W6 x;rw[ZBM hx] at hp;have ab:(vs.length+1)*8≤140737488355328∧vs.length+1≤140737488355328:=o_
  have ae:(ws.map D.str)[k]?=some (.str x):=by rw[Ld,hx];rfl
  cases hr:rd x with
  | none=>
   rw[hr] at e1 hp;simp only[Zfn] at e1;simp only[Kaa,Option.map_none] at hp;rw[hp];simp (maxSteps:=10^7) +contextual -implicitDefEqProofs only[go_sem,seval,aa,ad,ae,hx,w,e1,rnV]
  | some v=>
   rw[hr] at e1 hp;simp only[Zfn] at e1;simp (maxSteps:=10^7) +contextual -implicitDefEqProofs only[go_sem,seval,aa,ad,ae,hx,w,e1,ab];refine ih (k+1,vs++[(v:Int)]) _ ⟨o_,by simp;omega,?_⟩ o_ ?_
   ·rw[hp];cases ZaX (ws.drop (k+1))<;>simp
   ·simp (maxSteps:=10^7) +contextual -implicitDefEqProofs only[go_sem,seval,Yi,KJ,Kk,Kt]
 ·have:k=ws.length:=o_
  subst this;simp only[List.drop_length,ZaX,K4,KD] at hp;rw[hp];simp (maxSteps:=10^7) +contextual -implicitDefEqProofs only[go_sem,seval,rnV]
def rlV (o:Option Zc):AV:=match o with
 | none=>.tup [.d (.agg [J 0,J 0,.bool false,J 0,J 0]),(.d (.bool false))]
 | some l=>.tup [.d l.enc,(.d (.bool true))]
theorem Zr7 (s:List UInt8) (hs:s.length≤1048576):v_ 70 [.d (.str s)] []=some (rlV (Zgs (Z1 32 s)),[]):=by
 have e1:=Zey s 32 hs;generalize Z1 32 s=ws at e1;by_cases h5:ws.length=5
 ·obtain⟨a,b,c,t,k,rfl⟩:∃ a b c t k,ws=[a,b,c,t,k]:=by
   match ws,h5 with
   | [a,b,c,t,k],_=>exact⟨a,b,c,t,k,rfl⟩
  simp only[Kk,Kt,Kn,KL,K8,Nat.reduceAdd] at e1;have ad:∀ tb:Bool,t=Zda tb→v_ 70 [.d (.str s)] []=some (rlV (Zgs [a,b,c,t,k]),[]):=by
   intro tb ht;have e2:=Zez [a,b,c,k] (by simp);simp only[Kk,Kt] at e2;have ae:=Zwm tb;rw[← ht] at ae;have aa:=Ztu tb;rw[← ht] at aa;have af:Zgs [a,b,c,t,k]=match ZaX [a,b,c,k] with
     | some [a,b,c,k]=>some ⟨⟨b,c,tb,k⟩,a⟩
     | _=>none:=by
    simp only[Zgs,Kj ae,ZaX,aa];cases rd a<;>cases rd b<;>cases rd c<;>cases rd k<;>rfl
   rw[af];have h4:∀ vs,ZaX [a,b,c,k]=some vs→∃ x y z u:Int,vs=[x,y,z,u]:=by
    intro vs h;simp only[ZaX,Lf,Option.some.injEq] at h;obtain⟨x,_,_,⟨y,_,_,⟨z,_,_,⟨u,_,_,h1,rfl⟩,rfl⟩,rfl⟩,rfl⟩:=h;subst h1;exact⟨_,_,_,_,rfl⟩
   have q1:(t==[116,117,114,110,115])=tb:=by
    rw[ht];cases tb<;>rfl
   have q2:(t==[102,105,120,101,100])=!tb:=by
    rw[ht];cases tb<;>rfl
   cases hr:ZaX [a,b,c,k] with
   | none=>
    rw[hr] at e2;simp only[rnV] at e2;refine cE ?_;cases tb with
    | true=>simp (maxSteps:=10^7) +contextual -implicitDefEqProofs only[go_sem,seval,Ve,e1,e2,q1,q2,rlV,Bool.not_true]
    | false=>simp (maxSteps:=10^7) +contextual -implicitDefEqProofs only[go_sem,seval,Ve,e1,e2,q1,q2,rlV,Kay]
   | some vs=>
    obtain⟨x,y,z,u,rfl⟩:=h4 vs hr;rw[hr] at e2;simp only[rnV,Kk,Kt,Yi] at e2;refine cE ?_;cases tb with
    | true=>simp (maxSteps:=10^7) +contextual -implicitDefEqProofs only[go_sem,seval,Ve,e1,e2,q1,q2,rlV,Bool.not_true,Zc.enc]
    | false=>simp (maxSteps:=10^7) +contextual -implicitDefEqProofs only[go_sem,seval,Ve,e1,e2,q1,q2,rlV,Kay,Zc.enc]
  by_cases t1:t=Zb7
  ·exact ad true t1
  by_cases t2:t=Zhi
  ·exact ad false t2
  ·have ab:Zgs [a,b,c,t,k]=none:=by
    simp only[Zgs];rw[Ke (fun h=>h.elim t1 t2)]
   rw[ab];have q1:(t==[116,117,114,110,115])=false:=by simpa [Zb7] using t1
   have q2:(t==[102,105,120,101,100])=false:=by simpa [Zhi] using t2
   refine cE ?_;simp (maxSteps:=10^7) +contextual -implicitDefEqProofs only[go_sem,seval,Ve,e1,q1,q2,rlV]
 ·have ab:Zgs ws=none:=by
   unfold Zgs;split
   ·exact absurd rfl h5
   ·rfl
  rw[ab];have ag : ¬(ws.length:Int)=5:=o_
  refine cE ?_;simp (maxSteps:=10^7) +contextual -implicitDefEqProofs only[go_sem,seval,Ve,e1,ag,rlV]
theorem ZnW (l:Zc) (h:ZuO l):(Yu 32 (Xz l)).length≤40:=by
 obtain⟨⟨w,h',t,k⟩,c⟩:=l;obtain⟨h1,h2,h3,h4⟩:=h;simp only[six] at h1 h2 h3 h4;have l1:=J9 5 c.toNat o_;have l2:=J9 5 w.toNat o_;have l3:=J9 5 h'.toNat o_;have l4:=J9 5 k.toNat o_;have l5:(Zda t).length=5:=by cases t<;>rfl
 simp only[Xz,Yu,Kr,Kn];omega
theorem Zr8 (lW lH:Int) (lT:Bool) (lK lC:Int) (h:ZuO (Zc.mk (Pane.mk lW lH lT lK) lC)):v_ 45 [(.d (.agg [J lW,J lH,.bool lT,J lK,J lC]))] []=some (.d (.str (ZmP (Zc.mk (Pane.mk lW lH lT lK) lC))),[]):=by
 have hw:=ZnW (Zc.mk (Pane.mk lW lH lT lK) lC) h;obtain⟨h1,h2,h3,h4⟩:=h;simp only[six] at h1 h2 h3 h4;have e1:=XQ lC h1.1 o_;have e2:=XQ lW h2.1 o_;have e3:=XQ lH h3.1 o_;have e4:=XQ lK h4.1 o_;have e5:=Zgf (Xz (Zc.mk (Pane.mk lW lH lT lK) lC)) 32 (by simp[Xz]) (by simp[Xz]) o_;simp only[Xz,Kk,Kt] at e5;unfold ZmP;simp only[Xz];refine cE ?_;cases lT with
 | true=>
  simp only[Zda,Zb7,Kl] at e5 ⊢;simp (maxSteps:=10^7) +contextual -implicitDefEqProofs only[go_sem,seval,Zf6,e1,e2,e3,e4,e5]
 | false=>
  simp only[Zda,Zhi,Ka,Km] at e5 ⊢;simp (maxSteps:=10^7) +contextual -implicitDefEqProofs only[go_sem,seval,Zf6,e1,e2,e3,e4,e5]
end Go.Proofs.YtfnegoimdljanaaGreatDoor
namespace Go.Proofs.YtfnegoimdljanaaGreatDoor
open Go Go.Abs Go.Abs.E Go.Abs.L
set_option maxRecDepth 20000
set_option maxHeartbeats 4000000
def JT:List UInt8:=[115,104,101,101,116]
def Zdc:List UInt8:=[102,108,97,119]
def U4:List UInt8:=[111,114,100,101,114]
def Zlh:List UInt8:=[99,117,116]
def U5:List UInt8:=[98,114,101,97,107]
def JU:List UInt8:=[115,99,114,97,112]
inductive Ev where
 | sheet (l w h:Nat)
 | flaw (l x y w h:Nat)
 | order (n:Zc)
 | cut (l:Nat) (b:BT)
 | brk (n:Zc)
 | scrap (l:Nat)
deriving DecidableEq
def bx0:Box:=⟨0,0,0,0⟩
def ln0:Zc:=⟨⟨0,0,false,0⟩,0⟩
def Ev.ev:Ev→Zo
 | .sheet l w h=>⟨0,l,⟨0,0,w,h⟩,ln0,BT.waste.plan⟩
 | .flaw l x y w h=>⟨1,l,⟨x,y,w,h⟩,ln0,BT.waste.plan⟩
 | .order n=>⟨2,0,bx0,n,BT.waste.plan⟩
 | .cut l b=>⟨3,l,bx0,ln0,b.plan⟩
 | .brk n=>⟨4,0,bx0,n,BT.waste.plan⟩
 | .scrap l=>⟨5,l,bx0,ln0,BT.waste.plan⟩
def Ev.words:Ev→List (List UInt8)
 | .sheet l w h=>[JT,num l,num w,num h]
 | .flaw l x y w h=>[Zdc,num l,num x,num y,num w,num h]
 | .order n=>U4 :: Xz n
 | .cut l b=>[Zlh,num l,shw b]
 | .brk n=>U5 :: Xz n
 | .scrap l=>[JU,num l]
def Ev.text (v:Ev):List UInt8:=Yu 32 v.words
def Zr9 (b:BT):Prop:=b.cnt≤255∧WQ b=true∧(shw b).length≤1600
instance (b:BT):Decidable (Zr9 b):=by unfold Zr9;infer_instance
def Ev.ok:Ev→Prop
 | .sheet l w h=>l≤999999∧w≤999999∧h≤999999
 | .flaw l x y w h=>l≤999999∧x≤999999∧y≤999999∧w≤999999∧h≤999999
 | .order n=>ZuO n
 | .cut l b=>l≤999999∧Zr9 b
 | .brk n=>ZuO n
 | .scrap l=>l≤999999
def ZuQ (s:List UInt8):Option BT:=if s.length≤1600 then ZmM s else none
theorem Zli {s:List UInt8} {b:BT}:ZuQ s=some b↔s=shw b∧Zr9 b:=by
 unfold ZuQ;constructor
 ·intro h;split at h
  ·rename_i hl;obtain⟨h1,h2,h3⟩:=Zhf.1 h;exact⟨h1,h2,h3,h1 ▸ hl⟩
  ·cases h
 ·rintro ⟨rfl,h1,h2,h3⟩
  rw[Kj h3];exact ZAm h1 h2
def ZaG:List (List UInt8)→Option (List Nat)
 | []=>some []
 | w :: r=>(rd w).bind fun n=>(ZaG r).bind fun l=>some (n :: l)
theorem Zhj:∀ {ws:List (List UInt8)} {ns:List Nat},ZaG ws=some ns→ws=ns.map num∧∀ n∈ns,n≤999999
 | [],ns,h=>by simp[ZaG] at h;subst h;simp
 | w :: r,ns,h=>by
  simp only[ZaG,Lf] at h;obtain⟨n,h1,l,h2,h3⟩:=h;cases h3;obtain⟨e1,b1⟩:=Zc8 h1;obtain⟨e2,b2⟩:=Zhj h2;refine⟨by rw[e1,e2];rfl,fun x hx=>?_⟩;rcases Kd.1 hx with rfl | hx
  ·exact b1
  ·exact b2 x hx
theorem Zfq:∀ {ns:List Nat},(∀ n∈ns,n≤999999)→ZaG (ns.map num)=some ns
 | [],_=>rfl
 | n :: r,h=>by
  have ih:=Zfq (ns:=r) (fun x hx=>h x (Kv _ hx));simp only[Kk,ZaG,Zhb (h n (Lh ..)),KN,ih]
def Zfr (w:List UInt8):List Nat→Option Ev
 | [l]=>if w=JU then some (.scrap l) else none
 | [l,a,b]=>if w=JT then some (.sheet l a b) else none
 | [l,x,y,a,b]=>if w=Zdc then some (.flaw l x y a b) else none
 | _=>none
def Zy7:List (List UInt8)→Option Ev
 | [a,p]=>(rd a).bind fun l=>(ZuQ p).bind fun b=>some (.cut l b)
 | _=>none
def Wp:List (List UInt8)→Option Ev
 | []=>none
 | w :: r=>if w=U4 then (Zgs r).bind fun n=>some (.order n) else if w=U5 then (Zgs r).bind fun n=>some (.brk n) else if w=Zlh then Zy7 r else (ZaG r).bind (Zfr w)
theorem ZuR {ws:List (List UInt8)} {v:Ev} (h:Wp ws=some v):ws=v.words∧v.ok:=by
 cases ws with
 | nil=>simp[Wp] at h
 | cons w r=>
  simp only[Wp] at h;split at h
  ·rename_i hw;simp only[Lf] at h;obtain⟨n,h1,h2⟩:=h;cases h2;obtain⟨e,s⟩:=Ztv h1;exact⟨by rw[hw,e];rfl,s⟩
  ·split at h
   ·rename_i hw;simp only[Lf] at h;obtain⟨n,h1,h2⟩:=h;cases h2;obtain⟨e,s⟩:=Ztv h1;exact⟨by rw[hw,e];rfl,s⟩
   ·split at h
    ·rename_i hw;unfold Zy7 at h;split at h
     ·simp only[Lf] at h;obtain⟨n,h1,b,h2,h3⟩:=h;cases h3;obtain⟨e1,b1⟩:=Zc8 h1;obtain⟨e2,b2⟩:=Zli.1 h2;exact⟨by rw[hw,e1,e2];rfl,b1,b2⟩
     ·cases h
    ·simp only[Lf] at h;obtain⟨ns,h1,h2⟩:=h;obtain⟨e1,b1⟩:=Zhj h1;unfold Zfr at h2;split at h2
     ·split at h2
      ·rename_i hw;cases h2;exact⟨by rw[hw,e1];rfl,b1 _ (by simp)⟩
      ·cases h2
     ·split at h2
      ·rename_i hw;cases h2;exact⟨by rw[hw,e1];rfl,b1 _ (by simp),b1 _ (by simp),b1 _ (by simp)⟩
      ·cases h2
     ·split at h2
      ·rename_i hw;cases h2;exact⟨by rw[hw,e1];rfl,b1 _ (by simp),b1 _ (by simp),b1 _ (by simp),b1 _ (by simp),b1 _ (by simp)⟩
      ·cases h2
     ·cases h2
theorem Zsa {v:Ev} (h:v.ok):Wp v.words=some v:=by
 have d1:¬JT=U4:=by decide
 have d2:¬JT=U5:=by decide
 have d3:¬JT=Zlh:=by decide
 have d4:¬Zdc=U4:=by decide
 have d5:¬Zdc=U5:=by decide
 have d6:¬Zdc=Zlh:=by decide
 have d7:¬JU=U4:=by decide
 have d8:¬JU=U5:=by decide
 have d9:¬JU=Zlh:=by decide
 have aa:¬Zlh=U4:=by decide
 have ab:¬Zlh=U5:=by decide
 have ad:¬U5=U4:=by decide
 cases v with
 | sheet l w h' =>
  obtain⟨h1,h2,h3⟩:=h;have e:=Zfq (ns:=[l,w,h']) (by simp;omega);simp only[Kk,Kt] at e;simp only[Ev.words,Wp,Ke d1,Ke d2,Ke d3,e,KN,Zfr,Kl]
 | flaw l x y w h' =>
  obtain⟨h1,h2,h3,h4,h5⟩:=h;have e:=Zfq (ns:=[l,x,y,w,h']) (by simp;omega);simp only[Kk,Kt] at e;simp only[Ev.words,Wp,Ke d4,Ke d5,Ke d6,e,KN,Zfr,Kl]
 | order n=>simp only[Ev.words,Wp,Kl,Zq1 (l:=n) h,KN]
 | brk n=>simp only[Ev.words,Wp,Ke ad,Kl,Zq1 (l:=n) h,KN]
 | cut l b=>
  obtain⟨h1,h2⟩:=h;simp only[Ev.words,Wp,Ke aa,Ke ab,Kl,Zy7,Zhb h1,Zli.2 ⟨rfl,h2⟩,KN]
 | scrap l=>
  have h1:l≤999999:=h;have e:=Zfq (ns:=[l]) (by simp;omega);simp only[Kk,Kt] at e;simp only[Ev.words,Wp,Ke d7,Ke d8,Ke d9,e,KN,Zfr,Kl]
theorem Zq3 {c:UInt8} (hd:isD c=false) (h:c≠119∧c≠112∧c≠116∧c≠100∧c≠97∧c≠40∧c≠44∧c≠41):∀ b:BT,c∉shw b
 | .waste=>by simp[shw,h]
 | .pane i t=>by
  simp only[shw,Kd,not_or];exact⟨by cases t<;>simp[h],Ul hd _⟩
 | .cut d a l r=>by
  simp only[shw,Kd,Kh,not_or,KC,not_false_eq_true,and_true];exact⟨by cases d<;>simp[h],Ul hd _,h.2.2.2.2.2.1,Zq3 hd h l,h.2.2.2.2.2.2.1,Zq3 hd h r,h.2.2.2.2.2.2.2⟩
theorem ZC8 (v:Ev):∀ w∈v.words,(32:UInt8)∉w:=by
 intro w hw;cases v with
 | order n=>
  rcases Kd.1 hw with rfl | hw
  ·decide
  ·exact Zq0 n w hw
 | brk n=>
  rcases Kd.1 hw with rfl | hw
  ·decide
  ·exact Zq0 n w hw
 | cut l b=>
  simp only[Ev.words,Kd,KC,or_false] at hw;rcases hw with rfl | rfl | rfl
  ·decide
  ·exact Ul rfl _
  ·exact Zq3 rfl (by decide) b
 | sheet l a b=>
  simp only[Ev.words,Kd,KC,or_false] at hw;rcases hw with rfl | rfl | rfl | rfl<;>first | decide | exact Ul rfl _
 | flaw l x y a b=>
  simp only[Ev.words,Kd,KC,or_false] at hw;rcases hw with rfl | rfl | rfl | rfl | rfl | rfl<;>first | decide | exact Ul rfl _
 | scrap l=>
  simp only[Ev.words,Kd,KC,or_false] at hw;rcases hw with rfl | rfl<;>first | decide | exact Ul rfl _
theorem ZC9 (v:Ev):(10:UInt8)∉v.text:=by
 refine Zwn (by decide) fun w hw=>?_;have ln:∀ n:Zc,∀ w∈Xz n,(10:UInt8)∉w:=by
  intro n w hw;simp only[Xz,Kd,KC,or_false] at hw;rcases hw with rfl | rfl | rfl | rfl | rfl<;>first | exact Ul rfl _ | exact Zx3 _
 cases v with
 | order n=>
  rcases Kd.1 hw with rfl | hw
  ·decide
  ·exact ln n w hw
 | brk n=>
  rcases Kd.1 hw with rfl | hw
  ·decide
  ·exact ln n w hw
 | cut l b=>
  simp only[Ev.words,Kd,KC,or_false] at hw;rcases hw with rfl | rfl | rfl
  ·decide
  ·exact Ul rfl _
  ·exact Zq3 rfl (by decide) b
 | sheet l a b=>
  simp only[Ev.words,Kd,KC,or_false] at hw;rcases hw with rfl | rfl | rfl | rfl<;>first | decide | exact Ul rfl _
 | flaw l x y a b=>
  simp only[Ev.words,Kd,KC,or_false] at hw;rcases hw with rfl | rfl | rfl | rfl | rfl | rfl<;>first | decide | exact Ul rfl _
 | scrap l=>
  simp only[Ev.words,Kd,KC,or_false] at hw;rcases hw with rfl | rfl<;>first | decide | exact Ul rfl _
def ZoE (s:List UInt8):Option Ev:=Wp (Z1 32 s)
theorem ZBN (v:Ev):v.words≠[]:=by cases v<;>simp[Ev.words]
theorem ZmT {s:List UInt8} {v:Ev}:ZoE s=some v↔s=v.text∧v.ok:=by
 unfold ZoE;constructor
 ·intro h;obtain⟨h1,h2⟩:=ZuR h;exact⟨by rw[Ev.text,← h1,ZqW],h2⟩
 ·rintro ⟨rfl,h⟩
  rw[Ev.text,ZqX (ZBN v) (ZC8 v),Zsa h]
def Zgt:Nat→Nat→List UInt8→List Ev
 | 0,_,_=>[]
 | n+1,k,s=>if 40≤k then [] else match Qh 10 s with
  | none=>[]
  | some i=>match ZoE (s.take i) with
   | none=>[]
   | some v=>v :: Zgt n (k+1) (s.drop (i+1))
def XT (l:List Ev):List UInt8:=Zfp Ev.text l
theorem Zty:∀ {n k:Nat} {l:List Ev} {s:List UInt8},l.length<n→l.length+k≤40→(∀ v∈l,v.ok)→Zgt n k (XT l++s)=l++Zgt (n-l.length) (k+l.length) s
 | n,k,[],s,_,_,_=>by simp[XT,Zfp]
 | 0,k,v :: l,s,hn,_,_=>by omega
 | n+1,k,v :: l,s,hn,hk,ho=>by
  simp only[Kn] at hn hk ⊢;have hi:Qh 10 (XT (v :: l)++s)=some v.text.length:=by
   rw[XT,Zdb,Le,KA];exact ZuP (ZC9 v)
  have e1:(XT (v :: l)++s).take v.text.length=v.text:=by
   rw[XT,Zdb,Le,KA];simp
  have e2:(XT (v :: l)++s).drop (v.text.length+1)=XT l++s:=by
   rw[XT,Zdb,Le,KA,← Kaz];simp[XT]
  have ih:=Zty (n:=n) (k:=k+1) (l:=l) (s:=s) o_ o_ (fun x hx=>ho x (by simp[hx]));rw[Zgt,Ke o_,hi];simp only;rw[e1,ZmT.2 ⟨rfl,ho v (by simp)⟩];simp only;rw[e2,ih,KA];congr 2
  ·congr 1<;>omega
theorem ZmU (c:UInt8) (m:Nat):∀ ws:List (List UInt8),(∀ w∈ws,w.length≤m)→(Yu c ws).length≤ws.length*(m+1)
 | [],_=>by simp[Yu]
 | [x],h=>by have:=h x (by simp);simp[Yu];omega
 | x :: y :: r,h=>by
  have ih:=ZmU c m (y :: r) (fun w hw=>h w (by simp[hw]));have hx:=h x (by simp);simp only[Yu,Kr,Kn] at ih ⊢;rw[KR _ 1];omega
theorem Zwr (n:Int) (h:six n):(num n.toNat).length≤6:=J9 5 n.toNat (by have:=h.1;have:=h.2;omega)
theorem Wq (w:List UInt8) (ns:List Int) (hl:ns.length≤10) (h6:∀ n∈ns,six n) (hw:w.length≤10):v_ 44 [.d (.str w),.d (.sl (ns.map Yi))] []=some (.d (.str (Yu 32 (w :: ns.map fun n=>num n.toNat))),[]):=by
 have ae:(Yu 32 (w :: ns.map fun n=>num n.toNat)).length≤1000:=by
  have:=ZmU 32 10 (w :: ns.map fun n=>num n.toNat) (by
   intro x hx;rcases Kd.1 hx with rfl | hx
   ·exact hw
   ·obtain⟨n,hn,rfl⟩:=Lk.1 hx;have:=Zwr n (h6 n hn);omega)
  simp only[Kn,KB] at this;omega
 have hj:=Zgf (w :: ns.map fun n=>num n.toNat) 32 (by simp) (by simp;omega) o_;simp only[Kk] at hj;refine cE ?_;simp (maxSteps:=10^7) +contextual -implicitDefEqProofs only[go_sem,seval,Zgm];refine LO (α:=Nat) (fun k=>[(12,.d (J (k:Int)))]) (fun k=>[(0,.row 1 ((w :: (ns.take k).map fun n=>num n.toNat).map .str) true false)]) (fun k=>k≤ns.length) (fun k=>ns.length-k) 0 (by simp) ?_;intro k hk ih;by_cases ad:k<ns.length
 ·obtain⟨x,hx⟩:=Zp ad;have ab : (k:Int)<(ns.length:Int):=o_
  have af:=Zh (k:=k) o_;have hs:=h6 x (Kb hx);have e1:=XQ x hs.1 (by have:=hs.2;omega);have aa:((ns.take k).length+1+1)*16≤140737488355328∧(ns.take k).length≤140737488355326:=by simp;omega
  have ht:ns.take (k+1)=ns.take k++[x]:=by rw[KH,hx];rfl
  simp (maxSteps:=10^7) +contextual -implicitDefEqProofs only[go_sem,seval,ab,ad,hx,af,e1,aa,Yi];refine ih (k+1) _ o_ o_ ?_;simp (maxSteps:=10^7) +contextual -implicitDefEqProofs only[go_sem,seval,ht,KJ,Kk,Kt,KA]
 ·have:k=ns.length:=o_
  subst this;simp (maxSteps:=10^7) +contextual -implicitDefEqProofs only[go_sem,seval,Ln,hj]
def WE (e:Zo):List Int:=[e.kind,e.label,e.box.X,e.box.Y,e.box.W,e.box.H,e.line.Pane.W,e.line.Pane.H,e.line.Pane.Kind,e.line.Count]
theorem Zsb (eK eL eX eY eW eH ae af:Int) (ai:Bool) (ag eC eo ea ep:Int) (et:Bool) (ek:List Zf):v_ 43 [(.d (.agg [J eK,J eL,J eX,J eY,J eW,J eH,J ae,J af,.bool ai,J ag,J eC,J eo,J ea,J ep,.bool et,.sl (ek.map Zf.enc)]))] []=some ((.d (.bool (decide (∀ n∈WE (Zo.mk eK eL (Box.mk eX eY eW eH) (Zc.mk (Pane.mk ae af ai ag) eC) (Zf.mk eo ea ep et ek)),six n)))),[]):=by
 obtain⟨xs,aj⟩:∃ xs,xs=WE (Zo.mk eK eL (Box.mk eX eY eW eH) (Zc.mk (Pane.mk ae af ai ag) eC) (Zf.mk eo ea ep et ek)):=⟨_,rfl⟩
 have ab:xs.length=10:=by rw[aj];rfl
 rw[← aj];refine cE ?_;simp (maxSteps:=10^7) +contextual -implicitDefEqProofs only[go_sem,seval,ZlI];have ak:([J eK,J eL,J eX,J eY,J eW,J eH,J ae,J af,J ag,J eC]:List D)=xs.map Yi:=by rw[aj];rfl
 rw[ak];refine LO (α:=Nat) (fun k=>[(38,.d (J (k:Int)))]) (fun _=>[]) (fun k=>k≤10∧∀ n∈xs.take k,six n) (fun k=>10-k) 0 (by simp) ?_;intro k ⟨hk,hp⟩ ih;by_cases ah:k<xs.length
 ·obtain⟨x,hx⟩:=Zp ah;have ad : (k:Int)<10:=o_
  have aa:k<10:=o_
  have al:=Zh (k:=k) o_;by_cases hs:six x
  ·have n1:¬x<0:=by have:=hs.1;omega
   have n2:¬999999<x:=by have:=hs.2;omega
   simp (maxSteps:=10^7) +contextual -implicitDefEqProofs only[go_sem,seval,ad,ah,aa,hx,al,Yi,n1,n2,ab];refine ih (k+1) _ ⟨o_,?_⟩ o_ ?_
   ·intro n hn;rw[KH,hx] at hn;rcases Kh.1 hn with hn | hn
    ·exact hp n hn
    ·simp only[Kax,KG] at hn;rw[hn];exact hs
   ·simp (maxSteps:=10^7) +contextual -implicitDefEqProofs only[go_sem,seval]
  ·have an:decide (∀ n∈xs,six n)=false:=Ki fun h=>hs (h x (Kb hx));rw[an];by_cases n1:x<0
   ·simp (maxSteps:=10^7) +contextual -implicitDefEqProofs only[go_sem,seval,ad,ah,aa,hx,al,Yi,n1,ab]
   ·have n2:999999<x:=by
     rcases Int.lt_or_le 999999 x with h | h
     ·exact h
     ·exact absurd ⟨o_,h⟩ hs
    simp (maxSteps:=10^7) +contextual -implicitDefEqProofs only[go_sem,seval,ad,ah,aa,hx,al,Yi,n1,n2,ab]
 ·have ao:k=10:=o_
  subst ao;have am:decide (∀ n∈xs,six n)=true:=by
   refine Kg fun n hn=>hp n ?_;rw[Kw o_];exact hn
  rw[am];simp (maxSteps:=10^7) +contextual -implicitDefEqProofs only[go_sem,seval,ab]
def ZdE (e:Zo) (b:BT):Option Ev:=
 if e.kind=0 then (if e.box.X=0∧e.box.Y=0 then some (.sheet e.label.toNat e.box.W.toNat e.box.H.toNat) else none)
 else if e.kind=1 then some (.flaw e.label.toNat e.box.X.toNat e.box.Y.toNat e.box.W.toNat e.box.H.toNat)
 else if e.kind=2 then some (.order e.line)
 else if e.kind=3 then some (.cut e.label.toNat b)
 else if e.kind=4 then some (.brk e.line)
 else if e.kind=5 then some (.scrap e.label.toNat)
 else none
def ZcO (e:Zo):Option Ev:=if ∀ n∈WE e,six n then
  match Q8 e.plan with
  | some b=>if Zr9 b then ZdE e b else none
  | none=>none
 else none
def fmtE (e:Zo):List UInt8:=match ZcO e with
 | some v=>v.text
 | none=>[]
theorem Zbt {e:Zo} (h:ZcO e=none):fmtE e=[]:=by unfold fmtE;rw[h]
theorem JV {e:Zo} {v:Ev} (h:ZcO e=some v):fmtE e=v.text:=by unfold fmtE;rw[h]
theorem Zws {e:Zo} (h:¬∀ n∈WE e,six n):ZcO e=none:=by unfold ZcO;rw[Ke h]
theorem Zq4 {e:Zo} (h:∀ b,Q8 e.plan=some b→¬Zr9 b):ZcO e=none:=by
 unfold ZcO;split
 ·cases hb:Q8 e.plan with
  | none=>rfl
  | some b=>simp only;rw[Ke (h b hb)]
 ·rfl
theorem Wr {e:Zo} {b:BT} (h:∀ n∈WE e,six n) (hb:Q8 e.plan=some b) (hp:Zr9 b):ZcO e=ZdE e b:=by
 unfold ZcO;rw[Kj h,hb];simp only;rw[Kj hp]
theorem ZmV (eK eL eX eY eW eH ab ad:Int) (ae:Bool) (af eC eo ea ep:Int) (et:Bool) (ek:List Zf):v_ 16 [(.d (.agg [J eK,J eL,J eX,J eY,J eW,J eH,J ab,J ad,.bool ae,J af,J eC,J eo,J ea,J ep,.bool et,.sl (ek.map Zf.enc)]))] []=some (.d (.str (fmtE (Zo.mk eK eL (Box.mk eX eY eW eH) (Zc.mk (Pane.mk ab ad ae af) eC) (Zf.mk eo ea ep et ek)))),[]):=by
 have e1:=ZoC (.mk eo ea ep et ek);rw[Zf.enc_mk] at e1;have e2:=Zsb eK eL eX eY eW eH ab ad ae af eC eo ea ep et ek;by_cases hw:∀ n∈WE (Zo.mk eK eL (Box.mk eX eY eW eH) (Zc.mk (Pane.mk ab ad ae af) eC) (Zf.mk eo ea ep et ek)),six n
 ·rw[Kg hw] at e2;rcases Zx1 (.mk eo ea ep et ek) with hf | ⟨b,hb,hb1,hb2,hf⟩
  ·rw[hf] at e1;have ai:ZcO (Zo.mk eK eL (Box.mk eX eY eW eH) (Zc.mk (Pane.mk ab ad ae af) eC) (Zf.mk eo ea ep et ek))=none:=by
    refine Zq4 fun b hb hp=>?_;have:=ZmN hb;rw[hf,Kj ⟨hp.1,hp.2.1⟩] at this;cases b<;>cases this
   rw[Zbt ai];refine cE ?_;simp (maxSteps:=10^7) +contextual -implicitDefEqProofs only[go_sem,seval,Z2,e1,e2]
  ·rw[hf] at e1;have aa:(shw b==[])=false:=by cases b<;>rfl
   have aj:Q8 (.mk eo ea ep et ek)=some b:=by rw[hb];exact Yk b
   by_cases hl:(shw b).length≤1600
   ·have ag : ¬(1600:Int)<((shw b).length:Int):=o_
    have hk:=Wr (e:=(Zo.mk eK eL (Box.mk eX eY eW eH) (Zc.mk (Pane.mk ab ad ae af) eC) (Zf.mk eo ea ep et ek))) hw aj ⟨hb1,hb2,hl⟩;simp only[WE,Kd,KC,or_false,forall_eq_or_imp,forall_eq] at hw;obtain⟨n1,n2,n3,n4,n5,n6,n7,n8,n9,am⟩:=hw;simp only[ZdE] at hk;by_cases k0:eK=0
    ·rw[Kj k0] at hk;by_cases ah:eX=0∧eY=0
     ·rw[Kj ah] at hk;rw[JV hk];obtain⟨hx,hy⟩:=ah;subst k0 hx hy;have e3:=Wq JT [eL,eW,eH] (by simp) (by simp[n2,n5,n6]) (by decide);simp only[Kk,Kt,Yi,JT] at e3;simp only[Ev.text,Ev.words,JT];refine cE ?_;simp (maxSteps:=10^7) +contextual -implicitDefEqProofs only[go_sem,seval,Z2,e1,e2,aa,ag,e3]
     ·rw[Ke ah] at hk;rw[Zbt hk];by_cases hx:eX=0
      ·have hy:¬eY=0:=fun h=>ah ⟨hx,h⟩;subst k0 hx;refine cE ?_;simp (maxSteps:=10^7) +contextual -implicitDefEqProofs only[go_sem,seval,Z2,e1,e2,aa,ag,hy]
      ·subst k0;refine cE ?_;simp (maxSteps:=10^7) +contextual -implicitDefEqProofs only[go_sem,seval,Z2,e1,e2,aa,ag,hx]
    rw[Ke k0] at hk;by_cases k1:eK=1
    ·rw[Kj k1] at hk;rw[JV hk];subst k1;have e3:=Wq Zdc [eL,eX,eY,eW,eH] (by simp) (by simp[n2,n3,n4,n5,n6]) (by decide);simp only[Kk,Kt,Yi,Zdc] at e3;simp only[Ev.text,Ev.words,Zdc];refine cE ?_;simp (maxSteps:=10^7) +contextual -implicitDefEqProofs only[go_sem,seval,Z2,e1,e2,aa,ag,e3]
    rw[Ke k1] at hk;have ak:ZuO ⟨⟨ab,ad,ae,af⟩,eC⟩:=⟨am,n7,n8,n9⟩
    have e4:=Zr8 ab ad ae af eC ak;have an:=ZnW ⟨⟨ab,ad,ae,af⟩,eC⟩ ak;have bl:6+(ZmP ⟨⟨ab,ad,ae,af⟩,eC⟩).length≤1152921504606846976:=by unfold ZmP;omega
    by_cases k2:eK=2
    ·rw[Kj k2] at hk;rw[JV hk];subst k2;have ht:Ev.text (.order ⟨⟨ab,ad,ae,af⟩,eC⟩)=[111,114,100,101,114,32]++ZmP ⟨⟨ab,ad,ae,af⟩,eC⟩:=rfl;rw[ht];refine cE ?_;simp (maxSteps:=10^7) +contextual -implicitDefEqProofs only[go_sem,seval,Z2,e1,e2,aa,ag,e4,bl]
    rw[Ke k2] at hk;by_cases k3:eK=3
    ·rw[Kj k3] at hk;rw[JV hk];subst k3;have e3:=Wq Zlh [eL] (by simp) (by simp[n2]) (by decide);simp only[Kk,Kt,Yi,Zlh] at e3;have ao:=Zwr eL n2;have ht:Ev.text (.cut eL.toNat b)=Yu 32 [[99,117,116],num eL.toNat]++[32]++shw b:=by simp[Ev.text,Ev.words,Yu,Zlh]
     have ap:(Yu 32 [[99,117,116],num eL.toNat]).length≤20:=by simp[Yu];omega
     rw[ht];generalize Yu 32 [[99,117,116],num eL.toNat]=jt at *;have b1:jt.length+1≤1152921504606846976:=o_
     have b2:jt.length+1+(shw b).length≤1152921504606846976:=o_
     refine cE ?_;simp (maxSteps:=10^7) +contextual -implicitDefEqProofs only[go_sem,seval,Z2,e1,e2,aa,ag,e3,b1,b2]
    rw[Ke k3] at hk;by_cases k4:eK=4
    ·rw[Kj k4] at hk;rw[JV hk];subst k4;have ht:Ev.text (.brk ⟨⟨ab,ad,ae,af⟩,eC⟩)=[98,114,101,97,107,32]++ZmP ⟨⟨ab,ad,ae,af⟩,eC⟩:=rfl;rw[ht];refine cE ?_;simp (maxSteps:=10^7) +contextual -implicitDefEqProofs only[go_sem,seval,Z2,e1,e2,aa,ag,e4,bl]
    rw[Ke k4] at hk;by_cases k5:eK=5
    ·rw[Kj k5] at hk;rw[JV hk];subst k5;have e3:=Wq JU [eL] (by simp) (by simp[n2]) (by decide);simp only[Kk,Kt,Yi,JU] at e3;simp only[Ev.text,Ev.words,JU];refine cE ?_;simp (maxSteps:=10^7) +contextual -implicitDefEqProofs only[go_sem,seval,Z2,e1,e2,aa,ag,e3]
    ·rw[Ke k5] at hk;rw[Zbt hk];refine cE ?_;simp (maxSteps:=10^7) +contextual -implicitDefEqProofs only[go_sem,seval,Z2,e1,e2,aa,ag,k0,k1,k2,k3,k4,k5]
   ·have ag : (1600:Int)<((shw b).length:Int):=o_
    have ai:ZcO (Zo.mk eK eL (Box.mk eX eY eW eH) (Zc.mk (Pane.mk ab ad ae af) eC) (Zf.mk eo ea ep et ek))=none:=by
     refine Zq4 fun b' al hp=>?_;rw[show Q8 (Zo.plan (Zo.mk eK eL (Box.mk eX eY eW eH) (Zc.mk (Pane.mk ab ad ae af) eC) (Zf.mk eo ea ep et ek)))=Q8 (.mk eo ea ep et ek) from rfl,aj] at al;cases al;exact hl hp.2.2
    rw[Zbt ai];refine cE ?_;simp (maxSteps:=10^7) +contextual -implicitDefEqProofs only[go_sem,seval,Z2,e1,e2,aa,ag]
 ·rw[Ki hw] at e2;rw[Zbt (Zws hw)];refine cE ?_;simp (maxSteps:=10^7) +contextual -implicitDefEqProofs only[go_sem,seval,Z2,e1,e2]
end Go.Proofs.YtfnegoimdljanaaGreatDoor
namespace Go.Proofs.YtfnegoimdljanaaGreatDoor
open Go Go.Abs Go.Abs.E Go.Abs.L
set_option maxRecDepth 20000
set_option maxHeartbeats 4000000
def evZ:Zo:=⟨0,0,bx0,ln0,BT.waste.plan⟩
def evM (m:Option Ev):Zo:=match m with
 | some v=>v.ev
 | none=>evZ
def PeT (res:Option (AV×List Zk)) (m:Option Ev):Prop:=∃ (K L X Y W H pW pH:Int) (pT:Bool) (pK C o a q:Int) (t:Bool) (ks:List Zf),
 res=some (.tup [.agg [(.d (J K)),(.d (J L)),(.d (J X)),(.d (J Y)),(.d (J W)),(.d (J H)),(.d (J pW)),(.d (J pH)),(.d (.bool pT)),(.d (J pK)),(.d (J C)),(.d (J o)),(.d (J a)),(.d (J q)),(.d (.bool t)),.own 0],(.d (.bool (m.isSome)))],[plO ks]) ∧
 Zo.mk K L ⟨X,Y,W,H⟩ ⟨⟨pW,pH,pT,pK⟩,C⟩ (.mk o a q t ks)=evM m
theorem ZjW {res:Option (AV×List Zk)} (h:res=some (.tup [.agg [(.d (J 0)),(.d (J 0)),(.d (J 0)),(.d (J 0)),(.d (J 0)),(.d (J 0)),(.d (J 0)),(.d (J 0)),(.d (.bool false)),(.d (J 0)),(.d (J 0)),(.d (J 0)),(.d (J 0)),(.d (J 0)),(.d (.bool false)),.own 0],(.d (.bool false))],[.row 5 [] true false])):PeT res none:=
 ⟨0,0,0,0,0,0,0,0,false,0,0,0,0,0,false,[],h,rfl⟩
def rcM (s:List UInt8):Option Ev:=match Qh 32 s with
 | none=>none
 | some i=>(rd (s.take i)).bind fun l=>(ZuN (s.drop (i+1))).bind fun b=>some (.cut l b)
theorem ZBO:ZuN []=none:=rfl
theorem ZuS (s:List UInt8) (hs:s.length≤1048576):PeT (v_ 71 [.d (.str s)] []) (rcM s):=by
 have e1:=Zb8 s 32 hs;unfold rcM;cases hi:Qh 32 s with
 | none=>
  rw[hi] at e1;simp only at e1 ⊢;have e2:=W6 s;obtain⟨o,a,q,t,ks,e3,h3⟩:=Zhg [] (by simp);rw[ZBO] at e3;simp only[KP] at e3;refine ZjW ?_;cases hr:rd s with
  | none=>
   rw[hr] at e2;simp only[Zfn] at e2;refine cE ?_;cases ks<;>simp (maxSteps:=10^7) +contextual -implicitDefEqProofs only[go_sem,seval,Uz,e1,e2,e3]
  | some v=>
   rw[hr] at e2;simp only[Zfn] at e2;refine cE ?_;cases ks<;>simp (maxSteps:=10^7) +contextual -implicitDefEqProofs only[go_sem,seval,Uz,e1,e2,e3]
 | some i=>
  rw[hi] at e1;simp only at e1 ⊢;have e2:=W6 (s.take i);obtain⟨o,a,q,t,ks,e3,h3⟩:=Zhg (s.drop (i+1)) (by simp;omega);cases hr:rd (s.take i) with
  | none=>
   rw[hr] at e2;simp only[Zfn] at e2;refine ZjW ?_;refine cE ?_;cases ks<;>simp (maxSteps:=10^7) +contextual -implicitDefEqProofs only[go_sem,seval,Uz,e1,e2,e3]
  | some v=>
   rw[hr] at e2;simp only[Zfn] at e2;cases hp:ZuN (s.drop (i+1)) with
   | none=>
    rw[hp] at e3;simp only[KP] at e3;refine ZjW ?_;refine cE ?_;cases ks<;>simp (maxSteps:=10^7) +contextual -implicitDefEqProofs only[go_sem,seval,Uz,e1,e2,e3]
   | some b=>
    rw[hp] at e3 h3;simp only[Lg] at e3;refine⟨3,v,0,0,0,0,0,0,false,0,0,o,a,q,t,ks,?_,?_⟩
    ·refine cE ?_;cases ks<;>simp (maxSteps:=10^7) +contextual -implicitDefEqProofs only[go_sem,seval,Uz,e1,e2,e3]
     all_goals rfl
    ·rw[h3];rfl
theorem Zlj (w:List UInt8) (vs:List Nat) (hl:vs.length≤2000000):PeT (v_ 74 [.d (.str w),.d (.sl ((vs.map fun n:Nat=>(n:Int)).map Yi))] []) (Zfr w vs):=by
 by_cases h3:w=JT∧vs.length=3
 ·obtain⟨rfl,h⟩:=h3;obtain⟨a,b,c,rfl⟩:∃ a b c,vs=[a,b,c]:=by
   match vs,h with
   | [a,b,c],_=>exact⟨a,b,c,rfl⟩
  refine⟨0,a,0,0,b,c,0,0,false,0,0,0,0,0,false,[],?_,rfl⟩;simp only[Kk,Kt,Yi,JT];refine cE ?_;simp (maxSteps:=10^7) +contextual -implicitDefEqProofs only[go_sem,seval,Q1]
  all_goals rfl
 by_cases h5:w=Zdc∧vs.length=5
 ·obtain⟨rfl,h⟩:=h5;obtain⟨a,b,c,d,f,rfl⟩:∃ a b c d f,vs=[a,b,c,d,f]:=by
   match vs,h with
   | [a,b,c,d,f],_=>exact⟨a,b,c,d,f,rfl⟩
  refine⟨1,a,b,c,d,f,0,0,false,0,0,0,0,0,false,[],?_,rfl⟩;have q1:(Zdc==[115,104,101,101,116])=false:=rfl;have q2:(Zdc==[102,108,97,119])=true:=rfl;simp only[Kk,Kt,Yi];refine cE ?_;simp (maxSteps:=10^7) +contextual -implicitDefEqProofs only[go_sem,seval,Q1,q1,q2]
  all_goals rfl
 by_cases h1:w=JU∧vs.length=1
 ·obtain⟨rfl,h⟩:=h1;obtain⟨a,rfl⟩:∃ a,vs=[a]:=by
   match vs,h with
   | [a],_=>exact⟨a,rfl⟩
  refine⟨5,a,0,0,0,0,0,0,false,0,0,0,0,0,false,[],?_,rfl⟩;have q1:(JU==[115,104,101,101,116])=false:=rfl;have q2:(JU==[102,108,97,119])=false:=rfl;have q3:(JU==[115,99,114,97,112])=true:=rfl;simp only[Kk,Kt,Yi];refine cE ?_;simp (maxSteps:=10^7) +contextual -implicitDefEqProofs only[go_sem,seval,Q1,q1,q2,q3]
  all_goals rfl
 ·have aa:Zfr w vs=none:=by
   unfold Zfr;split
   ·rw[Ke (fun e=>h1 ⟨e,rfl⟩)]
   ·rw[Ke (fun e=>h3 ⟨e,rfl⟩)]
   ·rw[Ke (fun e=>h5 ⟨e,rfl⟩)]
   ·rfl
  rw[aa];refine ZjW ?_;have p1:(w==[115,104,101,101,116])=true→¬(vs.length:Int)=3:=fun h e=>h3 ⟨by simpa [JT] using h,o_⟩;have p2:(w==[102,108,97,119])=true→¬(vs.length:Int)=5:=fun h e=>h5 ⟨by simpa [Zdc] using h,o_⟩;have p3:(w==[115,99,114,97,112])=true→¬(vs.length:Int)=1:=fun h e=>h1 ⟨by simpa [JU] using h,o_⟩;cases q1:(w==[115,104,101,101,116]) with
  | true=>
   have e:w=JT:=by simpa [JT] using q1
   have q2:(w==[102,108,97,119])=false:=by rw[e];rfl
   have q3:(w==[115,99,114,97,112])=false:=by rw[e];rfl
   have p1:=p1 q1;refine cE ?_;simp (maxSteps:=10^7) +contextual -implicitDefEqProofs only[go_sem,seval,Q1,q1,q2,q3,p1,KB]
  | false=>
   cases q2:(w==[102,108,97,119]) with
   | true=>
    have e:w=Zdc:=by simpa [Zdc] using q2
    have q3:(w==[115,99,114,97,112])=false:=by rw[e];rfl
    have p2:=p2 q2;refine cE ?_;simp (maxSteps:=10^7) +contextual -implicitDefEqProofs only[go_sem,seval,Q1,q1,q2,q3,p2,KB]
   | false=>
    cases q3:(w==[115,99,114,97,112]) with
    | true=>
     have p3:=p3 q3;refine cE ?_;simp (maxSteps:=10^7) +contextual -implicitDefEqProofs only[go_sem,seval,Q1,q1,q2,q3,p3,KB]
    | false=>
     refine cE ?_;simp (maxSteps:=10^7) +contextual -implicitDefEqProofs only[go_sem,seval,Q1,q1,q2,q3]
theorem Zq5:∀ ws:List (List UInt8),ZaX ws=(ZaG ws).map fun ns=>ns.map fun n:Nat=>(n:Int)
 | []=>rfl
 | w :: r=>by
  simp only[ZaX,ZaG,Zq5 r];cases rd w with
  | none=>rfl
  | some v=>cases ZaG r<;>rfl
theorem Zwt (s:List UInt8):Zy7 (Z1 32 s)=rcM s:=by
 rw[Zbs];unfold rcM;cases hi:Qh 32 s with
 | none=>rfl
 | some i=>
  simp only;rw[Zbs 32 (s.drop (i+1))];cases hj:Qh 32 (s.drop (i+1)) with
  | none=>rfl
  | some j=>
   simp only;have aa:ZuN (s.drop (i+1))=none:=by
    cases hp:ZuN (s.drop (i+1)) with
    | none=>rfl
    | some b=>
     obtain⟨_,h2,_⟩:=ZAn.1 hp;obtain⟨h3,_⟩:=Vl hj;have h4:(32:UInt8)∉shw b:=Zq3 rfl (by decide) b;rw[← h2] at h4;exact absurd (by rw[h3];simp) h4
   rw[aa];have ab:=Zbr 32 ((s.drop (i+1)).drop (j+1));cases hs:Z1 32 ((s.drop (i+1)).drop (j+1)) with
   | nil=>exact absurd hs ab
   | cons x r=>cases rd (s.take i)<;>rfl
def Zq6 (w rest:List UInt8):Option Ev:=if w=U4 then (Zgs (Z1 32 rest)).bind fun n=>some (.order n)
 else if w=U5 then (Zgs (Z1 32 rest)).bind fun n=>some (.brk n)
 else if w=Zlh then rcM rest else (ZaG (Z1 32 rest)).bind (Zfr w)
theorem ZBP (s:List UInt8):ZoE s=match Qh 32 s with
  | none=>Zq6 s []
  | some i=>Zq6 (s.take i) (s.drop (i+1)):=by
 unfold ZoE Zq6;rw[Zbs];cases hi:Qh 32 s with
 | none=>
  simp only[Wp];by_cases h1:s=U4
  ·rw[Kj h1,Kj h1];rfl
  rw[Ke h1,Ke h1];by_cases h2:s=U5
  ·rw[Kj h2,Kj h2];rfl
  rw[Ke h2,Ke h2];by_cases h3:s=Zlh
  ·rw[Kj h3,Kj h3];rfl
  rw[Ke h3,Ke h3];rfl
 | some i=>
  simp only[Wp,Zwt]
theorem ZoF (s:List UInt8) (hs:s.length≤1048576):PeT (v_ 37 [.d (.str s)] []) (ZoE s):=by
 have e1:=Zb8 s 32 hs;have ab:∀ (w aa:List UInt8) (f:Bool),aa.length≤s.length→v_ 36 [.d (.str s),.d (.str [32])] []=some (.tup [.d (.str w),.d (.str aa),(.d (.bool f))],[])→PeT (v_ 37 [.d (.str s)] []) (Zq6 w aa):=by
  intro w aa f hr e1;have e2:=Zr7 aa o_;unfold Zq6;by_cases h1:w=U4∨w=U5
  ·rcases h1 with rfl | rfl
   ·rw[Kj rfl];have q1:(U4==[111,114,100,101,114])=true:=rfl;have q2:(U4==[98,114,101,97,107])=false:=rfl;cases hl:Zgs (Z1 32 aa) with
    | none=>
     rw[hl] at e2;simp only[rlV] at e2;refine ZjW ?_;refine cE ?_;simp (maxSteps:=10^7) +contextual -implicitDefEqProofs only[go_sem,seval,XI,e1,q1,q2,e2]
    | some l=>
     obtain⟨⟨W,H,T,K⟩,C⟩:=l;rw[hl] at e2;simp only[rlV,Zc.enc] at e2;refine⟨2,0,0,0,0,0,W,H,T,K,C,0,0,0,false,[],?_,rfl⟩;refine cE ?_;simp (maxSteps:=10^7) +contextual -implicitDefEqProofs only[go_sem,seval,XI,e1,q1,q2,e2]
     all_goals rfl
   ·rw[Ke (by decide),Kj rfl];have q1:(U5==[111,114,100,101,114])=false:=rfl;have q2:(U5==[98,114,101,97,107])=true:=rfl;cases hl:Zgs (Z1 32 aa) with
    | none=>
     rw[hl] at e2;simp only[rlV] at e2;refine ZjW ?_;refine cE ?_;simp (maxSteps:=10^7) +contextual -implicitDefEqProofs only[go_sem,seval,XI,e1,q1,q2,e2]
    | some l=>
     obtain⟨⟨W,H,T,K⟩,C⟩:=l;rw[hl] at e2;simp only[rlV,Zc.enc] at e2;refine⟨4,0,0,0,0,0,W,H,T,K,C,0,0,0,false,[],?_,rfl⟩;refine cE ?_;simp (maxSteps:=10^7) +contextual -implicitDefEqProofs only[go_sem,seval,XI,e1,q1,q2,e2]
     all_goals rfl
  have n1:¬w=U4:=fun h=>h1 (.inl h);have n2:¬w=U5:=fun h=>h1 (.inr h);have q1:(w==[111,114,100,101,114])=false:=by simpa [U4] using n1
  have q2:(w==[98,114,101,97,107])=false:=by simpa [U5] using n2
  rw[Ke n1,Ke n2];by_cases h3:w=Zlh
  ·rw[Kj h3];have q3:(w==[99,117,116])=true:=by rw[h3];rfl
   obtain⟨K,L,X,Y,W,H,pW,pH,pT,pK,C,o,a,q,t,ks,e3,h⟩:=ZuS aa o_;refine⟨K,L,X,Y,W,H,pW,pH,pT,pK,C,o,a,q,t,ks,?_,h⟩;refine cE ?_;cases ks<;>simp (maxSteps:=10^7) +contextual -implicitDefEqProofs only[go_sem,seval,XI,e1,q1,q2,q3,e3]
  ·rw[Ke h3];have q3:(w==[99,117,116])=false:=by simpa [Zlh] using h3
   have e3:=Zey aa 32 o_;have hc:(Z1 32 aa).length≤1048577:=by rw[ZmQ];have:aa.count 32≤aa.length:=List.count_le_length;omega
   generalize Z1 32 aa=ws at e3 hc;have e4:=Zez ws o_;have ad:List.take ws.length (List.map D.str ws)=List.map D.str ws:=Kw (by simp);rw[Zq5] at e4;cases hn:ZaG ws with
   | none=>
    rw[hn] at e4;simp only[Option.map_none,rnV] at e4;refine ZjW ?_;refine cE ?_;simp (maxSteps:=10^7) +contextual -implicitDefEqProofs only[go_sem,seval,XI,e1,q1,q2,q3,e3,e4,ad,List.drop_zero]
   | some ns=>
    rw[hn] at e4;simp only[K4,rnV] at e4;have ae:ns.length≤1048577:=by
     have:=(Zhj hn).1;rw[this,KB] at hc;exact hc
    simp only[KN];obtain⟨K,L,X,Y,W,H,pW,pH,pT,pK,C,o,a,q,t,ks,e5,h⟩:=Zlj w ns o_;refine⟨K,L,X,Y,W,H,pW,pH,pT,pK,C,o,a,q,t,ks,?_,h⟩;refine cE ?_;cases ks<;>simp (maxSteps:=10^7) +contextual -implicitDefEqProofs only[go_sem,seval,XI,e1,q1,q2,q3,e3,e4,ad,List.drop_zero,e5]
 rw[ZBP];cases hi:Qh 32 s with
 | none=>
  rw[hi] at e1;exact ab _ _ _ (by simp) e1
 | some i=>
  rw[hi] at e1;exact ab _ _ _ (by simp) e1
theorem Zb9:Zr9 .waste:=⟨by decide,rfl,by decide⟩
theorem ZDa {v:Ev} (h:v.ok):ZcO v.ev=some v:=by
 cases v with
 | sheet l w g=>
  obtain⟨h1,h2,h3⟩:=h;rw[Wr (b:=.waste) (by simp[WE,Ev.ev,six,ln0];omega) (Yk .waste) Zb9];simp[ZdE,Ev.ev]
 | flaw l x y w g=>
  obtain⟨h1,h2,h3,h4,h5⟩:=h;rw[Wr (b:=.waste) (by simp[WE,Ev.ev,six,ln0];omega) (Yk .waste) Zb9];simp[ZdE,Ev.ev]
 | order n=>
  obtain⟨h1,h2,h3,h4⟩:=h;simp only[six] at h1 h2 h3 h4;rw[Wr (b:=.waste) (by simp[WE,Ev.ev,six,bx0];omega) (Yk .waste) Zb9];simp[ZdE,Ev.ev]
 | cut l b=>
  obtain⟨h1,h2⟩:=h;rw[Wr (b:=b) (by simp[WE,Ev.ev,six,bx0,ln0];omega) (Yk b) h2];simp[ZdE,Ev.ev]
 | brk n=>
  obtain⟨h1,h2,h3,h4⟩:=h;simp only[six] at h1 h2 h3 h4;rw[Wr (b:=.waste) (by simp[WE,Ev.ev,six,bx0];omega) (Yk .waste) Zb9];simp[ZdE,Ev.ev]
 | scrap l=>
  have h1:l≤999999:=h;rw[Wr (b:=.waste) (by simp[WE,Ev.ev,six,bx0,ln0];omega) (Yk .waste) Zb9];simp[ZdE,Ev.ev]
theorem Zy8 {e:Zo} {v:Ev} (hv:ZcO e=some v):v.ok∧v.ev.kind=e.kind:=by
 have aa:∀ n∈WE e,six n:=Classical.byContradiction fun h=>by rw[Zws h] at hv;cases hv
 obtain⟨b,hb,ab⟩:∃ b,Q8 e.plan=some b∧Zr9 b:=Classical.byContradiction fun h=>by
  rw[Zq4 (e:=e) fun b hb hp=>h ⟨b,hb,hp⟩] at hv;cases hv
 rw[Wr aa hb ab] at hv;simp only[WE,Kd,KC,or_false,forall_eq_or_imp,forall_eq] at aa;obtain⟨n1,n2,n3,n4,n5,n6,n7,n8,n9,ae⟩:=aa;have ad:ZuO e.line:=⟨ae,n7,n8,n9⟩
 simp only[six] at n2 n3 n4 n5 n6;unfold ZdE at hv;by_cases k0:e.kind=0
 ·rw[Kj k0] at hv;split at hv
  ·cases hv;exact⟨⟨o_,o_,o_⟩,k0.symm⟩
  ·cases hv
 rw[Ke k0] at hv;by_cases k1:e.kind=1
 ·rw[Kj k1] at hv;cases hv;exact⟨⟨o_,o_,o_,o_,o_⟩,k1.symm⟩
 rw[Ke k1] at hv;by_cases k2:e.kind=2
 ·rw[Kj k2] at hv;cases hv;exact⟨ad,k2.symm⟩
 rw[Ke k2] at hv;by_cases k3:e.kind=3
 ·rw[Kj k3] at hv;cases hv;exact⟨⟨o_,ab⟩,k3.symm⟩
 rw[Ke k3] at hv;by_cases k4:e.kind=4
 ·rw[Kj k4] at hv;cases hv;exact⟨ad,k4.symm⟩
 rw[Ke k4] at hv;by_cases k5:e.kind=5
 ·rw[Kj k5] at hv;cases hv;exact⟨by show e.label.toNat≤999999;omega,k5.symm⟩
 ·rw[Ke k5] at hv;cases hv
theorem ZAp {v:Ev} (h:v.ok):v.words.length≤6∧∀ w∈v.words,w.length≤1600:=by
 have nl:∀ n:Nat,n≤999999→(num n).length≤1600:=fun n hn=>by have:=J9 5 n o_;omega
 have ln:∀ l:Zc,ZuO l→(Xz l).length=5∧∀ w∈Xz l,w.length≤1600:=by
  intro l hl;obtain⟨h1,h2,h3,h4⟩:=hl;simp only[six] at h1 h2 h3 h4;refine⟨rfl,fun w hw=>?_⟩;simp only[Xz,Kd,KC,or_false] at hw;rcases hw with rfl | rfl | rfl | rfl | rfl
  ·exact nl _ o_
  ·exact nl _ o_
  ·exact nl _ o_
  ·cases l.Pane.Turns<;>decide
  ·exact nl _ o_
 cases v with
 | sheet l w g=>
  obtain⟨h1,h2,h3⟩:=h;refine⟨by simp[Ev.words],fun x hx=>?_⟩;simp only[Ev.words,Kd,KC,or_false] at hx;rcases hx with rfl | rfl | rfl | rfl
  ·decide
  ·exact nl _ h1
  ·exact nl _ h2
  ·exact nl _ h3
 | flaw l a b w g=>
  obtain⟨h1,h2,h3,h4,h5⟩:=h;refine⟨by simp[Ev.words],fun x hx=>?_⟩;simp only[Ev.words,Kd,KC,or_false] at hx;rcases hx with rfl | rfl | rfl | rfl | rfl | rfl
  ·decide
  ·exact nl _ h1
  ·exact nl _ h2
  ·exact nl _ h3
  ·exact nl _ h4
  ·exact nl _ h5
 | order n=>
  obtain⟨g1,g2⟩:=ln n h;refine⟨by simp only[Ev.words,Kn];omega,fun x hx=>?_⟩;rcases Kd.1 hx with rfl | hx
  ·decide
  ·exact g2 x hx
 | cut l b=>
  obtain⟨h1,h2⟩:=h;refine⟨by simp[Ev.words],fun x hx=>?_⟩;simp only[Ev.words,Kd,KC,or_false] at hx;rcases hx with rfl | rfl | rfl
  ·decide
  ·exact nl _ h1
  ·exact h2.2.2
 | brk n=>
  obtain⟨g1,g2⟩:=ln n h;refine⟨by simp only[Ev.words,Kn];omega,fun x hx=>?_⟩;rcases Kd.1 hx with rfl | hx
  ·decide
  ·exact g2 x hx
 | scrap l=>
  refine⟨by simp[Ev.words],fun x hx=>?_⟩;simp only[Ev.words,Kd,KC,or_false] at hx;rcases hx with rfl | rfl
  ·decide
  ·exact nl _ h
theorem Zwu {v:Ev} (h:v.ok):v.text.length≤20000:=by
 obtain⟨h1,h2⟩:=ZAp h;have h3:=ZmU 32 1600 v.words h2;have:v.words.length*1601≤6*1601:=KM _ h1;unfold Ev.text;omega
theorem Zy9 (v:Ev):(v.text==[])=false:=by cases v<;>rfl
end Go.Proofs.YtfnegoimdljanaaGreatDoor
