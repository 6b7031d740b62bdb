/- Own text. -/
import Derived.Test.YtcefneehgbiebaaGreatDoorDCode
import Derived.Test.YtcefneehgbiebaaGreatDoorAbsParts
import Derived.Test.YtcefneehgbiebaaGreatDoorDC9
namespace Go.Proofs.YtcefneehgbiebaaGreatDoor
open Go Go.Abs Go.Abs.E Go.Abs.L
open Nat (reduceMul reduceSub reduceLeDiff reduceEqDiff)
open Int (reduceLE reduceEq reduceToNat reduceNeg)
set_option linter.unusedSimpArgs false
set_option linter.unusedVariables false
set_option maxRecDepth 20000
set_option maxHeartbeats 4000000
theorem Zx0 (p:Zf):Zyi p=[]∨∃ b,p=b.plan∧b.cnt≤255∧VY b=true∧Zyi p=shw b:=by
 cases h:QP p with
 | none=>exact .inl (ZtG h)
 | some b=>
  rw[Zma h];by_cases hc:b.cnt≤255∧VY b=true
  ·rw[Kh hc];exact .inr ⟨b,Uj h,hc.1,hc.2,rfl⟩
  ·rw[Ke hc];exact .inl rfl
theorem ZBw (s:List UInt8) (k:Nat):val (s.take k)≤val s:=by
 have aa:∀ (u:List UInt8) (n:Nat),n≤u.foldl (fun n c=>10*n+(c.toNat-48)) n:=by
  intro u
  induction u with
  | nil=>intro n;exact Kt _
  | cons c u ih=>intro n;exact Kz (show n≤10*n+(c.toNat-48) by omega) (ih _)
 conv=>rhs;rw[← Lx k s]
 unfold val;rw[List.foldl_append];exact aa _ _
theorem ZAh {s:List UInt8} {b:BT}:ZuM s=some b↔s.length≤1600∧s=shw b∧b.cnt≤255∧VY b=true:=by
 unfold ZuM;by_cases h:s.length≤1600
 ·rw[Kh h,ZhK];exact⟨fun h'=>⟨h,h'⟩,fun h'=>h'.2⟩
 ·rw[Ke h];constructor
  ·intro h';cases h'
  ·intro h';exact absurd h'.1 h
def Zca:List UInt8:=[116,117,114,110,115]
def Zf6:List UInt8:=[102,105,120,101,100]
def Zcs (t:Bool):List UInt8:=if t then Zca else Zf6
def Xt (l:Zc):List (List UInt8):=[num l.Count.toNat,num l.Pane.W.toNat,num l.Pane.H.toNat,Zcs l.Pane.Turns,num l.Pane.Kind.toNat]
def Zbj (l:Zc):List UInt8:=Yb 32 (Xt l)
def six (n:Int):Prop:=0≤n∧n≤999999
instance (n:Int):Decidable (six n):=by unfold six;infer_instance
def ZpJ (l:Zc):Prop:=six l.Count∧six l.Pane.W∧six l.Pane.H∧six l.Pane.Kind
def ZgP:List (List UInt8)→Option Zc
 | [a,b,c,t,k]=>if t=Zca∨t=Zf6 then (rd a).bind fun a=>(rd b).bind fun b=>(rd c).bind fun c=>(rd k).bind fun k=>some ⟨⟨b,c,decide (t=Zca),k⟩,a⟩ else none
 | _=>none
theorem JD {c:UInt8} (hc:isD c=false) (n:Nat):c∉num n:=fun h=>by rw[Zol n c h] at hc;cases hc
theorem Zx1 (t:Bool):(32:UInt8)∉Zcs t:=by cases t<;>decide
theorem Zwb (t:Bool):Zcs t=Zca∨Zcs t=Zf6:=by cases t<;>simp[Zcs]
theorem Ztg (t:Bool):decide (Zcs t=Zca)=t:=by cases t<;>decide
theorem ZBx {w:List UInt8} (h:w=Zca∨w=Zf6):Zcs (decide (w=Zca))=w:=by
 rcases h with rfl | rfl
 ·simp[Zcs]
 ·have:¬Zf6=Zca:=by decide
  simp[Zcs,this]
theorem ZpK (l:Zc):∀ w∈Xt l,(32:UInt8)∉w:=by
 intro w hw;simp only[Xt,Kd,Ku,or_false] at hw;rcases hw with rfl | rfl | rfl | rfl | rfl
 ·exact JD rfl _
 ·exact JD rfl _
 ·exact JD rfl _
 ·exact Zx1 _
 ·exact JD rfl _
theorem ZpL {l:Zc} (h:ZpJ l):ZgP (Xt l)=some l:=by
 obtain⟨⟨w,h',t,k⟩,c⟩:=l;obtain⟨h1,h2,h3,h4⟩:=h;simp only[six] at h1 h2 h3 h4;have e1:((c.toNat:Nat):Int)=c:=by omega
 have e2:((w.toNat:Nat):Int)=w:=by omega
 have e3:((h'.toNat:Nat):Int)=h':=by omega
 have e4:((k.toNat:Nat):Int)=k:=by omega
 simp only[Xt,ZgP,Kh (Zwb t),ZhH (show c.toNat≤999999 by omega),ZhH (show w.toNat≤999999 by omega),ZhH (show h'.toNat≤999999 by omega),ZhH (show k.toNat≤999999 by omega),KM,Ztg,e1,e2,e3,e4]
theorem Zth {ws:List (List UInt8)} {l:Zc} (h:ZgP ws=some l):ws=Xt l∧ZpJ l:=by
 unfold ZgP at h;split at h
 ·rename_i a b c t k;split at h
  ·rename_i ht;simp only[KV] at h;obtain⟨n1,h1,n2,h2,n3,h3,n4,h4,h⟩:=h;cases h;obtain⟨r1,b1⟩:=Zd9 h1;obtain⟨r2,b2⟩:=Zd9 h2;obtain⟨r3,b3⟩:=Zd9 h3;obtain⟨r4,b4⟩:=Zd9 h4;refine⟨?_,?_,?_,?_,?_⟩
   ·simp only[Xt,KB,ZBx ht];rw[r1,r2,r3,r4]
   all_goals (simp only[six];omega)
  ·cases h
 ·cases h
theorem Zwc {c d:UInt8} (hd:c≠d):∀ {ws:List (List UInt8)},(∀ w∈ws,c∉w)→c∉Yb d ws
 | [],_=>by simp[Yb]
 | [x],h=>h x (by simp)
 | x :: y :: r,h=>by
  have ih:=Zwc hd (ws:=y :: r) fun w hw=>h w (by simp[hw]);have hx:=h x (by simp);simp only[Yb,Kg,Kd,not_or];exact⟨hx,hd,ih⟩
theorem Zx2 (t:Bool):(10:UInt8)∉Zcs t:=by cases t<;>decide
def UN {α:Type} (f:α→List UInt8) (l:List α):List UInt8:=(l.map fun x=>f x++[10]).flatten
theorem JN {α:Type} (f:α→List UInt8) (x:α) (l:List α):UN f (x :: l)=f x++10 :: UN f l:=by simp[UN]
theorem ZmT {α:Type} (f:α→List UInt8) (l:List α) (x:α):UN f (l++[x])=UN f l++(f x++[10]):=by simp[UN]
theorem Zy0 {c:UInt8}:∀ {a b:List UInt8},c∉a→QS c (a++c :: b)=some a.length
 | [],b,_=>by simp[QS]
 | x :: a,b,h=>by
  simp only[Kd,not_or] at h;simp only[Kv,QS,Ke (fun e=>h.1 (Eq.symm e)),Zy0 h.2,KI,Kp]
def ZAi (c:UInt8) (s:List UInt8):Int:=match QS c s with
 | none=>-1
 | some i=>(i:Int)
theorem ZBy (c:UInt8) (s:List UInt8):Lib.indexByte s c=ZAi c s:=by
 unfold ZAi
 induction s with
 | nil=>rfl
 | cons x r ih=>
  simp only[Lib.indexByte,QS,ih];by_cases h:x=c
  ·simp[h]
  ·rw[Ke h];cases QS c r with
   | none=>simp[h]
   | some i=>simp[h]<;>omega
theorem ZlG (c:UInt8) (s:List UInt8):(Z8 c s).length=s.count c+1:=by
 induction s with
 | nil=>rfl
 | cons x r ih=>
  simp only[Z8];by_cases h:x=c
  ·rw[Kh h];simp[ih,h]
  ·rw[Ke h];cases hs:Z8 c r with
   | nil=>exact absurd hs (ZcU c r)
   | cons p q=>
    rw[hs] at ih;simp only[Kp] at ih ⊢;rw[List.count_cons_of_ne (fun e=>h e)];exact ih
theorem Zx3 (ws:List (List UInt8)):Zhr (ws.map .str)=some ws:=by
 induction ws with
 | nil=>rfl
 | cons x r ih=>simp only[Kj,Zhr,ih];rfl
theorem ZpM (c:UInt8):∀ ws:List (List UInt8),Lib.join ws [c]=Yb c ws
 | []=>rfl
 | [x]=>Lib.join_one x [c]
 | x :: y :: r=>by
  have ih:=ZpM c (y :: r);unfold Lib.join at ih ⊢;simp only[Yb,← ih,List.intercalate,List.intersperse,KK,KE,List.singleton_append,Kv,Le]
theorem ZgH (ws:List (List UInt8)) (c:UInt8) (h0:0<ws.length) (h1:ws.length≤1000) (h2:(Yb c ws).length≤1000000):Ze Xs Ms Yx [.d (.sl (ws.map .str)),.d (.str [c])] []=some (.d (.str (Yb c ws)),[]):=by
 refine VU Xs Ms Zqv ?_;unfold Ztf;simp only;rw[Zx3];simp only[Zg];rw[Kh ⟨h0,by unfold Zb8;omega,by rw[ZpM];unfold Zb8;omega⟩,ZpM]
theorem Zwd (s:List UInt8) (c:UInt8):Ze Xs Ms ZY [.d (.str s),.d (.str [c])] []=some ((.d (J (ZAi c s))),[]):=by
 refine VU Xs Ms Zcd ?_;unfold ZAf;simp only;rw[ZBy]
theorem ZlH (s:List UInt8) (c:UInt8):Ze Xs Ms Wi [.d (.str s),.d (.str [c])] []=some ((.d (J (ZAi c s))),[]):=by
 have e1:=Zwd s c;refine cE ?_;simp +contextual -implicitDefEqProofs (maxSteps:=10^7) only[go_sem,seval,↓gZ,Zci,e1]
theorem ZlI (s:List UInt8) (c:UInt8):Ze Xs Ms YI [.d (.str s),.d (.str [c])] []=some ((.d (J ((s.count c:Nat)))),[]):=by
 refine VU Xs Ms ZnI ?_;unfold ZAg;simp only[Lib.countByte]
theorem Cut_ev (s:List UInt8) (c:UInt8) (hs:s.length≤1000000):Ze Xs Ms QD [.d (.str s),.d (.str [c])] []=some (.tup (match QS c s with | none=>[.d (.str s),.d (.str []),(.d (.bool false))] | some i=>[.d (.str (s.take i)),.d (.str (s.drop (i+1))),(.d (.bool true))]),[]):=by
 have e1:=Zwd s c;unfold ZAi at e1;cases h:QS c s with
 | none=>
  rw[h] at e1;refine cE ?_;simp +contextual -implicitDefEqProofs (maxSteps:=10^7) only[go_sem,seval,↓gZ,Xj,e1]
 | some i=>
  obtain⟨_,_,hi⟩:=Zaq h;rw[h] at e1;simp only at e1;have w:=Zj (k:=i) (by omega);have h1:((i+1:Nat):Int)≤(s.length:Int):=by omega
  have h2:(i:Int)≤(s.length:Int):=by omega
  refine cE ?_;simp +contextual -implicitDefEqProofs (maxSteps:=10^7) only[go_sem,seval,↓gZ,Xj,e1,w,h1,h2,Zm8,Le,KY,K1]
theorem Zdp (s:List UInt8) (c:UInt8) (hs:s.length≤1000000):Ze Xs Ms Yf [.d (.str s),.d (.str [c])] []=some (.tup (match QS c s with | none=>[.d (.str s),.d (.str []),(.d (.bool false))] | some i=>[.d (.str (s.take i)),.d (.str (s.drop (i+1))),(.d (.bool true))]),[]):=by
 have e1:=Cut_ev s c hs;cases h:QS c s with
 | none=>
  rw[h] at e1;refine cE ?_;simp +contextual -implicitDefEqProofs (maxSteps:=10^7) only[go_sem,seval,↓gZ,ZbD,e1]
 | some i=>
  rw[h] at e1;refine cE ?_;simp +contextual -implicitDefEqProofs (maxSteps:=10^7) only[go_sem,seval,↓gZ,ZbD,e1]
theorem Zy1 (done:List (List UInt8)) (x y:D) (r:List D):(done.map D.str++x :: r).set done.length y=done.map D.str++y :: r:=by
 have h:=List.set_append_right (s:=done.map D.str) (t:=x :: r) (i:=done.length) y (by simp);rw[h];simp
theorem Zy2 (done:List (List UInt8)) (x:D) (r:List D):(done.map D.str++x :: r)[done.length]?=some x:=by
 rw[KQ (by simp)];simp
theorem ZmU (a b:List UInt8):ZfC (.str a) 0 [.str b]=.str b:=rfl
theorem Zti (a:List UInt8):(D.str a).notSl=true:=rfl
theorem Ztj (a:List UInt8):(D.str a).cells=[.str a]:=rfl
theorem Zwe (s:List UInt8) (c:UInt8) (hs:s.length≤1000000):Ze Xs Ms Yv [.d (.str s),.d (.str [c]),(.d (J 0)),(.d (J (-1)))] []=some (.ownv 0 0 (Z8 c s).length,[.row 1 ((Z8 c s).map .str) true false]):=by
 have e1:=ZlI s c;have ai:s.count c≤s.length:=List.count_le_length;have w1:=Zj (k:=s.count c) (by omega);have w2:=Zj (k:=s.length) (by omega);have ab:=ZlG c s;obtain⟨n,hn⟩:∃ n,s.count c=n:=⟨_,rfl⟩
 rw[hn] at e1 w1 ab ai;have aj:(([c]:List UInt8)==[])=false:=rfl;have ae:min ((n+1:Nat):Int) ((s.length+1:Nat):Int)=((n+1:Nat):Int):=by omega
 have w3:IntKind.i64.wrap (((n+1:Nat):Int)-1)=(n:Int):=by rw[show ((n+1:Nat):Int)-1=n by omega];exact wi _ (by omega) (by omega)
 have ak:((n+1:Nat):Int)*16≤140737488355328∧((n+1:Nat):Int)≤140737488355328:=by omega
 refine cE ?_;simp +contextual -implicitDefEqProofs (maxSteps:=10^7) only[go_sem,seval,↓gZ,JI,e1,w1,w2,aj,ae,w3,ak];refine LO (α:=List (List UInt8)×List UInt8) (fun a=>[(10,.d (J (a.1.length:Nat))),(0,.d (.str a.2))]) (fun a=>[(0,.row 1 (a.1.map .str++List.replicate (n+1-a.1.length) (.str [])) true false)]) (fun a=>Z8 c s=a.1++Z8 c a.2∧a.2.length≤s.length) (fun a=>n-a.1.length) ([],s) ⟨rfl,Kt _⟩ ?_;intro⟨done,rest⟩ ⟨hp,hr⟩ ih;simp only at hp hr ih ⊢;have af:=ZlG c rest;have al:=congrArg List.length hp;rw[ab,Kr,af] at al;by_cases an:done.length<n
 ·have ag : (done.length:Int)<(n:Int):=by omega
  have e2:=ZlH rest c;unfold ZAi at e2;have aa:List.replicate (n+1-done.length) (D.str [])=D.str [] :: List.replicate (n-done.length) (D.str []):=by rw[show n+1-done.length=(n-done.length)+1 by omega];rfl
  rw[aa];cases hi:QS c rest with
  | none=>
   have:=ZdA (ZkU.1 hi);rw[this] at af;simp at af;omega
  | some m=>
   obtain⟨_,_,hm⟩:=Zaq hi;rw[hi] at e2;simp only at e2;have w:=Zj (k:=m) (by omega);have w':=Zj (k:=done.length) (by omega);have w0:=wi (m:Int) (by omega) (by omega);have h1:((m+1:Nat):Int)≤(rest.length:Int):=by omega
   have h2:(m:Int)≤(rest.length:Int):=by omega
   have h3:¬(m:Int)<0:=by omega
   have h4:done.length<done.length+(n-done.length+1):=by omega
   have ah:=ZcV c rest;rw[hi] at ah;simp only at ah;simp +contextual -implicitDefEqProofs (maxSteps:=10^7) only[go_sem,seval,↓gZ,ag,e2,w,w',w0,h1,h2,h3,h4,Zy1,Zy2,ZmU,Zti,Ztj,Kp,KO,La,and_self,Km,Zg,Int.add_zero,K1,L0];refine ih (done++[rest.take m],rest.drop (m+1)) _ ⟨?_,?_⟩ (by simp;omega) ?_
   ·simp only[KE,List.singleton_append];rw[← ah];exact hp
   ·simp;omega
   ·have ad:n+1-(done.length+1)=n-done.length:=by omega
    simp +contextual -implicitDefEqProofs (maxSteps:=10^7) only[go_sem,seval,↓gZ,Kr,K9,KE,ad]
 ·have hi:done.length=n:=by omega
  have am:Z8 c rest=[rest]:=by
   cases hi2:QS c rest with
   | none=>exact ZdA (ZkU.1 hi2)
   | some m=>
    obtain⟨h1,_,hm⟩:=Zaq hi2;have:c∈rest:=by rw[h1];simp
    have:=List.count_pos_iff.2 this;omega
  rw[am] at hp;subst hi;have w':=Zj (k:=done.length) (by omega);have aa:done.length+1-done.length=1:=by omega
  have h5:done.length<done.length+1:=by omega
  have h6:((done.length+1:Nat):Int)≤((done.length+1:Nat):Int):=Int.le_refl _;simp +contextual -implicitDefEqProofs (maxSteps:=10^7) only[go_sem,seval,↓gZ,aa,w',h5,h6,List.replicate_one,Zy1,Zy2,ZmU,Zti,Ztj,Kp,KO,La,and_self,Km,Zg];rw[hp];simp
theorem Zfm (s:List UInt8) (c:UInt8) (hs:s.length≤1000000):Ze Xs Ms YH [.d (.str s),.d (.str [c])] []=some (.ownv 0 0 (Z8 c s).length,[.row 1 ((Z8 c s).map .str) true false]):=by
 have e1:=Zwe s c hs;refine cE ?_;simp +contextual -implicitDefEqProofs (maxSteps:=10^7) only[go_sem,seval,↓gZ,Zcg,e1]
def Zct:List (List UInt8)→Option (List Int)
 | []=>some []
 | w :: r=>(rd w).bind fun v=>(Zct r).bind fun vs=>some ((v:Int) :: vs)
def rnV (o:Option (List Int)):AV×List Zm:=match o with
 | none=>(.tup [.own 0,(.d (.bool false))],[.row 1 [] true false])
 | some vs=>(.tup [.own 0,(.d (.bool true))],[.row 1 (vs.map YA) true false])
theorem ZBz {ws:List (List UInt8)} {k:Nat} {x:List UInt8} (hx:ws[k]?=some x):Zct (ws.drop k)=(rd x).bind fun v=>(Zct (ws.drop (k+1))).bind fun vs=>some ((v:Int) :: vs):=by
 obtain⟨h1,h2⟩:=Kb.1 hx;rw[Kw h1,h2,Zct]
theorem Zfn (ws:List (List UInt8)) (hw:ws.length≤2000000):Ze Xs Ms YG [.d (.sl (ws.map .str))] []=some (rnV (Zct ws)):=by
 refine cE ?_;simp +contextual -implicitDefEqProofs (maxSteps:=10^7) only[go_sem,seval,↓gZ,Zcf];refine LO (α:=Nat×List Int) (fun a=>[(11,.d (J (a.1:Int)))]) (fun a=>[(0,.row 1 (a.2.map YA) true false)]) (fun a=>a.1≤ws.length∧a.2.length≤a.1∧Zct ws=(Zct (ws.drop a.1)).map fun r=>a.2++r) (fun a=>ws.length-a.1) (0,[]) ⟨by simp,by simp,by simp⟩ ?_;intro⟨k,vs⟩ ⟨hk,hv,hp⟩ ih;simp only at hk hv hp ih ⊢;by_cases ad:k<ws.length
 ·obtain⟨x,hx⟩:=Zs ad;have aa : (k:Int)<(ws.length:Int):=by omega
  have w:=Zj (k:=k) (by omega);have e1:=Jv x;rw[ZBz hx] at hp;have ab:(vs.length+1)*8≤140737488355328∧vs.length+1≤140737488355328:=by omega
  have ae:(ws.map D.str)[k]?=some (.str x):=by rw[KX,hx];rfl
  cases hr:rd x with
  | none=>
   rw[hr] at e1 hp;simp only[Zgf] at e1;simp only[LQ,Option.map_none] at hp;rw[hp];simp +contextual -implicitDefEqProofs (maxSteps:=10^7) only[go_sem,seval,↓gZ,aa,ad,ae,hx,w,e1,rnV]
  | some v=>
   rw[hr] at e1 hp;simp only[Zgf] at e1;simp +contextual -implicitDefEqProofs (maxSteps:=10^7) only[go_sem,seval,↓gZ,aa,ad,ae,hx,w,e1,ab];refine ih (k+1,vs++[(v:Int)]) _ ⟨by omega,by simp;omega,?_⟩ (by omega) ?_
   ·rw[hp];cases Zct (ws.drop (k+1))<;>simp
   ·simp +contextual -implicitDefEqProofs (maxSteps:=10^7) only[go_sem,seval,↓gZ,YA,K9,Kj,Kx]
 ·have:k=ws.length:=by omega
  subst this;simp only[List.drop_length,Zct,KI,KY] at hp;rw[hp];simp +contextual -implicitDefEqProofs (maxSteps:=10^7) only[go_sem,seval,↓gZ,rnV]
def rlV (o:Option Zc):AV:=match o with
 | none=>.tup [.d (.agg [J 0,J 0,.bool false,J 0,J 0]),(.d (.bool false))]
 | some l=>.tup [.d l.enc,(.d (.bool true))]
theorem Zri (s:List UInt8) (hs:s.length≤1000000):Ze Xs Ms Uq [.d (.str s)] []=some (rlV (ZgP (Z8 32 s)),[]):=by
 have e1:=Zfm s 32 hs;generalize Z8 32 s=ws at e1;by_cases h5:ws.length=5
 ·obtain⟨a,b,c,t,k,rfl⟩:∃ a b c t k,ws=[a,b,c,t,k]:=by
   match ws,h5 with
   | [a,b,c,t,k],_=>exact⟨a,b,c,t,k,rfl⟩
  simp only[Kj,Kx,Kp,KO,La,Nat.reduceAdd] at e1;have ad:∀ tb:Bool,t=Zcs tb→Ze Xs Ms Uq [.d (.str s)] []=some (rlV (ZgP [a,b,c,t,k]),[]):=by
   intro tb ht;have e2:=Zfn [a,b,c,k] (by simp);simp only[Kj,Kx] at e2;have ae:=Zwb tb;rw[← ht] at ae;have aa:=Ztg tb;rw[← ht] at aa;have af:ZgP [a,b,c,t,k]=match Zct [a,b,c,k] with
     | some [a,b,c,k]=>some ⟨⟨b,c,tb,k⟩,a⟩
     | _=>none:=by
    simp only[ZgP,Kh ae,Zct,aa];cases rd a<;>cases rd b<;>cases rd c<;>cases rd k<;>rfl
   rw[af];have h4:∀ vs,Zct [a,b,c,k]=some vs→∃ x y z u:Int,vs=[x,y,z,u]:=by
    intro vs h;simp only[Zct,KV,Option.some.injEq] at h;obtain⟨x,_,_,⟨y,_,_,⟨z,_,_,⟨u,_,_,h1,rfl⟩,rfl⟩,rfl⟩,rfl⟩:=h;subst h1;exact⟨_,_,_,_,rfl⟩
   have q1:(t==[116,117,114,110,115])=tb:=by
    rw[ht];cases tb<;>rfl
   have q2:(t==[102,105,120,101,100])=!tb:=by
    rw[ht];cases tb<;>rfl
   cases hr:Zct [a,b,c,k] with
   | none=>
    rw[hr] at e2;simp only[rnV] at e2;refine cE ?_;cases tb with
    | true=>simp +contextual -implicitDefEqProofs (maxSteps:=10^7) only[go_sem,seval,↓gZ,YW,e1,e2,q1,q2,rlV,Bool.not_true]
    | false=>simp +contextual -implicitDefEqProofs (maxSteps:=10^7) only[go_sem,seval,↓gZ,YW,e1,e2,q1,q2,rlV,Bool.not_false]
   | some vs=>
    obtain⟨x,y,z,u,rfl⟩:=h4 vs hr;rw[hr] at e2;simp only[rnV,Kj,Kx,YA] at e2;refine cE ?_;cases tb with
    | true=>simp +contextual -implicitDefEqProofs (maxSteps:=10^7) only[go_sem,seval,↓gZ,YW,e1,e2,q1,q2,rlV,Bool.not_true,Zc.enc]
    | false=>simp +contextual -implicitDefEqProofs (maxSteps:=10^7) only[go_sem,seval,↓gZ,YW,e1,e2,q1,q2,rlV,Bool.not_false,Zc.enc]
  by_cases t1:t=Zca
  ·exact ad true t1
  by_cases t2:t=Zf6
  ·exact ad false t2
  ·have ab:ZgP [a,b,c,t,k]=none:=by
    simp only[ZgP];rw[Ke (fun h=>h.elim t1 t2)]
   rw[ab];have q1:(t==[116,117,114,110,115])=false:=by simpa [Zca] using t1
   have q2:(t==[102,105,120,101,100])=false:=by simpa [Zf6] using t2
   refine cE ?_;simp +contextual -implicitDefEqProofs (maxSteps:=10^7) only[go_sem,seval,↓gZ,YW,e1,q1,q2,rlV]
 ·have ab:ZgP ws=none:=by
   unfold ZgP;split
   ·exact absurd rfl h5
   ·rfl
  rw[ab];have ag : ¬(ws.length:Int)=5:=by omega
  refine cE ?_;simp +contextual -implicitDefEqProofs (maxSteps:=10^7) only[go_sem,seval,↓gZ,YW,e1,ag,rlV]
theorem Zd7 (l:Zc) (h:ZpJ l):(Yb 32 (Xt l)).length≤40:=by
 obtain⟨⟨w,h',t,k⟩,c⟩:=l;obtain⟨h1,h2,h3,h4⟩:=h;simp only[six] at h1 h2 h3 h4;have l1:=X6 5 c.toNat (by omega);have l2:=X6 5 w.toNat (by omega);have l3:=X6 5 h'.toNat (by omega);have l4:=X6 5 k.toNat (by omega);have l5:(Zcs t).length=5:=by cases t<;>rfl
 simp only[Xt,Yb,Kr,Kp];omega
theorem Zrj (lW lH:Int) (lT:Bool) (lK lC:Int) (h:ZpJ (Zc.mk (Pane.mk lW lH lT lK) lC)):Ze Xs Ms Ur [(.d (.agg [J lW,J lH,.bool lT,J lK,J lC]))] []=some (.d (.str (Zbj (Zc.mk (Pane.mk lW lH lT lK) lC))),[]):=by
 have hw:=Zd7 (Zc.mk (Pane.mk lW lH lT lK) lC) h;obtain⟨h1,h2,h3,h4⟩:=h;simp only[six] at h1 h2 h3 h4;have e1:=Qg lC h1.1 (by omega);have e2:=Qg lW h2.1 (by omega);have e3:=Qg lH h3.1 (by omega);have e4:=Qg lK h4.1 (by omega);have e5:=ZgH (Xt (Zc.mk (Pane.mk lW lH lT lK) lC)) 32 (by simp[Xt]) (by simp[Xt]) (by omega);simp only[Xt,Kj,Kx] at e5;unfold Zbj;simp only[Xt];refine cE ?_;cases lT with
 | true=>
  simp only[Zcs,Zca,Km] at e5 ⊢;simp +contextual -implicitDefEqProofs (maxSteps:=10^7) only[go_sem,seval,↓gZ,ZcJ,e1,e2,e3,e4,e5]
 | false=>
  simp only[Zcs,Zf6,Ka,Kq] at e5 ⊢;simp +contextual -implicitDefEqProofs (maxSteps:=10^7) only[go_sem,seval,↓gZ,ZcJ,e1,e2,e3,e4,e5]
theorem Zrk (lW lH:Int) (lT:Bool) (lK lC:Int) (h:ZpJ (Zc.mk (Pane.mk lW lH lT lK) lC)):Ze Xs Ms ZaB [(.d (.agg [J lW,J lH,.bool lT,J lK,J lC]))] []=some (.d (.str (Zbj (Zc.mk (Pane.mk lW lH lT lK) lC))),[]):=by
 have hw:=Zd7 (Zc.mk (Pane.mk lW lH lT lK) lC) h;obtain⟨h1,h2,h3,h4⟩:=h;simp only[six] at h1 h2 h3 h4;have e1:=W0 lC.toNat (by omega);have e2:=W0 lW.toNat (by omega);have e3:=W0 lH.toNat (by omega);have e4:=W0 lK.toNat (by omega);rw[K7 (by omega)] at e1 e2 e3 e4;have l1:=X6 5 lC.toNat (by omega);have l2:=X6 5 lW.toNat (by omega);have l3:=X6 5 lH.toNat (by omega);have l4:=X6 5 lK.toNat (by omega);unfold Zbj;simp only[Xt,Yb];generalize num lC.toNat=a at *;generalize num lW.toNat=b at *;generalize num lH.toNat=c at *;generalize num lK.toNat=d at *;have b1:a.length+1≤1152921504606846976:=by omega
 have b2:a.length+1+b.length≤1152921504606846976:=by omega
 have b3:a.length+1+b.length+1≤1152921504606846976:=by omega
 have b4:a.length+1+b.length+1+c.length≤1152921504606846976:=by omega
 have b5:a.length+1+b.length+1+c.length+1≤1152921504606846976:=by omega
 have b6:a.length+1+b.length+1+c.length+1+5≤1152921504606846976:=by omega
 have b7:a.length+1+b.length+1+c.length+1+5+1≤1152921504606846976:=by omega
 have b8:a.length+1+b.length+1+c.length+1+5+1+d.length≤1152921504606846976:=by omega
 refine cE ?_;cases lT with
 | true=>
  simp only[Zcs,Zca,Km];simp +contextual -implicitDefEqProofs (maxSteps:=10^7) only[go_sem,seval,↓gZ,ZcK,e1,e2,e3,e4,b1,b2,b3,b4,b5,b6,b7,b8];simp only[KE,Kv,Le]
 | false=>
  simp only[Zcs,Zf6,Ka,Kq];simp +contextual -implicitDefEqProofs (maxSteps:=10^7) only[go_sem,seval,↓gZ,ZcK,e1,e2,e3,e4,b1,b2,b3,b4,b5,b6,b7,b8];simp only[KE,Kv,Le]
end Go.Proofs.YtcefneehgbiebaaGreatDoor
