/- Contracts of the functions,by the abstract semantics. -/
import Derived.Test.YtkdjbefmiiibpaaGreatDoorACode
import Derived.Test.YtkdjbefmiiibpaaGreatDoorAbsParts
import Derived.Test.YtkdjbefmiiibpaaGreatDoorAC5
namespace Go.Proofs.YtkdjbefmiiibpaaGreatDoor
open Go Go.Abs Go.Abs.E Go.Abs.L
open Nat (reduceMul reduceSub reduceLeDiff reduceEqDiff)
open Int (reduceLE reduceEq reduceToNat reduceNeg)
set_option linter.unusedSimpArgs false
set_option linter.unusedVariables false
set_option maxRecDepth 20000
set_option maxHeartbeats 4000000
theorem Zs1 (p:Zj):ZsZ p=[]∨∃ b,p=b.plan∧b.cnt≤255∧VU b=true∧ZsZ p=shw b:=by
 cases h:Xb p with
 | none=>exact .inl (Zot h)
 | some b=>
  rw[ZiF h]
  by_cases hc:b.cnt≤255∧VU b=true
  ·rw[if_pos hc]
   exact .inr ⟨b,ZbI h,hc.1,hc.2,rfl⟩
  ·rw[if_neg hc];exact .inl rfl
def Za1:List UInt8:=[116,117,114,110,115]
def ZdV:List UInt8:=[102,105,120,101,100]
def ZbT (t:Bool):List UInt8:=if t then Za1 else ZdV
def X6 (l:Zi):List (List UInt8):=[num l.Count.toNat,num l.Pane.W.toNat,num l.Pane.H.toNat,ZbT l.Pane.Turns,num l.Pane.Kind.toNat]
def Zae (l:Zi):List UInt8:=YK 32 (X6 l)
def six (n:Int):Prop:=0≤n∧n≤999999
instance (n:Int):Decidable (six n):=by unfold six;infer_instance
def Zk7 (l:Zi):Prop:=six l.Count∧six l.Pane.W∧six l.Pane.H∧six l.Pane.Kind
def ZeK:List (List UInt8)→Option Zi
 | [a,b,c,t,k]=>if t=Za1∨t=ZdV then (rd a).bind fun a=>(rd b).bind fun b=>(rd c).bind fun c=>(rd k).bind fun k=>some ⟨⟨b,c,decide (t=Za1),k⟩,a⟩ else none
 | _=>none
theorem ZcL {c:UInt8} (hc:isD c=false) (n:Nat):c∉num n:=fun h=>by rw[ZpC n c h] at hc;cases hc
theorem Zs2 (t:Bool):(32:UInt8)∉ZbT t:=by cases t<;>decide
theorem Zrg (t:Bool):ZbT t=Za1∨ZbT t=ZdV:=by cases t<;>simp[ZbT]
theorem Zou (t:Bool):decide (ZbT t=Za1)=t:=by cases t<;>decide
theorem ZwT {w:List UInt8} (h:w=Za1∨w=ZdV):ZbT (decide (w=Za1))=w:=by
 rcases h with rfl | rfl
 ·simp[ZbT]
 ·have:¬ZdV=Za1:=by decide
  simp[ZbT,this]
theorem Zk8 (l:Zi):∀ w∈X6 l,(32:UInt8)∉w:=by
 intro w hw
 simp only[X6,List.mem_cons,List.not_mem_nil,or_false] at hw
 rcases hw with rfl | rfl | rfl | rfl | rfl
 ·exact ZcL rfl _
 ·exact ZcL rfl _
 ·exact ZcL rfl _
 ·exact Zs2 _
 ·exact ZcL rfl _
theorem Zk9 {l:Zi} (h:Zk7 l):ZeK (X6 l)=some l:=by
 obtain⟨⟨w,h',t,k⟩,c⟩:=l
 obtain⟨h1,h2,h3,h4⟩:=h
 simp only[six] at h1 h2 h3 h4
 have e1:((c.toNat:Nat):Int)=c:=by omega
 have e2:((w.toNat:Nat):Int)=w:=by omega
 have e3:((h'.toNat:Nat):Int)=h':=by omega
 have e4:((k.toNat:Nat):Int)=k:=by omega
 simp only[X6,ZeK,if_pos (Zrg t),ZeX (show c.toNat≤999999 by omega),ZeX (show w.toNat≤999999 by omega),ZeX (show h'.toNat≤999999 by omega),ZeX (show k.toNat≤999999 by omega),Option.bind_some,Zou,e1,e2,e3,e4]
theorem Zov {ws:List (List UInt8)} {l:Zi} (h:ZeK ws=some l):ws=X6 l∧Zk7 l:=by
 unfold ZeK at h
 split at h
 ·rename_i a b c t k
  split at h
  ·rename_i ht
   simp only[Option.bind_eq_some_iff] at h
   obtain⟨n1,h1,n2,h2,n3,h3,n4,h4,h⟩:=h
   cases h
   obtain⟨r1,b1⟩:=Zcs h1
   obtain⟨r2,b2⟩:=Zcs h2
   obtain⟨r3,b3⟩:=Zcs h3
   obtain⟨r4,b4⟩:=Zcs h4
   refine⟨?_,?_,?_,?_,?_⟩
   ·simp only[X6,Int.toNat_natCast,ZwT ht]
    rw[r1,r2,r3,r4]
   all_goals (simp only[six];omega)
  ·cases h
 ·cases h
def Zvm (c:UInt8) (s:List UInt8):Int:=match XY c s with
 | none=>-1
 | some i=>(i:Int)
theorem ZwU (c:UInt8) (s:List UInt8):Lib.indexByte s c=Zvm c s:=by
 unfold Zvm
 induction s with
 | nil=>rfl
 | cons x r ih=>
  simp only[Lib.indexByte,XY,ih]
  by_cases h:x=c
  ·simp[h]
  ·rw[if_neg h]
   cases XY c r with
   | none=>simp[h]
   | some i=>simp[h]<;>omega
theorem ZiG (c:UInt8) (s:List UInt8):(Qx c s).length=s.count c+1:=by
 induction s with
 | nil=>rfl
 | cons x r ih=>
  simp only[Qx]
  by_cases h:x=c
  ·rw[if_pos h]
   simp[ih,h]
  ·rw[if_neg h]
   cases hs:Qx c r with
   | nil=>exact absurd hs (ZfJ c r)
   | cons p q=>
    rw[hs] at ih
    simp only[List.length_cons] at ih ⊢
    rw[List.count_cons_of_ne (fun e=>h e)]
    exact ih
theorem Zs3 (ws:List (List UInt8)):ZfE (ws.map .str)=some ws:=by
 induction ws with
 | nil=>rfl
 | cons x r ih=>simp only[List.map_cons,ZfE,ih];rfl
theorem Zla (c:UInt8):∀ ws:List (List UInt8),Lib.join ws [c]=YK c ws
 | []=>rfl
 | [x]=>Lib.join_one x [c]
 | x :: y :: r=>by
  have ih:=Zla c (y :: r)
  unfold Lib.join at ih ⊢
  simp only[YK,← ih,List.intercalate,List.intersperse,List.flatten_cons,List.append_assoc,List.singleton_append,List.cons_append,List.nil_append]
theorem ZeB (ws:List (List UInt8)) (c:UInt8) (h0:0<ws.length) (h1:ws.length≤1000) (h2:(YK c ws).length≤1000000):Zk Xs Ms Yx [.d (.sl (ws.map .str)),.d (.str [c])] []=some (.d (.str (YK c ws)),[]):=by
 refine Jd Xs Ms Zlh ?_
 unfold Zpt
 simp only
 rw[Zs3]
 simp only[Ze]
 rw[if_pos ⟨h0,by unfold Zbc;omega,by rw[Zla];unfold Zbc;omega⟩,Zla]
theorem Zrh (s:List UInt8) (c:UInt8):Zk Xs Ms Z2 [.d (.str s),.d (.str [c])] []=some ((.d (J (Zvm c s))),[]):=by
 refine Jd Xs Ms Za3 ?_
 unfold Zwv
 simp only
 rw[ZwU]
theorem ZiH (s:List UInt8) (c:UInt8):Zk Xs Ms YQ [.d (.str s),.d (.str [c])] []=some ((.d (J (Zvm c s))),[]):=by
 have e1:=Zrh s c
 refine Zc Xs Ms VZ Zkm (by show 2≤_;decide) ?_
 simp +contextual -implicitDefEqProofs (maxSteps:=10^7) only[go_sem,seval,↓gZ,VZ,e1]
theorem ZiI (s:List UInt8) (c:UInt8):Zk Xs Ms YP [.d (.str s),.d (.str [c])] []=some ((.d (J ((s.count c:Nat)))),[]):=by
 refine Jd Xs Ms Zkl ?_
 unfold Zww
 simp only[Lib.countByte]
theorem Cut_ev (s:List UInt8) (c:UInt8) (hs:s.length≤1000000):Zk Xs Ms Qn [.d (.str s),.d (.str [c])] []=some (.tup (match XY c s with | none=>[.d (.str s),.d (.str []),(.d (.bool false))] | some i=>[.d (.str (s.take i)),.d (.str (s.drop (i+1))),(.d (.bool true))]),[]):=by
 have e1:=Zrh s c
 unfold Zvm at e1
 cases h:XY c s with
 | none=>
  rw[h] at e1
  refine Zc Xs Ms Z7 WE (by show 2≤_;decide) ?_
  simp +contextual -implicitDefEqProofs (maxSteps:=10^7) only[go_sem,seval,↓gZ,Z7,e1]
 | some i=>
  obtain⟨_,_,hi⟩:=Zdb h
  rw[h] at e1
  simp only at e1
  have w:=ZD (k:=i) (by omega)
  have h1:((i+1:Nat):Int)≤(s.length:Int):=by omega
  have h2:(i:Int)≤(s.length:Int):=by omega
  refine Zc Xs Ms Z7 WE (by show 2≤_;decide) ?_
  simp +contextual -implicitDefEqProofs (maxSteps:=10^7) only[go_sem,seval,↓gZ,Z7,e1,w,h1,h2,ZmJ,List.nil_append,List.append_nil,List.take_length]
theorem Ze1 (s:List UInt8) (c:UInt8) (hs:s.length≤1000000):Zk Xs Ms Yo [.d (.str s),.d (.str [c])] []=some (.tup (match XY c s with | none=>[.d (.str s),.d (.str []),(.d (.bool false))] | some i=>[.d (.str (s.take i)),.d (.str (s.drop (i+1))),(.d (.bool true))]),[]):=by
 have e1:=Cut_ev s c hs
 cases h:XY c s with
 | none=>
  rw[h] at e1
  refine Zc Xs Ms Y9 Zgv (by show 2≤_;decide) ?_
  simp +contextual -implicitDefEqProofs (maxSteps:=10^7) only[go_sem,seval,↓gZ,Y9,e1]
 | some i=>
  rw[h] at e1
  refine Zc Xs Ms Y9 Zgv (by show 2≤_;decide) ?_
  simp +contextual -implicitDefEqProofs (maxSteps:=10^7) only[go_sem,seval,↓gZ,Y9,e1]
theorem Zup (done:List (List UInt8)) (x y:D) (r:List D):(done.map D.str++x :: r).set done.length y=done.map D.str++y :: r:=by
 have h:=List.set_append_right (s:=done.map D.str) (t:=x :: r) (i:=done.length) y (by simp)
 rw[h];simp
theorem Zuq (done:List (List UInt8)) (x:D) (r:List D):(done.map D.str++x :: r)[done.length]?=some x:=by
 rw[List.getElem?_append_right (by simp)];simp
theorem ZjA (a b:List UInt8):Zd3 (.str a) 0 [.str b]=.str b:=rfl
theorem Zow (a:List UInt8):(D.str a).notSl=true:=rfl
theorem Zox (a:List UInt8):(D.str a).cells=[.str a]:=rfl
theorem Zri (s:List UInt8) (c:UInt8) (hs:s.length≤1000000):Zk Xs Ms XO [.d (.str s),.d (.str [c]),(.d (J 0)),(.d (J (-1)))] []=some (.ownv 0 0 (Qx c s).length,[.row 1 ((Qx c s).map .str) true false]):=by
 have e1:=ZiI s c
 have hcl:s.count c≤s.length:=List.count_le_length
 have w1:=ZD (k:=s.count c) (by omega)
 have w2:=ZD (k:=s.length) (by omega)
 have hlen:=ZiG c s
 obtain⟨n,hn⟩:∃ n,s.count c=n:=⟨_,rfl⟩
 rw[hn] at e1 w1 hlen hcl
 have hne:(([c]:List UInt8)==[])=false:=rfl
 have hmin:min ((n+1:Nat):Int) ((s.length+1:Nat):Int)=((n+1:Nat):Int):=by omega
 have w3:IntKind.i64.wrap (((n+1:Nat):Int)-1)=(n:Int):=by rw[show ((n+1:Nat):Int)-1=n by omega];exact wi _ (by omega) (by omega)
 have hm1:((n+1:Nat):Int)*16≤140737488355328∧((n+1:Nat):Int)≤140737488355328:=by omega
 refine Zc Xs Ms YC ZgQ (by show 4≤_;decide) ?_
 simp +contextual -implicitDefEqProofs (maxSteps:=10^7) only[go_sem,seval,↓gZ,YC,e1,w1,w2,hne,hmin,w3,hm1]
 refine Qb Xs Ms (st0:=?st0) (α:=List (List UInt8)×List UInt8) (fun a=>[(10,.d (J (a.1.length:Nat))),(0,.d (.str a.2))]) (fun a=>[(0,.row 1 (a.1.map .str++List.replicate (n+1-a.1.length) (.str [])) true false)]) (fun a=>Qx c s=a.1++Qx c a.2∧a.2.length≤s.length) (fun a=>n-a.1.length) ([],s) ?hc ⟨rfl,Nat.le_refl _⟩ ?h0 ?step
 case hc=>simp +contextual -implicitDefEqProofs (maxSteps:=10^7) only[go_sem,seval,↓gZ]<;>exact rfl
 case h0=>rfl
 case step=>
  intro⟨done,rest⟩ ⟨hp,hr⟩ ih
  simp only at hp hr ih ⊢
  have hl2:=ZiG c rest
  have hl3:=congrArg List.length hp
  rw[hlen,List.length_append,hl2] at hl3
  by_cases hlt:done.length<n
  ·have hlt' : (done.length:Int)<(n:Int):=by omega
   have e2:=ZiH rest c
   unfold Zvm at e2
   have hrep:List.replicate (n+1-done.length) (D.str [])=D.str [] :: List.replicate (n-done.length) (D.str []):=by rw[show n+1-done.length=(n-done.length)+1 by omega];rfl
   rw[hrep]
   cases hi:XY c rest with
   | none=>
    have:=ZbR (ZhB.1 hi)
    rw[this] at hl2
    simp at hl2
    omega
   | some m=>
    obtain⟨_,_,hm⟩:=Zdb hi
    rw[hi] at e2
    simp only at e2
    have w:=ZD (k:=m) (by omega)
    have w':=ZD (k:=done.length) (by omega)
    have w0:=wi (m:Int) (by omega) (by omega)
    have h1:((m+1:Nat):Int)≤(rest.length:Int):=by omega
    have h2:(m:Int)≤(rest.length:Int):=by omega
    have h3:¬(m:Int)<0:=by omega
    have h4:done.length<done.length+(n-done.length+1):=by omega
    have hsp:=ZfK c rest
    rw[hi] at hsp
    simp only at hsp
    simp +contextual -implicitDefEqProofs (maxSteps:=10^7) only[go_sem,seval,↓gZ,hlt',e2,w,w',w0,h1,h2,h3,h4,Zup,Zuq,ZjA,Zow,Zox,List.length_cons,List.length_nil,Nat.zero_add,and_self,if_true,Ze,Int.add_zero,List.take_length,List.length_replicate]
    refine ih (done++[rest.take m],rest.drop (m+1)) _ ⟨?_,?_⟩ (by simp;omega) ?_
    ·simp only[List.append_assoc,List.singleton_append]
     rw[← hsp];exact hp
    ·simp;omega
    ·have hrep2:n+1-(done.length+1)=n-done.length:=by omega
     simp +contextual -implicitDefEqProofs (maxSteps:=10^7) only[go_sem,seval,↓gZ,List.length_append,List.map_append,List.append_assoc,hrep2]
  ·have hi:done.length=n:=by omega
   have hr1:Qx c rest=[rest]:=by
    cases hi2:XY c rest with
    | none=>exact ZbR (ZhB.1 hi2)
    | some m=>
     obtain⟨h1,_,hm⟩:=Zdb hi2
     have:c∈rest:=by rw[h1];simp
     have:=List.count_pos_iff.2 this
     omega
   rw[hr1] at hp
   subst hi
   have w':=ZD (k:=done.length) (by omega)
   have hrep:done.length+1-done.length=1:=by omega
   have h5:done.length<done.length+1:=by omega
   have h6:((done.length+1:Nat):Int)≤((done.length+1:Nat):Int):=Int.le_refl _
   simp +contextual -implicitDefEqProofs (maxSteps:=10^7) only[go_sem,seval,↓gZ,hrep,w',h5,h6,List.replicate_one,Zup,Zuq,ZjA,Zow,Zox,List.length_cons,List.length_nil,Nat.zero_add,and_self,if_true,Ze]
   rw[hp]
   simp
theorem Zdc (s:List UInt8) (c:UInt8) (hs:s.length≤1000000):Zk Xs Ms Yg [.d (.str s),.d (.str [c])] []=some (.ownv 0 0 (Qx c s).length,[.row 1 ((Qx c s).map .str) true false]):=by
 have e1:=Zri s c hs
 refine Zc Xs Ms VY Zkj (by show 2≤_;decide) ?_
 simp +contextual -implicitDefEqProofs (maxSteps:=10^7) only[go_sem,seval,↓gZ,VY,e1]
def Zbf:List (List UInt8)→Option (List Int)
 | []=>some []
 | w :: r=>(rd w).bind fun v=>(Zbf r).bind fun vs=>some ((v:Int) :: vs)
def rnV (o:Option (List Int)):AV×List Zl:=match o with
 | none=>(.tup [.own 0,(.d (.bool false))],[.row 1 [] true false])
 | some vs=>(.tup [.own 0,(.d (.bool true))],[.row 1 (vs.map YF) true false])
theorem ZwV {ws:List (List UInt8)} {k:Nat} {x:List UInt8} (hx:ws[k]?=some x):Zbf (ws.drop k)=(rd x).bind fun v=>(Zbf (ws.drop (k+1))).bind fun vs=>some ((v:Int) :: vs):=by
 obtain⟨h1,h2⟩:=List.getElem?_eq_some_iff.1 hx
 rw[List.drop_eq_getElem_cons h1,h2,Zbf]
theorem Zdd (ws:List (List UInt8)) (hw:ws.length≤2000000):Zk Xs Ms Yf [.d (.sl (ws.map .str))] []=some (rnV (Zbf ws)):=by
 refine Zc Xs Ms VX Zki (by show 1≤_;decide) ?_
 simp +contextual -implicitDefEqProofs (maxSteps:=10^7) only[go_sem,seval,↓gZ,VX]
 refine Qb Xs Ms (st0:=?st0) (α:=Nat×List Int) (fun a=>[(11,.d (J (a.1:Int)))]) (fun a=>[(0,.row 1 (a.2.map YF) true false)]) (fun a=>a.1≤ws.length∧a.2.length≤a.1∧Zbf ws=(Zbf (ws.drop a.1)).map fun r=>a.2++r) (fun a=>ws.length-a.1) (0,[]) ?hc ⟨by simp,by simp,by simp⟩ ?h0 ?step
 case hc=>simp +contextual -implicitDefEqProofs (maxSteps:=10^7) only[go_sem,seval,↓gZ]<;>exact rfl
 case h0=>rfl
 case step=>
  intro⟨k,vs⟩ ⟨hk,hv,hp⟩ ih
  simp only at hk hv hp ih ⊢
  by_cases hlt:k<ws.length
  ·obtain⟨x,hx⟩:=Z4 hlt
   have hlt' : (k:Int)<(ws.length:Int):=by omega
   have w:=ZD (k:=k) (by omega)
   have e1:=UV x
   rw[ZwV hx] at hp
   have hroom:(vs.length+1)*8≤140737488355328∧vs.length+1≤140737488355328:=by omega
   have hxe:(ws.map D.str)[k]?=some (.str x):=by rw[List.getElem?_map,hx];rfl
   cases hr:rd x with
   | none=>
    rw[hr] at e1 hp
    simp only[ZdT] at e1
    simp only[Option.bind_none,Option.map_none] at hp
    rw[hp]
    simp +contextual -implicitDefEqProofs (maxSteps:=10^7) only[go_sem,seval,↓gZ,hlt',hlt,hxe,hx,w,e1,rnV]
   | some v=>
    rw[hr] at e1 hp
    simp only[ZdT] at e1
    simp +contextual -implicitDefEqProofs (maxSteps:=10^7) only[go_sem,seval,↓gZ,hlt',hlt,hxe,hx,w,e1,hroom]
    refine ih (k+1,vs++[(v:Int)]) _ ⟨by omega,by simp;omega,?_⟩ (by omega) ?_
    ·rw[hp]
     cases Zbf (ws.drop (k+1))<;>simp
    ·simp +contextual -implicitDefEqProofs (maxSteps:=10^7) only[go_sem,seval,↓gZ,YF,List.map_append,List.map_cons,List.map_nil]
  ·have:k=ws.length:=by omega
   subst this
   simp only[List.drop_length,Zbf,Option.map_some,List.append_nil] at hp
   rw[hp]
   simp +contextual -implicitDefEqProofs (maxSteps:=10^7) only[go_sem,seval,↓gZ,rnV]
def rlV (o:Option Zi):AV:=match o with
 | none=>.tup [.d (.agg [J 0,J 0,.bool false,J 0,J 0]),(.d (.bool false))]
 | some l=>.tup [.d l.enc,(.d (.bool true))]
theorem Zno (s:List UInt8) (hs:s.length≤1000000):Zk Xs Ms VK [.d (.str s)] []=some (rlV (ZeK (Qx 32 s)),[]):=by
 have e1:=Zdc s 32 hs
 generalize Qx 32 s=ws at e1
 by_cases h5:ws.length=5
 ·obtain⟨a,b,c,t,k,rfl⟩:∃ a b c t k,ws=[a,b,c,t,k]:=by
   match ws,h5 with
   | [a,b,c,t,k],_=>exact⟨a,b,c,t,k,rfl⟩
  simp only[List.map_cons,List.map_nil,List.length_cons,List.length_nil,Nat.zero_add,Nat.reduceAdd] at e1
  have key:∀ tb:Bool,t=ZbT tb→Zk Xs Ms VK [.d (.str s)] []=some (rlV (ZeK [a,b,c,t,k]),[]):=by
   intro tb ht
   have e2:=Zdd [a,b,c,k] (by simp)
   simp only[List.map_cons,List.map_nil] at e2
   have hor:=Zrg tb
   rw[← ht] at hor
   have hdec:=Zou tb
   rw[← ht] at hdec
   have hrl:ZeK [a,b,c,t,k]=match Zbf [a,b,c,k] with
     | some [a,b,c,k]=>some ⟨⟨b,c,tb,k⟩,a⟩
     | _=>none:=by
    simp only[ZeK,if_pos hor,Zbf,hdec]
    cases rd a<;>cases rd b<;>cases rd c<;>cases rd k<;>rfl
   rw[hrl]
   have h4:∀ vs,Zbf [a,b,c,k]=some vs→∃ x y z u:Int,vs=[x,y,z,u]:=by
    intro vs h
    simp only[Zbf,Option.bind_eq_some_iff,Option.some.injEq] at h
    obtain⟨x,_,_,⟨y,_,_,⟨z,_,_,⟨u,_,_,h1,rfl⟩,rfl⟩,rfl⟩,rfl⟩:=h
    subst h1
    exact⟨_,_,_,_,rfl⟩
   have q1:(t==[116,117,114,110,115])=tb:=by
    rw[ht];cases tb<;>rfl
   have q2:(t==[102,105,120,101,100])=!tb:=by
    rw[ht];cases tb<;>rfl
   cases hr:Zbf [a,b,c,k] with
   | none=>
    rw[hr] at e2
    simp only[rnV] at e2
    refine Zc Xs Ms QS Zbp (by show 1≤_;decide) ?_
    cases tb with
    | true=>simp +contextual -implicitDefEqProofs (maxSteps:=10^7) only[go_sem,seval,↓gZ,QS,e1,e2,q1,q2,rlV,Bool.not_true]
    | false=>simp +contextual -implicitDefEqProofs (maxSteps:=10^7) only[go_sem,seval,↓gZ,QS,e1,e2,q1,q2,rlV,Bool.not_false]
   | some vs=>
    obtain⟨x,y,z,u,rfl⟩:=h4 vs hr
    rw[hr] at e2
    simp only[rnV,List.map_cons,List.map_nil,YF] at e2
    refine Zc Xs Ms QS Zbp (by show 1≤_;decide) ?_
    cases tb with
    | true=>simp +contextual -implicitDefEqProofs (maxSteps:=10^7) only[go_sem,seval,↓gZ,QS,e1,e2,q1,q2,rlV,Bool.not_true,Zi.enc]
    | false=>simp +contextual -implicitDefEqProofs (maxSteps:=10^7) only[go_sem,seval,↓gZ,QS,e1,e2,q1,q2,rlV,Bool.not_false,Zi.enc]
  by_cases t1:t=Za1
  ·exact key true t1
  by_cases t2:t=ZdV
  ·exact key false t2
  ·have hno:ZeK [a,b,c,t,k]=none:=by
    simp only[ZeK];rw[if_neg (fun h=>h.elim t1 t2)]
   rw[hno]
   have q1:(t==[116,117,114,110,115])=false:=by simpa [Za1] using t1
   have q2:(t==[102,105,120,101,100])=false:=by simpa [ZdV] using t2
   refine Zc Xs Ms QS Zbp (by show 1≤_;decide) ?_
   simp +contextual -implicitDefEqProofs (maxSteps:=10^7) only[go_sem,seval,↓gZ,QS,e1,q1,q2,rlV]
 ·have hno:ZeK ws=none:=by
   unfold ZeK
   split
   ·exact absurd rfl h5
   ·rfl
  rw[hno]
  have h5' : ¬(ws.length:Int)=5:=by omega
  refine Zc Xs Ms QS Zbp (by show 1≤_;decide) ?_
  simp +contextual -implicitDefEqProofs (maxSteps:=10^7) only[go_sem,seval,↓gZ,QS,e1,h5',rlV]
theorem Zct (l:Zi) (h:Zk7 l):(YK 32 (X6 l)).length≤40:=by
 obtain⟨⟨w,h',t,k⟩,c⟩:=l
 obtain⟨h1,h2,h3,h4⟩:=h
 simp only[six] at h1 h2 h3 h4
 have l1:=YI 5 c.toNat (by omega)
 have l2:=YI 5 w.toNat (by omega)
 have l3:=YI 5 h'.toNat (by omega)
 have l4:=YI 5 k.toNat (by omega)
 have l5:(ZbT t).length=5:=by cases t<;>rfl
 simp only[X6,YK,List.length_append,List.length_cons]
 omega
theorem Znp (lW lH:Int) (lT:Bool) (lK lC:Int) (h:Zk7 (Zi.mk (Pane.mk lW lH lT lK) lC)):Zk Xs Ms VJ [(.d (.agg [J lW,J lH,.bool lT,J lK,J lC]))] []=some (.d (.str (Zae (Zi.mk (Pane.mk lW lH lT lK) lC))),[]):=by
 have hw:=Zct (Zi.mk (Pane.mk lW lH lT lK) lC) h
 obtain⟨h1,h2,h3,h4⟩:=h
 simp only[six] at h1 h2 h3 h4
 have e1:=Yc lC h1.1 (by omega)
 have e2:=Yc lW h2.1 (by omega)
 have e3:=Yc lH h3.1 (by omega)
 have e4:=Yc lK h4.1 (by omega)
 have e5:=ZeB (X6 (Zi.mk (Pane.mk lW lH lT lK) lC)) 32 (by simp[X6]) (by simp[X6]) (by omega)
 simp only[X6,List.map_cons,List.map_nil] at e5
 unfold Zae
 simp only[X6]
 refine Zc Xs Ms Uj ZpL (by show 1≤_;decide) ?_
 cases lT with
 | true=>
  simp only[ZbT,Za1,if_true] at e5 ⊢
  simp +contextual -implicitDefEqProofs (maxSteps:=10^7) only[go_sem,seval,↓gZ,Uj,e1,e2,e3,e4,e5]
 | false=>
  simp only[ZbT,ZdV,Bool.false_eq_true,if_false] at e5 ⊢
  simp +contextual -implicitDefEqProofs (maxSteps:=10^7) only[go_sem,seval,↓gZ,Uj,e1,e2,e3,e4,e5]
theorem Znq (lW lH:Int) (lT:Bool) (lK lC:Int) (h:Zk7 (Zi.mk (Pane.mk lW lH lT lK) lC)):Zk Xs Ms W7 [(.d (.agg [J lW,J lH,.bool lT,J lK,J lC]))] []=some (.d (.str (Zae (Zi.mk (Pane.mk lW lH lT lK) lC))),[]):=by
 have hw:=Zct (Zi.mk (Pane.mk lW lH lT lK) lC) h
 obtain⟨h1,h2,h3,h4⟩:=h
 simp only[six] at h1 h2 h3 h4
 have e1:=WB lC.toNat (by omega)
 have e2:=WB lW.toNat (by omega)
 have e3:=WB lH.toNat (by omega)
 have e4:=WB lK.toNat (by omega)
 rw[Int.toNat_of_nonneg (by omega)] at e1 e2 e3 e4
 have l1:=YI 5 lC.toNat (by omega)
 have l2:=YI 5 lW.toNat (by omega)
 have l3:=YI 5 lH.toNat (by omega)
 have l4:=YI 5 lK.toNat (by omega)
 unfold Zae
 simp only[X6,YK]
 generalize num lC.toNat=a at *
 generalize num lW.toNat=b at *
 generalize num lH.toNat=c at *
 generalize num lK.toNat=d at *
 have b1:a.length+1≤1152921504606846976:=by omega
 have b2:a.length+1+b.length≤1152921504606846976:=by omega
 have b3:a.length+1+b.length+1≤1152921504606846976:=by omega
 have b4:a.length+1+b.length+1+c.length≤1152921504606846976:=by omega
 have b5:a.length+1+b.length+1+c.length+1≤1152921504606846976:=by omega
 have b6:a.length+1+b.length+1+c.length+1+5≤1152921504606846976:=by omega
 have b7:a.length+1+b.length+1+c.length+1+5+1≤1152921504606846976:=by omega
 have b8:a.length+1+b.length+1+c.length+1+5+1+d.length≤1152921504606846976:=by omega
 refine Zc Xs Ms Uk ZpO (by show 1≤_;decide) ?_
 cases lT with
 | true=>
  simp only[ZbT,Za1,if_true]
  simp +contextual -implicitDefEqProofs (maxSteps:=10^7) only[go_sem,seval,↓gZ,Uk,e1,e2,e3,e4,b1,b2,b3,b4,b5,b6,b7,b8]
  simp only[List.append_assoc,List.cons_append,List.nil_append]
 | false=>
  simp only[ZbT,ZdV,Bool.false_eq_true,if_false]
  simp +contextual -implicitDefEqProofs (maxSteps:=10^7) only[go_sem,seval,↓gZ,Uk,e1,e2,e3,e4,b1,b2,b3,b4,b5,b6,b7,b8]
  simp only[List.append_assoc,List.cons_append,List.nil_append]
end Go.Proofs.YtkdjbefmiiibpaaGreatDoor
