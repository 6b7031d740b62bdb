/- Own text. -/
import Derived.Test.YtcefneehgbiebaaGreatDoorACode
import Derived.Test.YtcefneehgbiebaaGreatDoorAbsParts
import Derived.Test.YtcefneehgbiebaaGreatDoorAC5
import Derived.Test.YtcefneehgbiebaaGreatDoorAC10
namespace Go.Proofs.YtcefneehgbiebaaGreatDoor
open Go Go.Abs Go.Abs.E Go.Abs.L
open Nat (reduceMul reduceSub reduceLeDiff reduceEqDiff)
open Int (reduceLE reduceEq reduceToNat reduceNeg)
set_option linter.unusedSimpArgs false
set_option linter.unusedVariables false
set_option maxRecDepth 20000
set_option maxHeartbeats 4000000
def YH:List UInt8:=[115,104,101,101,116]
def Vo:List UInt8:=[102,108,97,119]
def VX:List UInt8:=[111,114,100,101,114]
def Zev:List UInt8:=[99,117,116]
def VY:List UInt8:=[98,114,101,97,107]
def WI:List UInt8:=[115,99,114,97,112]
inductive Ev where
 | sheet (l w h:Nat)
 | flaw (l x y w h:Nat)
 | order (n:Zc)
 | cut (l:Nat) (b:BT)
 | brk (n:Zc)
 | scrap (l:Nat)
deriving DecidableEq
def bx0:Box:=⟨0,0,0,0⟩
def ln0:Zc:=⟨⟨0,0,false,0⟩,0⟩
def Ev.ev:Ev→Zl
 | .sheet l w h=>⟨0,l,⟨0,0,w,h⟩,ln0,BT.waste.plan⟩
 | .flaw l x y w h=>⟨1,l,⟨x,y,w,h⟩,ln0,BT.waste.plan⟩
 | .order n=>⟨2,0,bx0,n,BT.waste.plan⟩
 | .cut l b=>⟨3,l,bx0,ln0,b.plan⟩
 | .brk n=>⟨4,0,bx0,n,BT.waste.plan⟩
 | .scrap l=>⟨5,l,bx0,ln0,BT.waste.plan⟩
def Ev.words:Ev→List (List UInt8)
 | .sheet l w h=>[YH,num l,num w,num h]
 | .flaw l x y w h=>[Vo,num l,num x,num y,num w,num h]
 | .order n=>VX :: Xq n
 | .cut l b=>[Zev,num l,shw b]
 | .brk n=>VY :: Xq n
 | .scrap l=>[WI,num l]
def Ev.text (v:Ev):List UInt8:=Yb 32 v.words
def Zqc (b:BT):Prop:=b.cnt≤255∧VZ b=true∧(shw b).length≤1600
instance (b:BT):Decidable (Zqc b):=by unfold Zqc;infer_instance
def Ev.ok:Ev→Prop
 | .sheet l w h=>l≤999999∧w≤999999∧h≤999999
 | .flaw l x y w h=>l≤999999∧x≤999999∧y≤999999∧w≤999999∧h≤999999
 | .order n=>Zp8 n
 | .cut l b=>l≤999999∧Zqc b
 | .brk n=>Zp8 n
 | .scrap l=>l≤999999
def Zuf (s:List UInt8):Option BT:=if s.length≤1600 then ZnP s else none
theorem Zl0 {s:List UInt8} {b:BT}:Zuf s=some b↔s=shw b∧Zqc b:=by
 unfold Zuf;constructor
 ·intro h;split at h
  ·rename_i hl;obtain⟨h1,h2,h3⟩:=Zik.1 h;exact⟨h1,h2,h3,h1 ▸ hl⟩
  ·cases h
 ·rintro ⟨rfl,h1,h2,h3⟩
  rw[Kh h3];exact Zzx h1 h2
def Zb6:List (List UInt8)→Option (List Nat)
 | []=>some []
 | w :: r=>(rd w).bind fun n=>(Zb6 r).bind fun l=>some (n :: l)
theorem Zh2:∀ {ws:List (List UInt8)} {ns:List Nat},Zb6 ws=some ns→ws=ns.map num∧∀ n∈ns,n≤999999
 | [],ns,h=>by simp[Zb6] at h;subst h;simp
 | w :: r,ns,h=>by
  simp only[Zb6,KQ] at h;obtain⟨n,h1,l,h2,h3⟩:=h;cases h3;obtain⟨e1,b1⟩:=Zd6 h1;obtain⟨e2,b2⟩:=Zh2 h2;refine⟨by rw[e1,e2];rfl,fun x hx=>?_⟩;rcases Ke.1 hx with rfl | hx
  ·exact b1
  ·exact b2 x hx
theorem Zf6:∀ {ns:List Nat},(∀ n∈ns,n≤999999)→Zb6 (ns.map num)=some ns
 | [],_=>rfl
 | n :: r,h=>by
  have ih:=Zf6 (ns:=r) (fun x hx=>h x (KB _ hx));simp only[Kk,Zb6,Zig (h n (K3 ..)),KI,ih]
def Zf7 (w:List UInt8):List Nat→Option Ev
 | [l]=>if w=WI then some (.scrap l) else none
 | [l,a,b]=>if w=YH then some (.sheet l a b) else none
 | [l,x,y,a,b]=>if w=Vo then some (.flaw l x y a b) else none
 | _=>none
def Zyy:List (List UInt8)→Option Ev
 | [a,p]=>(rd a).bind fun l=>(Zuf p).bind fun b=>some (.cut l b)
 | _=>none
def Uo:List (List UInt8)→Option Ev
 | []=>none
 | w :: r=>if w=VX then (ZhW r).bind fun n=>some (.order n) else if w=VY then (ZhW r).bind fun n=>some (.brk n) else if w=Zev then Zyy r else (Zb6 r).bind (Zf7 w)
theorem Zug {ws:List (List UInt8)} {v:Ev} (h:Uo ws=some v):ws=v.words∧v.ok:=by
 cases ws with
 | nil=>simp[Uo] at h
 | cons w r=>
  simp only[Uo] at h;split at h
  ·rename_i hw;simp only[KQ] at h;obtain⟨n,h1,h2⟩:=h;cases h2;obtain⟨e,s⟩:=ZsY h1;exact⟨by rw[hw,e];rfl,s⟩
  ·split at h
   ·rename_i hw;simp only[KQ] at h;obtain⟨n,h1,h2⟩:=h;cases h2;obtain⟨e,s⟩:=ZsY h1;exact⟨by rw[hw,e];rfl,s⟩
   ·split at h
    ·rename_i hw;unfold Zyy at h;split at h
     ·simp only[KQ] at h;obtain⟨n,h1,b,h2,h3⟩:=h;cases h3;obtain⟨e1,b1⟩:=Zd6 h1;obtain⟨e2,b2⟩:=Zl0.1 h2;exact⟨by rw[hw,e1,e2];rfl,b1,b2⟩
     ·cases h
    ·simp only[KQ] at h;obtain⟨ns,h1,h2⟩:=h;obtain⟨e1,b1⟩:=Zh2 h1;unfold Zf7 at h2;split at h2
     ·split at h2
      ·rename_i hw;cases h2;exact⟨by rw[hw,e1];rfl,b1 _ (by simp)⟩
      ·cases h2
     ·split at h2
      ·rename_i hw;cases h2;exact⟨by rw[hw,e1];rfl,b1 _ (by simp),b1 _ (by simp),b1 _ (by simp)⟩
      ·cases h2
     ·split at h2
      ·rename_i hw;cases h2;exact⟨by rw[hw,e1];rfl,b1 _ (by simp),b1 _ (by simp),b1 _ (by simp),b1 _ (by simp),b1 _ (by simp)⟩
      ·cases h2
     ·cases h2
theorem Zsn {v:Ev} (h:v.ok):Uo v.words=some v:=by
 have d1:¬YH=VX:=by decide
 have d2:¬YH=VY:=by decide
 have d3:¬YH=Zev:=by decide
 have d4:¬Vo=VX:=by decide
 have d5:¬Vo=VY:=by decide
 have d6:¬Vo=Zev:=by decide
 have d7:¬WI=VX:=by decide
 have d8:¬WI=VY:=by decide
 have d9:¬WI=Zev:=by decide
 have aa:¬Zev=VX:=by decide
 have ab:¬Zev=VY:=by decide
 have ad:¬VY=VX:=by decide
 cases v with
 | sheet l w h' =>
  obtain⟨h1,h2,h3⟩:=h;have e:=Zf6 (ns:=[l,w,h']) (by simp;omega);simp only[Kk,Kw] at e;simp only[Ev.words,Uo,Kd d1,Kd d2,Kd d3,e,KI,Zf7,Km]
 | flaw l x y w h' =>
  obtain⟨h1,h2,h3,h4,h5⟩:=h;have e:=Zf6 (ns:=[l,x,y,w,h']) (by simp;omega);simp only[Kk,Kw] at e;simp only[Ev.words,Uo,Kd d4,Kd d5,Kd d6,e,KI,Zf7,Km]
 | order n=>simp only[Ev.words,Uo,Km,Zqa (l:=n) h,KI]
 | brk n=>simp only[Ev.words,Uo,Kd ad,Km,Zqa (l:=n) h,KI]
 | cut l b=>
  obtain⟨h1,h2⟩:=h;simp only[Ev.words,Uo,Kd aa,Kd ab,Km,Zyy,Zig h1,Zl0.2 ⟨rfl,h2⟩,KI]
 | scrap l=>
  have h1:l≤999999:=h;have e:=Zf6 (ns:=[l]) (by simp;omega);simp only[Kk,Kw] at e;simp only[Ev.words,Uo,Kd d7,Kd d8,Kd d9,e,KI,Zf7,Km]
theorem Zqd {c:UInt8} (hd:isD c=false) (h:c≠119∧c≠112∧c≠116∧c≠100∧c≠97∧c≠40∧c≠44∧c≠41):∀ b:BT,c∉shw b
 | .waste=>by simp[shw,h]
 | .pane i t=>by
  simp only[shw,Ke,not_or];exact⟨by cases t<;>simp[h],JF hd _⟩
 | .cut d a l r=>by
  simp only[shw,Ke,Kg,not_or,Ku,not_false_eq_true,and_true];exact⟨by cases d<;>simp[h],JF hd _,h.2.2.2.2.2.1,Zqd hd h l,h.2.2.2.2.2.2.1,Zqd hd h r,h.2.2.2.2.2.2.2⟩
theorem ZBX (v:Ev):∀ w∈v.words,(32:UInt8)∉w:=by
 intro w hw;cases v with
 | order n=>
  rcases Ke.1 hw with rfl | hw
  ·decide
  ·exact Zp9 n w hw
 | brk n=>
  rcases Ke.1 hw with rfl | hw
  ·decide
  ·exact Zp9 n w hw
 | cut l b=>
  simp only[Ev.words,Ke,Ku,or_false] at hw;rcases hw with rfl | rfl | rfl
  ·decide
  ·exact JF rfl _
  ·exact Zqd rfl (by decide) b
 | sheet l a b=>
  simp only[Ev.words,Ke,Ku,or_false] at hw;rcases hw with rfl | rfl | rfl | rfl<;>first | decide | exact JF rfl _
 | flaw l x y a b=>
  simp only[Ev.words,Ke,Ku,or_false] at hw;rcases hw with rfl | rfl | rfl | rfl | rfl | rfl<;>first | decide | exact JF rfl _
 | scrap l=>
  simp only[Ev.words,Ke,Ku,or_false] at hw;rcases hw with rfl | rfl<;>first | decide | exact JF rfl _
theorem Zyz (v:Ev):(10:UInt8)∉v.text:=by
 refine Zvh (by decide) fun w hw=>?_;have ln:∀ n:Zc,∀ w∈Xq n,(10:UInt8)∉w:=by
  intro n w hw;simp only[Xq,Ke,Ku,or_false] at hw;rcases hw with rfl | rfl | rfl | rfl | rfl<;>first | exact JF rfl _ | exact Zw0 _
 cases v with
 | order n=>
  rcases Ke.1 hw with rfl | hw
  ·decide
  ·exact ln n w hw
 | brk n=>
  rcases Ke.1 hw with rfl | hw
  ·decide
  ·exact ln n w hw
 | cut l b=>
  simp only[Ev.words,Ke,Ku,or_false] at hw;rcases hw with rfl | rfl | rfl
  ·decide
  ·exact JF rfl _
  ·exact Zqd rfl (by decide) b
 | sheet l a b=>
  simp only[Ev.words,Ke,Ku,or_false] at hw;rcases hw with rfl | rfl | rfl | rfl<;>first | decide | exact JF rfl _
 | flaw l x y a b=>
  simp only[Ev.words,Ke,Ku,or_false] at hw;rcases hw with rfl | rfl | rfl | rfl | rfl | rfl<;>first | decide | exact JF rfl _
 | scrap l=>
  simp only[Ev.words,Ke,Ku,or_false] at hw;rcases hw with rfl | rfl<;>first | decide | exact JF rfl _
def Zso (s:List UInt8):Option Ev:=Uo (Z8 32 s)
theorem ZAz (v:Ev):v.words≠[]:=by cases v<;>simp[Ev.words]
theorem Zzm {s:List UInt8} {v:Ev}:Zso s=some v↔s=v.text∧v.ok:=by
 unfold Zso;constructor
 ·intro h;obtain⟨h1,h2⟩:=Zug h;exact⟨by rw[Ev.text,← h1,ZqP],h2⟩
 ·rintro ⟨rfl,h⟩
  rw[Ev.text,ZqQ (ZAz v) (ZBX v),Zsn h]
def Zqe:Nat→Nat→List UInt8→List Ev
 | 0,_,_=>[]
 | n+1,k,s=>if 40≤k then [] else match QI 10 s with
  | none=>[]
  | some i=>match Zso (s.take i) with
   | none=>[]
   | some v=>v :: Zqe n (k+1) (s.drop (i+1))
def Qd (l:List Ev):List UInt8:=Zf5 Ev.text l
theorem Zns:∀ {n k:Nat} {l:List Ev} {s:List UInt8},l.length<n→l.length+k≤40→(∀ v∈l,v.ok)→Zqe n k (Qd l++s)=l++Zqe (n-l.length) (k+l.length) s
 | n,k,[],s,_,_,_=>by simp[Qd,Zf5]
 | 0,k,v :: l,s,hn,_,_=>by omega
 | n+1,k,v :: l,s,hn,hk,ho=>by
  simp only[Ko] at hn hk ⊢;have hi:QI 10 (Qd (v :: l)++s)=some v.text.length:=by
   rw[Qd,Zd2,KN,Kv];exact Zyv (Zyz v)
  have e1:(Qd (v :: l)++s).take v.text.length=v.text:=by
   rw[Qd,Zd2,KN,Kv];simp
  have e2:(Qd (v :: l)++s).drop (v.text.length+1)=Qd l++s:=by
   rw[Qd,Zd2,KN,Kv,← List.drop_drop];simp[Qd]
  have ih:=Zns (n:=n) (k:=k+1) (l:=l) (s:=s) (by omega) (by omega) (fun x hx=>ho x (by simp[hx]));rw[Zqe,Kd (by omega),hi];simp only;rw[e1,Zzm.2 ⟨rfl,ho v (by simp)⟩];simp only;rw[e2,ih,Kv];congr 2
  ·congr 1<;>omega
theorem Znt (c:UInt8) (m:Nat):∀ ws:List (List UInt8),(∀ w∈ws,w.length≤m)→(Yb c ws).length≤ws.length*(m+1)
 | [],_=>by simp[Yb]
 | [x],h=>by have:=h x (by simp);simp[Yb];omega
 | x :: y :: r,h=>by
  have ih:=Znt c m (y :: r) (fun w hw=>h w (by simp[hw]));have hx:=h x (by simp);simp only[Yb,Kp,Ko] at ih ⊢;rw[KG _ 1];omega
theorem Zc8 (n:Int) (h:six n):(num n.toNat).length≤6:=YC 5 n.toNat (by have:=h.1;have:=h.2;omega)
theorem Up (w:List UInt8) (ns:List Int) (hl:ns.length≤10) (h6:∀ n∈ns,six n) (hw:w.length≤10):Ze Xs Ms Xm [.d (.str w),.d (.sl (ns.map YI))] []=some (.d (.str (Yb 32 (w :: ns.map fun n=>num n.toNat))),[]):=by
 have ae:(Yb 32 (w :: ns.map fun n=>num n.toNat)).length≤1000:=by
  have:=Znt 32 10 (w :: ns.map fun n=>num n.toNat) (by
   intro x hx;rcases Ke.1 hx with rfl | hx
   ·exact hw
   ·obtain⟨n,hn,rfl⟩:=La.1 hx;have:=Zc8 n (h6 n hn);omega)
  simp only[Ko,KR] at this;omega
 have hj:=Zhd (w :: ns.map fun n=>num n.toNat) 32 (by simp) (by simp;omega) (by omega);simp only[Kk] at hj;refine cE ?_;simp +contextual -implicitDefEqProofs (maxSteps:=10^7) only[go_sem,seval,↓gZ,Zcd];refine LO (α:=Nat) (fun k=>[(12,.d (J (k:Int)))]) (fun k=>[(0,.row 1 ((w :: (ns.take k).map fun n=>num n.toNat).map .str) true false)]) (fun k=>k≤ns.length) (fun k=>ns.length-k) 0 (by simp) ?_;intro k hk ih;by_cases ad:k<ns.length
 ·obtain⟨x,hx⟩:=Zq ad;have ab : (k:Int)<(ns.length:Int):=by omega
  have af:=Zj (k:=k) (by omega);have hs:=h6 x (Kc hx);have e1:=X9 x hs.1 (by have:=hs.2;omega);have aa:((ns.take k).length+1+1)*16≤140737488355328∧(ns.take k).length≤140737488355326:=by simp;omega
  have ht:ns.take (k+1)=ns.take k++[x]:=by rw[KP,hx];rfl
  simp +contextual -implicitDefEqProofs (maxSteps:=10^7) only[go_sem,seval,↓gZ,ab,ad,hx,af,e1,aa,YI];refine ih (k+1) _ (by omega) (by omega) ?_;simp +contextual -implicitDefEqProofs (maxSteps:=10^7) only[go_sem,seval,↓gZ,ht,Lc,Kk,Kw,Kv]
 ·have:k=ns.length:=by omega
  subst this;simp +contextual -implicitDefEqProofs (maxSteps:=10^7) only[go_sem,seval,↓gZ,KY,hj]
def UU (e:Zl):List Int:=[e.kind,e.label,e.box.X,e.box.Y,e.box.W,e.box.H,e.line.Pane.W,e.line.Pane.H,e.line.Pane.Kind,e.line.Count]
theorem Zsp (eK eL eX eY eW eH ae af:Int) (ai:Bool) (ag eC eo ea ep:Int) (et:Bool) (ek:List Zf):Ze Xs Ms Zae [(.d (.agg [J eK,J eL,J eX,J eY,J eW,J eH,J ae,J af,.bool ai,J ag,J eC,J eo,J ea,J ep,.bool et,.sl (ek.map Zf.enc)]))] []=some ((.d (.bool (decide (∀ n∈UU (Zl.mk eK eL (Box.mk eX eY eW eH) (Zc.mk (Pane.mk ae af ai ag) eC) (Zf.mk eo ea ep et ek)),six n)))),[]):=by
 obtain⟨xs,aj⟩:∃ xs,xs=UU (Zl.mk eK eL (Box.mk eX eY eW eH) (Zc.mk (Pane.mk ae af ai ag) eC) (Zf.mk eo ea ep et ek)):=⟨_,rfl⟩
 have ab:xs.length=10:=by rw[aj];rfl
 rw[← aj];refine cE ?_;simp +contextual -implicitDefEqProofs (maxSteps:=10^7) only[go_sem,seval,↓gZ,Zgl];have ak:([J eK,J eL,J eX,J eY,J eW,J eH,J ae,J af,J ag,J eC]:List D)=xs.map YI:=by rw[aj];rfl
 rw[ak];refine LO (α:=Nat) (fun k=>[(38,.d (J (k:Int)))]) (fun _=>[]) (fun k=>k≤10∧∀ n∈xs.take k,six n) (fun k=>10-k) 0 (by simp) ?_;intro k ⟨hk,hp⟩ ih;by_cases ah:k<xs.length
 ·obtain⟨x,hx⟩:=Zq ah;have ad : (k:Int)<10:=by omega
  have aa:k<10:=by omega
  have al:=Zj (k:=k) (by omega);by_cases hs:six x
  ·have n1:¬x<0:=by have:=hs.1;omega
   have n2:¬999999<x:=by have:=hs.2;omega
   simp +contextual -implicitDefEqProofs (maxSteps:=10^7) only[go_sem,seval,↓gZ,ad,ah,aa,hx,al,YI,n1,n2,ab];refine ih (k+1) _ ⟨by omega,?_⟩ (by omega) ?_
   ·intro n hn;rw[KP,hx] at hn;rcases Kg.1 hn with hn | hn
    ·exact hp n hn
    ·simp only[LQ,KA] at hn;rw[hn];exact hs
   ·simp +contextual -implicitDefEqProofs (maxSteps:=10^7) only[go_sem,seval,↓gZ]
  ·have an:decide (∀ n∈xs,six n)=false:=Kj fun h=>hs (h x (Kc hx));rw[an];by_cases n1:x<0
   ·simp +contextual -implicitDefEqProofs (maxSteps:=10^7) only[go_sem,seval,↓gZ,ad,ah,aa,hx,al,YI,n1,ab]
   ·have n2:999999<x:=by
     rcases Int.lt_or_le 999999 x with h | h
     ·exact h
     ·exact absurd ⟨by omega,h⟩ hs
    simp +contextual -implicitDefEqProofs (maxSteps:=10^7) only[go_sem,seval,↓gZ,ad,ah,aa,hx,al,YI,n1,n2,ab]
 ·have ao:k=10:=by omega
  subst ao;have am:decide (∀ n∈xs,six n)=true:=by
   refine Ki fun n hn=>hp n ?_;rw[KH (by omega)];exact hn
  rw[am];simp +contextual -implicitDefEqProofs (maxSteps:=10^7) only[go_sem,seval,↓gZ,ab]
def Zb7 (e:Zl) (b:BT):Option Ev:=
 if e.kind=0 then (if e.box.X=0∧e.box.Y=0 then some (.sheet e.label.toNat e.box.W.toNat e.box.H.toNat) else none)
 else if e.kind=1 then some (.flaw e.label.toNat e.box.X.toNat e.box.Y.toNat e.box.W.toNat e.box.H.toNat)
 else if e.kind=2 then some (.order e.line)
 else if e.kind=3 then some (.cut e.label.toNat b)
 else if e.kind=4 then some (.brk e.line)
 else if e.kind=5 then some (.scrap e.label.toNat)
 else none
def Uq (e:Zl):Option Ev:=if ∀ n∈UU e,six n then
  match QU e.plan with
  | some b=>if Zqc b then Zb7 e b else none
  | none=>none
 else none
def fmtE (e:Zl):List UInt8:=match Uq e with
 | some v=>v.text
 | none=>[]
theorem ZcX {e:Zl} (h:Uq e=none):fmtE e=[]:=by unfold fmtE;rw[h]
theorem Za8 {e:Zl} {v:Ev} (h:Uq e=some v):fmtE e=v.text:=by unfold fmtE;rw[h]
theorem Zh3 {e:Zl} (h:¬∀ n∈UU e,six n):Uq e=none:=by unfold Uq;rw[Kd h]
theorem Zc9 {e:Zl} (h:∀ b,QU e.plan=some b→¬Zqc b):Uq e=none:=by
 unfold Uq;split
 ·cases hb:QU e.plan with
  | none=>rfl
  | some b=>simp only;rw[Kd (h b hb)]
 ·rfl
theorem Zfc {e:Zl} {b:BT} (h:∀ n∈UU e,six n) (hb:QU e.plan=some b) (hp:Zqc b):Uq e=Zb7 e b:=by
 unfold Uq;rw[Kh h,hb];simp only;rw[Kh hp]
theorem Znu (eK eL eX eY eW eH ab ad:Int) (ae:Bool) (af eC eo ea ep:Int) (et:Bool) (ek:List Zf):Ze Xs Ms Wi [(.d (.agg [J eK,J eL,J eX,J eY,J eW,J eH,J ab,J ad,.bool ae,J af,J eC,J eo,J ea,J ep,.bool et,.sl (ek.map Zf.enc)]))] []=some (.d (.str (fmtE (Zl.mk eK eL (Box.mk eX eY eW eH) (Zc.mk (Pane.mk ab ad ae af) eC) (Zf.mk eo ea ep et ek)))),[]):=by
 have e1:=ZpK (.mk eo ea ep et ek);rw[Zf.enc_mk] at e1;have e2:=Zsp eK eL eX eY eW eH ab ad ae af eC eo ea ep et ek;by_cases hw:∀ n∈UU (Zl.mk eK eL (Box.mk eX eY eW eH) (Zc.mk (Pane.mk ab ad ae af) eC) (Zf.mk eo ea ep et ek)),six n
 ·rw[Ki hw] at e2;rcases ZwY (.mk eo ea ep et ek) with hf | ⟨b,hb,am,an,hf⟩
  ·rw[hf] at e1;have ai:Uq (Zl.mk eK eL (Box.mk eX eY eW eH) (Zc.mk (Pane.mk ab ad ae af) eC) (Zf.mk eo ea ep et ek))=none:=by
    refine Zc9 fun b hb hp=>?_;have:=ZnQ hb;rw[hf,Kh ⟨hp.1,hp.2.1⟩] at this;cases b<;>cases this
   rw[ZcX ai];refine cE ?_;simp +contextual -implicitDefEqProofs (maxSteps:=10^7) only[go_sem,seval,↓gZ,Z4,e1,e2]
  ·rw[hf] at e1;have aa:(shw b==[])=false:=by cases b<;>rfl
   have aj:QU (.mk eo ea ep et ek)=some b:=by rw[hb];exact ZjS b
   by_cases hl:(shw b).length≤1600
   ·have ag : ¬(1600:Int)<((shw b).length:Int):=by omega
    have hk:=Zfc (e:=(Zl.mk eK eL (Box.mk eX eY eW eH) (Zc.mk (Pane.mk ab ad ae af) eC) (Zf.mk eo ea ep et ek))) hw aj ⟨am,an,hl⟩;simp only[UU,Ke,Ku,or_false,forall_eq_or_imp,forall_eq] at hw;obtain⟨n1,n2,n3,n4,n5,n6,n7,n8,n9,ao⟩:=hw;simp only[Zb7] at hk;by_cases k0:eK=0
    ·rw[Kh k0] at hk;by_cases ah:eX=0∧eY=0
     ·rw[Kh ah] at hk;rw[Za8 hk];obtain⟨hx,hy⟩:=ah;subst k0 hx hy;have e3:=Up YH [eL,eW,eH] (by simp) (by simp[n2,n5,n6]) (by decide);simp only[Kk,Kw,YI,YH] at e3;simp only[Ev.text,Ev.words,YH];refine cE ?_;simp +contextual -implicitDefEqProofs (maxSteps:=10^7) only[go_sem,seval,↓gZ,Z4,e1,e2,aa,ag,e3]
     ·rw[Kd ah] at hk;rw[ZcX hk];by_cases hx:eX=0
      ·have hy:¬eY=0:=fun h=>ah ⟨hx,h⟩;subst k0 hx;refine cE ?_;simp +contextual -implicitDefEqProofs (maxSteps:=10^7) only[go_sem,seval,↓gZ,Z4,e1,e2,aa,ag,hy]
      ·subst k0;refine cE ?_;simp +contextual -implicitDefEqProofs (maxSteps:=10^7) only[go_sem,seval,↓gZ,Z4,e1,e2,aa,ag,hx]
    rw[Kd k0] at hk;by_cases k1:eK=1
    ·rw[Kh k1] at hk;rw[Za8 hk];subst k1;have e3:=Up Vo [eL,eX,eY,eW,eH] (by simp) (by simp[n2,n3,n4,n5,n6]) (by decide);simp only[Kk,Kw,YI,Vo] at e3;simp only[Ev.text,Ev.words,Vo];refine cE ?_;simp +contextual -implicitDefEqProofs (maxSteps:=10^7) only[go_sem,seval,↓gZ,Z4,e1,e2,aa,ag,e3]
    rw[Kd k1] at hk;have ak:Zp8 ⟨⟨ab,ad,ae,af⟩,eC⟩:=⟨ao,n7,n8,n9⟩
    have e4:=Zsl ab ad ae af eC ak;have ap:=Zd3 ⟨⟨ab,ad,ae,af⟩,eC⟩ ak;have bl:6+(Za7 ⟨⟨ab,ad,ae,af⟩,eC⟩).length≤1152921504606846976:=by unfold Za7;omega
    by_cases k2:eK=2
    ·rw[Kh k2] at hk;rw[Za8 hk];subst k2;have ht:Ev.text (.order ⟨⟨ab,ad,ae,af⟩,eC⟩)=[111,114,100,101,114,32]++Za7 ⟨⟨ab,ad,ae,af⟩,eC⟩:=rfl;rw[ht];refine cE ?_;simp +contextual -implicitDefEqProofs (maxSteps:=10^7) only[go_sem,seval,↓gZ,Z4,e1,e2,aa,ag,e4,bl]
    rw[Kd k2] at hk;by_cases k3:eK=3
    ·rw[Kh k3] at hk;rw[Za8 hk];subst k3;have e3:=Up Zev [eL] (by simp) (by simp[n2]) (by decide);simp only[Kk,Kw,YI,Zev] at e3;have aq:=Zc8 eL n2;have ht:Ev.text (.cut eL.toNat b)=Yb 32 [[99,117,116],num eL.toNat]++[32]++shw b:=by simp[Ev.text,Ev.words,Yb,Zev]
     have ar:(Yb 32 [[99,117,116],num eL.toNat]).length≤20:=by simp[Yb];omega
     rw[ht];generalize Yb 32 [[99,117,116],num eL.toNat]=jt at *;have b1:jt.length+1≤1152921504606846976:=by omega
     have b2:jt.length+1+(shw b).length≤1152921504606846976:=by omega
     refine cE ?_;simp +contextual -implicitDefEqProofs (maxSteps:=10^7) only[go_sem,seval,↓gZ,Z4,e1,e2,aa,ag,e3,b1,b2]
    rw[Kd k3] at hk;by_cases k4:eK=4
    ·rw[Kh k4] at hk;rw[Za8 hk];subst k4;have ht:Ev.text (.brk ⟨⟨ab,ad,ae,af⟩,eC⟩)=[98,114,101,97,107,32]++Za7 ⟨⟨ab,ad,ae,af⟩,eC⟩:=rfl;rw[ht];refine cE ?_;simp +contextual -implicitDefEqProofs (maxSteps:=10^7) only[go_sem,seval,↓gZ,Z4,e1,e2,aa,ag,e4,bl]
    rw[Kd k4] at hk;by_cases k5:eK=5
    ·rw[Kh k5] at hk;rw[Za8 hk];subst k5;have e3:=Up WI [eL] (by simp) (by simp[n2]) (by decide);simp only[Kk,Kw,YI,WI] at e3;simp only[Ev.text,Ev.words,WI];refine cE ?_;simp +contextual -implicitDefEqProofs (maxSteps:=10^7) only[go_sem,seval,↓gZ,Z4,e1,e2,aa,ag,e3]
    ·rw[Kd k5] at hk;rw[ZcX hk];refine cE ?_;simp +contextual -implicitDefEqProofs (maxSteps:=10^7) only[go_sem,seval,↓gZ,Z4,e1,e2,aa,ag,k0,k1,k2,k3,k4,k5]
   ·have ag : (1600:Int)<((shw b).length:Int):=by omega
    have ai:Uq (Zl.mk eK eL (Box.mk eX eY eW eH) (Zc.mk (Pane.mk ab ad ae af) eC) (Zf.mk eo ea ep et ek))=none:=by
     refine Zc9 fun b' al hp=>?_;rw[show QU (Zl.plan (Zl.mk eK eL (Box.mk eX eY eW eH) (Zc.mk (Pane.mk ab ad ae af) eC) (Zf.mk eo ea ep et ek)))=QU (.mk eo ea ep et ek) from rfl,aj] at al;cases al;exact hl hp.2.2
    rw[ZcX ai];refine cE ?_;simp +contextual -implicitDefEqProofs (maxSteps:=10^7) only[go_sem,seval,↓gZ,Z4,e1,e2,aa,ag]
 ·rw[Kj hw] at e2;rw[ZcX (Zh3 hw)];refine cE ?_;simp +contextual -implicitDefEqProofs (maxSteps:=10^7) only[go_sem,seval,↓gZ,Z4,e1,e2]
theorem Zpk:Ze Xs Ms W6 [] []=some (.own 0,[.row 1 [.str YH,.str Vo,.str VX,.str Zev,.str VY,.str WI] true false]):=by
 refine cE ?_;simp +contextual -implicitDefEqProofs (maxSteps:=10^7) only[go_sem,seval,↓gZ,Zdt]
 all_goals rfl
def Znv (e:Zl):List Int:=[e.label,e.box.X,e.box.Y,e.box.W,e.box.H,e.line.Count,e.line.Pane.W,e.line.Pane.H,e.line.Pane.Kind]
theorem Zzn {e:Zl} (h:¬∀ n∈Znv e,six n):Uq e=none:=by
 refine Zh3 fun h'=>h fun n hn=>h' n ?_;simp only[Znv,UU,Ke,Ku,or_false] at hn ⊢;rcases hn with h | h | h | h | h | h | h | h | h<;>simp[h]
theorem Zzo {e:Zl} (h:∀ n∈Znv e,six n) (hk:0≤e.kind∧e.kind≤5):∀ n∈UU e,six n:=by
 intro n hn;simp only[UU,Ke,Ku,or_false] at hn;rcases hn with rfl | hn
 ·exact⟨hk.1,by omega⟩
 ·refine h n ?_;simp only[Znv,Ke,Ku,or_false];rcases hn with h | h | h | h | h | h | h | h | h<;>simp[h]
theorem Zvl {e:Zl} {b:BT} (hk:0≤e.kind∧e.kind≤5) (h0:e.kind=0→e.box.X=0∧e.box.Y=0):(Zb7 e b).isSome=true:=by
 unfold Zb7;by_cases k0:e.kind=0
 ·rw[Kh k0,Kh (h0 k0)];rfl
 rw[Kd k0];by_cases k1:e.kind=1
 ·rw[Kh k1];rfl
 rw[Kd k1];by_cases k2:e.kind=2
 ·rw[Kh k2];rfl
 rw[Kd k2];by_cases k3:e.kind=3
 ·rw[Kh k3];rfl
 rw[Kd k3];by_cases k4:e.kind=4
 ·rw[Kh k4];rfl
 rw[Kd k4,Kh (by omega)];rfl
theorem Zvm {e:Zl} {b:BT} (hk:¬(0≤e.kind∧e.kind≤5)):Zb7 e b=none:=by
 unfold Zb7;rw[Kd (by omega),Kd (by omega),Kd (by omega),Kd (by omega),Kd (by omega),Kd (by omega)]
theorem Zox {e:Zl} (h:∀ b,Zb7 e b=none):Uq e=none:=by
 unfold Uq;split
 ·split
  ·split
   ·exact h _
   ·rfl
  ·rfl
 ·rfl
theorem Zj6 (eK eL eX eY eW eH aa ab:Int) (ae:Bool) (ad eC eo ea ep:Int) (et:Bool) (ek:List Zf):Ze Xs Ms Yr [(.d (.agg [J eK,J eL,J eX,J eY,J eW,J eH,J aa,J ab,.bool ae,J ad,J eC,J eo,J ea,J ep,.bool et,.sl (ek.map Zf.enc)]))] []=some ((.d (.bool ((Uq (Zl.mk eK eL (Box.mk eX eY eW eH) (Zc.mk (Pane.mk aa ab ae ad) eC) (Zf.mk eo ea ep et ek))).isSome))),[]):=by
 obtain⟨xs,aq⟩:∃ xs,xs=Znv (Zl.mk eK eL (Box.mk eX eY eW eH) (Zc.mk (Pane.mk aa ab ae ad) eC) (Zf.mk eo ea ep et ek)):=⟨_,rfl⟩
 have a1:xs.length=9:=by rw[aq];rfl
 refine cE ?_;simp +contextual -implicitDefEqProofs (maxSteps:=10^7) only[go_sem,seval,↓gZ,JI];have au:([J eL,J eX,J eY,J eW,J eH,J eC,J aa,J ab,J ad]:List D)=xs.map YI:=by rw[aq];rfl
 rw[au];refine LO (α:=Nat) (fun k=>[(4,.d (J (k:Int)))]) (fun _=>[]) (fun k=>k≤9∧∀ n∈xs.take k,six n) (fun k=>9-k) 0 (by simp) ?_;intro k ⟨hk,hp⟩ ih;by_cases av:k<xs.length
 ·obtain⟨x,hx⟩:=Zq av;have al : (k:Int)<9:=by omega
  have ah:k<9:=by omega
  have am:(k:Int)<(xs.length:Int):=by omega
  have az:=Zj (k:=k) (by omega);have e1:=Zv x 0 999999;by_cases hs:six x
  ·rw[Ki (show 0≤x∧x≤999999 from hs)] at e1;simp +contextual -implicitDefEqProofs (maxSteps:=10^7) only[go_sem,seval,↓gZ,al,av,ah,am,hx,az,YI,e1];refine ih (k+1) _ ⟨by omega,?_⟩ (by omega) ?_
   ·intro n hn;rw[KP,hx] at hn;rcases Kg.1 hn with hn | hn
    ·exact hp n hn
    ·simp only[LQ,KA] at hn;rw[hn];exact hs
   ·simp +contextual -implicitDefEqProofs (maxSteps:=10^7) only[go_sem,seval,↓gZ]
  ·rw[Kj (show ¬(0≤x∧x≤999999) from hs)] at e1;have ag:Uq (Zl.mk eK eL (Box.mk eX eY eW eH) (Zc.mk (Pane.mk aa ab ae ad) eC) (Zf.mk eo ea ep et ek))=none:=Zzn fun h=>hs (h x (by rw[← aq];exact Kc hx));rw[ag];simp +contextual -implicitDefEqProofs (maxSteps:=10^7) only[go_sem,seval,↓gZ,al,av,ah,am,hx,az,YI,e1,KC]
 ·have a2:k=9:=by omega
  subst a2;have aw:∀ n∈Znv (Zl.mk eK eL (Box.mk eX eY eW eH) (Zc.mk (Pane.mk aa ab ae ad) eC) (Zf.mk eo ea ep et ek)),six n:=by
   intro n hn;rw[← aq] at hn;refine hp n ?_;rw[KH (by omega)];exact hn
  have af:¬(9:Int)<(xs.length:Int):=by omega
  have e1:=Zv eK 0 5;have e2:=Zkc (.mk eo ea ep et ek);rw[Zf.enc_mk] at e2;by_cases an:eK=0∧¬(eX=0∧eY=0)
  ·obtain⟨k0,a0⟩:=an;have ag:Uq (Zl.mk eK eL (Box.mk eX eY eW eH) (Zc.mk (Pane.mk aa ab ae ad) eC) (Zf.mk eo ea ep et ek))=none:=Zox fun b=>by unfold Zb7;rw[Kh k0,Kd a0]
   rw[ag];subst k0;by_cases hX:eX=0
   ·have hY:¬eY=0:=fun h=>a0 ⟨hX,h⟩;simp +contextual -implicitDefEqProofs (maxSteps:=10^7) only[go_sem,seval,↓gZ,af,hX,hY,KC]
   ·simp +contextual -implicitDefEqProofs (maxSteps:=10^7) only[go_sem,seval,↓gZ,af,hX,KC]
  have aj:eK=0→eX=0∧eY=0:=fun h=>Classical.byContradiction fun h'=>an ⟨h,h'⟩;have a3:∀ R:Prop,R→R:=fun _ h=>h;by_cases ak:0≤eK∧eK≤5
  ·rw[Ki ak] at e1;have ao:=Zzo (e:=(Zl.mk eK eL (Box.mk eX eY eW eH) (Zc.mk (Pane.mk aa ab ae ad) eC) (Zf.mk eo ea ep et ek))) aw ak;cases hT:QU (.mk eo ea ep et ek) with
   | none=>
    rw[hT,show Zx 255 none=-1 from rfl] at e2;have ag:Uq (Zl.mk eK eL (Box.mk eX eY eW eH) (Zc.mk (Pane.mk aa ab ae ad) eC) (Zf.mk eo ea ep et ek))=none:=Zc9 fun b hb=>by rw[show QU (Zl.plan (Zl.mk eK eL (Box.mk eX eY eW eH) (Zc.mk (Pane.mk aa ab ae ad) eC) (Zf.mk eo ea ep et ek)))=QU (.mk eo ea ep et ek) from rfl,hT] at hb;cases hb
    rw[ag];by_cases k0:eK=0
    ·obtain⟨hX,hY⟩:=aj k0;subst k0 hX hY;simp +contextual -implicitDefEqProofs (maxSteps:=10^7) only[go_sem,seval,↓gZ,af,e1,e2,KC]
    ·simp +contextual -implicitDefEqProofs (maxSteps:=10^7) only[go_sem,seval,↓gZ,af,k0,e1,e2,KC]
   | some b=>
    have ax:=UM hT;rw[hT] at e2;by_cases ai:Zqc b
    ·have hz:0<Zx 255 (some b):=by
      have:=b.cnt_pos;have:=ai.1;rcases Q9 255 b with ⟨_,h⟩ | ⟨h,_⟩
      ·rw[h];omega
      ·omega
     have e3:=Zac b;have e4:=U3 b ai.2.1 (by have:=ai.1;omega);rw[← ax,Zf.enc_mk] at e3 e4;rw[ai.2.1] at e3;have hl:=ai.2.2;have ap : ((shw b).length:Int)≤1600:=by omega
     have ay:(Uq (Zl.mk eK eL (Box.mk eX eY eW eH) (Zc.mk (Pane.mk aa ab ae ad) eC) (Zf.mk eo ea ep et ek))).isSome=true:=by
      rw[Zfc ao hT ai];exact Zvl ak aj
     rw[ay];by_cases k0:eK=0
     ·obtain⟨hX,hY⟩:=aj k0;subst k0 hX hY;simp +contextual -implicitDefEqProofs (maxSteps:=10^7) only[go_sem,seval,↓gZ,af,e1,e2,hz,e3,e4,ap]
     ·simp +contextual -implicitDefEqProofs (maxSteps:=10^7) only[go_sem,seval,↓gZ,af,k0,e1,e2,hz,e3,e4,ap]
    ·have ag:Uq (Zl.mk eK eL (Box.mk eX eY eW eH) (Zc.mk (Pane.mk aa ab ae ad) eC) (Zf.mk eo ea ep et ek))=none:=Zc9 fun b' hb=>by
      rw[show QU (Zl.plan (Zl.mk eK eL (Box.mk eX eY eW eH) (Zc.mk (Pane.mk aa ab ae ad) eC) (Zf.mk eo ea ep et ek)))=QU (.mk eo ea ep et ek) from rfl,hT] at hb;cases hb;exact ai
     rw[ag];have e3:=Zac b;rw[← ax,Zf.enc_mk] at e3;rcases Q9 255 b with ⟨hc,hz⟩ | ⟨hc,hz⟩
     ·rw[hz] at e2;have ar : (0:Int)<b.cnt:=by have:=b.cnt_pos;omega
      cases hcb:VZ b with
      | false=>
       rw[hcb] at e3;by_cases k0:eK=0
       ·obtain⟨hX,hY⟩:=aj k0;subst k0 hX hY;simp +contextual -implicitDefEqProofs (maxSteps:=10^7) only[go_sem,seval,↓gZ,af,e1,e2,ar,e3,KC]
       ·simp +contextual -implicitDefEqProofs (maxSteps:=10^7) only[go_sem,seval,↓gZ,af,k0,e1,e2,ar,e3,KC]
      | true=>
       rw[hcb] at e3;have e4:=U3 b hcb (by omega);rw[← ax,Zf.enc_mk] at e4;have ap : ¬((shw b).length:Int)≤1600:=fun h=>ai ⟨by omega,hcb,by omega⟩;by_cases k0:eK=0
       ·obtain⟨hX,hY⟩:=aj k0;subst k0 hX hY;simp +contextual -implicitDefEqProofs (maxSteps:=10^7) only[go_sem,seval,↓gZ,af,e1,e2,ar,e3,e4,ap,KC]
       ·simp +contextual -implicitDefEqProofs (maxSteps:=10^7) only[go_sem,seval,↓gZ,af,k0,e1,e2,ar,e3,e4,ap,KC]
     ·rw[hz] at e2;by_cases k0:eK=0
      ·obtain⟨hX,hY⟩:=aj k0;subst k0 hX hY;simp +contextual -implicitDefEqProofs (maxSteps:=10^7) only[go_sem,seval,↓gZ,af,e1,e2,KC]
      ·simp +contextual -implicitDefEqProofs (maxSteps:=10^7) only[go_sem,seval,↓gZ,af,k0,e1,e2,KC]
  ·rw[Kj ak] at e1;have ag:Uq (Zl.mk eK eL (Box.mk eX eY eW eH) (Zc.mk (Pane.mk aa ab ae ad) eC) (Zf.mk eo ea ep et ek))=none:=Zox fun b=>Zvm ak;rw[ag];have k0:¬eK=0:=fun h=>ak ⟨by omega,by omega⟩;simp +contextual -implicitDefEqProofs (maxSteps:=10^7) only[go_sem,seval,↓gZ,af,k0,e1,KC]
theorem Zh4 (n:Int) (h:six n):Ze Xs Ms Z0 [(.d (J n))] []=some (.d (.str (num n.toNat)),[]):=by
 have e:=W0 n.toNat (by have:=h.2;have:=h.1;omega);rw[Ld h.1] at e;exact e
theorem Zqf (eK eL eX eY eW eH aa ab:Int) (ad:Bool) (ae eC eo ea ep:Int) (et:Bool) (ek:List Zf) (v:Ev) (hv:Uq (Zl.mk eK eL (Box.mk eX eY eW eH) (Zc.mk (Pane.mk aa ab ad ae) eC) (Zf.mk eo ea ep et ek))=some v):Ze Xs Ms U7 [(.d (.agg [J eK,J eL,J eX,J eY,J eW,J eH,J aa,J ab,.bool ad,J ae,J eC,J eo,J ea,J ep,.bool et,.sl (ek.map Zf.enc)]))] []=some (.d (.str v.text),[]):=by
 have af:∀ n∈UU (Zl.mk eK eL (Box.mk eX eY eW eH) (Zc.mk (Pane.mk aa ab ad ae) eC) (Zf.mk eo ea ep et ek)),six n:=Classical.byContradiction fun h=>by rw[Zh3 h] at hv;cases hv
 obtain⟨b,hb,ah⟩:∃ b,QU (.mk eo ea ep et ek)=some b∧Zqc b:=Classical.byContradiction fun h=>by
  rw[Zc9 (e:=(Zl.mk eK eL (Box.mk eX eY eW eH) (Zc.mk (Pane.mk aa ab ad ae) eC) (Zf.mk eo ea ep et ek))) fun b hb hp=>h ⟨b,hb,hp⟩] at hv;cases hv
 have am:=UM hb;rw[Zfc af hb ah] at hv;have e0:=Zpk;simp only[UU,Ke,Ku,or_false,forall_eq_or_imp,forall_eq] at af;obtain⟨n1,n2,n3,n4,n5,n6,n7,n8,n9,an⟩:=af;have ai:=Zh4 eL n2;have ao:=Zh4 eX n3;have ap:=Zh4 eY n4;have aj:=Zh4 eW n5;have ak:=Zh4 eH n6;have lL:=Zc8 eL n2;have lX:=Zc8 eX n3;have lY:=Zc8 eY n4;have lW:=Zc8 eW n5;have lH:=Zc8 eH n6;have al:Zp8 ⟨⟨aa,ab,ad,ae⟩,eC⟩:=⟨an,n7,n8,n9⟩
 have e4:=Zsm aa ab ad ae eC al;have aq:=Zd3 ⟨⟨aa,ab,ad,ae⟩,eC⟩ al;have e5:=U3 b ah.2.1 (by have:=ah.1;omega);rw[← am,Zf.enc_mk] at e5;have ar:=ah.2.2;have au:(Za7 ⟨⟨aa,ab,ad,ae⟩,eC⟩).length≤40:=aq;unfold Zb7 at hv;simp only at hv;by_cases k0:eK=0
 ·rw[Kh k0] at hv;split at hv
  ·cases hv;subst k0;have ht:Ev.text (.sheet eL.toNat eW.toNat eH.toNat)=YH++[32]++num eL.toNat++[32]++num eW.toNat++[32]++num eH.toNat:=by simp[Ev.text,Ev.words,Yb]
   rw[ht];generalize num eL.toNat=a at *;generalize num eW.toNat=c at *;generalize num eH.toNat=d at *;have ag:YH.length=5:=rfl;have b0:YH.length+1≤1152921504606846976:=by omega
   have b1:YH.length+1+a.length≤1152921504606846976:=by omega
   have b2:YH.length+1+a.length+1≤1152921504606846976:=by omega
   have b3:YH.length+1+a.length+1+c.length≤1152921504606846976:=by omega
   have b4:YH.length+1+a.length+1+c.length+1≤1152921504606846976:=by omega
   have b5:YH.length+1+a.length+1+c.length+1+d.length≤1152921504606846976:=by omega
   refine cE ?_;simp +contextual -implicitDefEqProofs (maxSteps:=10^7) only[go_sem,seval,↓gZ,Ym,e0,ai,aj,ak,b0,b1,b2,b3,b4,b5]
  ·cases hv
 rw[Kd k0] at hv;by_cases k1:eK=1
 ·rw[Kh k1] at hv;cases hv;subst k1;have ht:Ev.text (.flaw eL.toNat eX.toNat eY.toNat eW.toNat eH.toNat)=Vo++[32]++num eL.toNat++[32]++num eX.toNat++[32]++num eY.toNat++[32]++num eW.toNat++[32]++num eH.toNat:=by simp[Ev.text,Ev.words,Yb]
  rw[ht];generalize num eL.toNat=a at *;generalize num eX.toNat=x at *;generalize num eY.toNat=y at *;generalize num eW.toNat=c at *;generalize num eH.toNat=d at *;have ag:Vo.length=4:=rfl;have b0:Vo.length+1≤1152921504606846976:=by omega
  have b1:Vo.length+1+a.length≤1152921504606846976:=by omega
  have b2:Vo.length+1+a.length+1≤1152921504606846976:=by omega
  have b3:Vo.length+1+a.length+1+x.length≤1152921504606846976:=by omega
  have b4:Vo.length+1+a.length+1+x.length+1≤1152921504606846976:=by omega
  have b5:Vo.length+1+a.length+1+x.length+1+y.length≤1152921504606846976:=by omega
  have b6:Vo.length+1+a.length+1+x.length+1+y.length+1≤1152921504606846976:=by omega
  have b7:Vo.length+1+a.length+1+x.length+1+y.length+1+c.length≤1152921504606846976:=by omega
  have b8:Vo.length+1+a.length+1+x.length+1+y.length+1+c.length+1≤1152921504606846976:=by omega
  have b9:Vo.length+1+a.length+1+x.length+1+y.length+1+c.length+1+d.length≤1152921504606846976:=by omega
  refine cE ?_;simp +contextual -implicitDefEqProofs (maxSteps:=10^7) only[go_sem,seval,↓gZ,Ym,e0,ai,ao,ap,aj,ak,b0,b1,b2,b3,b4,b5,b6,b7,b8,b9]
 rw[Kd k1] at hv;by_cases k2:eK=2
 ·rw[Kh k2] at hv;cases hv;subst k2;have ht:Ev.text (.order ⟨⟨aa,ab,ad,ae⟩,eC⟩)=VX++[32]++Za7 ⟨⟨aa,ab,ad,ae⟩,eC⟩:=rfl;rw[ht];generalize Za7 ⟨⟨aa,ab,ad,ae⟩,eC⟩=a at *;have ag:VX.length=5:=rfl;have b0:VX.length+1≤1152921504606846976:=by omega
  have b1:VX.length+1+a.length≤1152921504606846976:=by omega
  refine cE ?_;simp +contextual -implicitDefEqProofs (maxSteps:=10^7) only[go_sem,seval,↓gZ,Ym,e0,e4,b0,b1]
 rw[Kd k2] at hv;by_cases k3:eK=3
 ·rw[Kh k3] at hv;cases hv;subst k3;have ht:Ev.text (.cut eL.toNat b)=Zev++[32]++num eL.toNat++[32]++shw b:=by simp[Ev.text,Ev.words,Yb]
  rw[ht];generalize num eL.toNat=a at *;generalize shw b=c at *;have ag:Zev.length=3:=rfl;have b0:Zev.length+1≤1152921504606846976:=by omega
  have b1:Zev.length+1+a.length≤1152921504606846976:=by omega
  have b2:Zev.length+1+a.length+1≤1152921504606846976:=by omega
  have b3:Zev.length+1+a.length+1+c.length≤1152921504606846976:=by omega
  refine cE ?_;simp +contextual -implicitDefEqProofs (maxSteps:=10^7) only[go_sem,seval,↓gZ,Ym,e0,ai,e5,b0,b1,b2,b3]
 rw[Kd k3] at hv;by_cases k4:eK=4
 ·rw[Kh k4] at hv;cases hv;subst k4;have ht:Ev.text (.brk ⟨⟨aa,ab,ad,ae⟩,eC⟩)=VY++[32]++Za7 ⟨⟨aa,ab,ad,ae⟩,eC⟩:=rfl;rw[ht];generalize Za7 ⟨⟨aa,ab,ad,ae⟩,eC⟩=a at *;have ag:VY.length=5:=rfl;have b0:VY.length+1≤1152921504606846976:=by omega
  have b1:VY.length+1+a.length≤1152921504606846976:=by omega
  refine cE ?_;simp +contextual -implicitDefEqProofs (maxSteps:=10^7) only[go_sem,seval,↓gZ,Ym,e0,e4,b0,b1]
 rw[Kd k4] at hv;by_cases k5:eK=5
 ·rw[Kh k5] at hv;cases hv;subst k5;have ht:Ev.text (.scrap eL.toNat)=WI++[32]++num eL.toNat:=rfl;rw[ht];generalize num eL.toNat=a at *;have ag:WI.length=5:=rfl;have b0:WI.length+1≤1152921504606846976:=by omega
  have b1:WI.length+1+a.length≤1152921504606846976:=by omega
  refine cE ?_;simp +contextual -implicitDefEqProofs (maxSteps:=10^7) only[go_sem,seval,↓gZ,Ym,e0,ai,b0,b1]
 ·rw[Kd k5] at hv;cases hv
def evZ:Zl:=⟨0,0,bx0,ln0,BT.waste.plan⟩
def evM (m:Option Ev):Zl:=match m with
 | some v=>v.ev
 | none=>evZ
def PeR (res:Option (AV×List Zm)) (m:Option Ev):Prop:=∃ (K L X Y W H pW pH:Int) (pT:Bool) (pK C o a q:Int) (t:Bool) (ks:List Zf),
 res=some (.tup [.agg [(.d (J K)),(.d (J L)),(.d (J X)),(.d (J Y)),(.d (J W)),(.d (J H)),(.d (J pW)),(.d (J pH)),(.d (.bool pT)),(.d (J pK)),(.d (J C)),(.d (J o)),(.d (J a)),(.d (J q)),(.d (.bool t)),.own 0],(.d (.bool (m.isSome)))],[.row 5 (ks.map Zf.enc) true false]) ∧
 Zl.mk K L ⟨X,Y,W,H⟩ ⟨⟨pW,pH,pT,pK⟩,C⟩ (.mk o a q t ks)=evM m
theorem Zlf {res:Option (AV×List Zm)} (h:res=some (.tup [.agg [(.d (J 0)),(.d (J 0)),(.d (J 0)),(.d (J 0)),(.d (J 0)),(.d (J 0)),(.d (J 0)),(.d (J 0)),(.d (.bool false)),(.d (J 0)),(.d (J 0)),(.d (J 0)),(.d (J 0)),(.d (J 0)),(.d (.bool false)),.own 0],(.d (.bool false))],[.row 5 [] true false])):PeR res none:=
 ⟨0,0,0,0,0,0,0,0,false,0,0,0,0,0,false,[],h,rfl⟩
def rcM (s:List UInt8):Option Ev:=match QI 32 s with
 | none=>none
 | some i=>(rd (s.take i)).bind fun l=>(Zuv (s.drop (i+1))).bind fun b=>some (.cut l b)
theorem ZAA:Zuv []=none:=rfl
theorem Zuh (s:List UInt8) (hs:s.length≤1000000):PeR (Ze Xs Ms ZbO [.d (.str s)] []) (rcM s):=by
 have e1:=Zc7 s 32 hs;unfold rcM;cases hi:QI 32 s with
 | none=>
  rw[hi] at e1;simp only at e1 ⊢;have e2:=Jx s;obtain⟨o,a,q,t,ks,e3,h3⟩:=Zil [] (by simp);rw[ZAA] at e3;simp only[KC] at e3;refine Zlf ?_;cases hr:rd s with
  | none=>
   rw[hr] at e2;simp only[Zgi] at e2;refine cE ?_;simp +contextual -implicitDefEqProofs (maxSteps:=10^7) only[go_sem,seval,↓gZ,Ue,e1,e2,e3]
  | some v=>
   rw[hr] at e2;simp only[Zgi] at e2;refine cE ?_;simp +contextual -implicitDefEqProofs (maxSteps:=10^7) only[go_sem,seval,↓gZ,Ue,e1,e2,e3]
 | some i=>
  rw[hi] at e1;simp only at e1 ⊢;have e2:=Jx (s.take i);obtain⟨o,a,q,t,ks,e3,h3⟩:=Zil (s.drop (i+1)) (by simp;omega);cases hr:rd (s.take i) with
  | none=>
   rw[hr] at e2;simp only[Zgi] at e2;refine Zlf ?_;refine cE ?_;simp +contextual -implicitDefEqProofs (maxSteps:=10^7) only[go_sem,seval,↓gZ,Ue,e1,e2,e3]
  | some v=>
   rw[hr] at e2;simp only[Zgi] at e2;cases hp:Zuv (s.drop (i+1)) with
   | none=>
    rw[hp] at e3;simp only[KC] at e3;refine Zlf ?_;refine cE ?_;simp +contextual -implicitDefEqProofs (maxSteps:=10^7) only[go_sem,seval,↓gZ,Ue,e1,e2,e3]
   | some b=>
    rw[hp] at e3 h3;simp only[Lx] at e3;refine⟨3,v,0,0,0,0,0,0,false,0,0,o,a,q,t,ks,?_,?_⟩
    ·refine cE ?_;simp +contextual -implicitDefEqProofs (maxSteps:=10^7) only[go_sem,seval,↓gZ,Ue,e1,e2,e3]
     all_goals rfl
    ·rw[h3];rfl
theorem Zl1 (w:List UInt8) (vs:List Nat) (hl:vs.length≤2000000):PeR (Ze Xs Ms Vv [.d (.str w),.d (.sl ((vs.map fun n:Nat=>(n:Int)).map YI))] []) (Zf7 w vs):=by
 by_cases h3:w=YH∧vs.length=3
 ·obtain⟨rfl,h⟩:=h3;obtain⟨a,b,c,rfl⟩:∃ a b c,vs=[a,b,c]:=by
   match vs,h with
   | [a,b,c],_=>exact⟨a,b,c,rfl⟩
  refine⟨0,a,0,0,b,c,0,0,false,0,0,0,0,0,false,[],?_,rfl⟩;simp only[Kk,Kw,YI,YH];refine cE ?_;simp +contextual -implicitDefEqProofs (maxSteps:=10^7) only[go_sem,seval,↓gZ,QK]
  all_goals rfl
 by_cases h5:w=Vo∧vs.length=5
 ·obtain⟨rfl,h⟩:=h5;obtain⟨a,b,c,d,f,rfl⟩:∃ a b c d f,vs=[a,b,c,d,f]:=by
   match vs,h with
   | [a,b,c,d,f],_=>exact⟨a,b,c,d,f,rfl⟩
  refine⟨1,a,b,c,d,f,0,0,false,0,0,0,0,0,false,[],?_,rfl⟩;have q1:(Vo==[115,104,101,101,116])=false:=rfl;have q2:(Vo==[102,108,97,119])=true:=rfl;simp only[Kk,Kw,YI];refine cE ?_;simp +contextual -implicitDefEqProofs (maxSteps:=10^7) only[go_sem,seval,↓gZ,QK,q1,q2]
  all_goals rfl
 by_cases h1:w=WI∧vs.length=1
 ·obtain⟨rfl,h⟩:=h1;obtain⟨a,rfl⟩:∃ a,vs=[a]:=by
   match vs,h with
   | [a],_=>exact⟨a,rfl⟩
  refine⟨5,a,0,0,0,0,0,0,false,0,0,0,0,0,false,[],?_,rfl⟩;have q1:(WI==[115,104,101,101,116])=false:=rfl;have q2:(WI==[102,108,97,119])=false:=rfl;have q3:(WI==[115,99,114,97,112])=true:=rfl;simp only[Kk,Kw,YI];refine cE ?_;simp +contextual -implicitDefEqProofs (maxSteps:=10^7) only[go_sem,seval,↓gZ,QK,q1,q2,q3]
  all_goals rfl
 ·have aa:Zf7 w vs=none:=by
   unfold Zf7;split
   ·rw[Kd (fun e=>h1 ⟨e,rfl⟩)]
   ·rw[Kd (fun e=>h3 ⟨e,rfl⟩)]
   ·rw[Kd (fun e=>h5 ⟨e,rfl⟩)]
   ·rfl
  rw[aa];refine Zlf ?_;have p1:(w==[115,104,101,101,116])=true→¬(vs.length:Int)=3:=fun h e=>h3 ⟨by simpa [YH] using h,by omega⟩;have p2:(w==[102,108,97,119])=true→¬(vs.length:Int)=5:=fun h e=>h5 ⟨by simpa [Vo] using h,by omega⟩;have p3:(w==[115,99,114,97,112])=true→¬(vs.length:Int)=1:=fun h e=>h1 ⟨by simpa [WI] using h,by omega⟩;cases q1:(w==[115,104,101,101,116]) with
  | true=>
   have e:w=YH:=by simpa [YH] using q1
   have q2:(w==[102,108,97,119])=false:=by rw[e];rfl
   have q3:(w==[115,99,114,97,112])=false:=by rw[e];rfl
   have p1:=p1 q1;refine cE ?_;simp +contextual -implicitDefEqProofs (maxSteps:=10^7) only[go_sem,seval,↓gZ,QK,q1,q2,q3,p1,KR]
  | false=>
   cases q2:(w==[102,108,97,119]) with
   | true=>
    have e:w=Vo:=by simpa [Vo] using q2
    have q3:(w==[115,99,114,97,112])=false:=by rw[e];rfl
    have p2:=p2 q2;refine cE ?_;simp +contextual -implicitDefEqProofs (maxSteps:=10^7) only[go_sem,seval,↓gZ,QK,q1,q2,q3,p2,KR]
   | false=>
    cases q3:(w==[115,99,114,97,112]) with
    | true=>
     have p3:=p3 q3;refine cE ?_;simp +contextual -implicitDefEqProofs (maxSteps:=10^7) only[go_sem,seval,↓gZ,QK,q1,q2,q3,p3,KR]
    | false=>
     refine cE ?_;simp +contextual -implicitDefEqProofs (maxSteps:=10^7) only[go_sem,seval,↓gZ,QK,q1,q2,q3]
theorem Zqg:∀ ws:List (List UInt8),Zcq ws=(Zb6 ws).map fun ns=>ns.map fun n:Nat=>(n:Int)
 | []=>rfl
 | w :: r=>by
  simp only[Zcq,Zb6,Zqg r];cases rd w with
  | none=>rfl
  | some v=>cases Zb6 r<;>rfl
theorem Zvn (s:List UInt8):Zyy (Z8 32 s)=rcM s:=by
 rw[Zc0];unfold rcM;cases hi:QI 32 s with
 | none=>rfl
 | some i=>
  simp only;rw[Zc0 32 (s.drop (i+1))];cases hj:QI 32 (s.drop (i+1)) with
  | none=>rfl
  | some j=>
   simp only;have aa:Zuv (s.drop (i+1))=none:=by
    cases hp:Zuv (s.drop (i+1)) with
    | none=>rfl
    | some b=>
     obtain⟨_,h2,_⟩:=Zzk.1 hp;obtain⟨h3,_⟩:=ZbL hj;have h4:(32:UInt8)∉shw b:=Zqd rfl (by decide) b;rw[← h2] at h4;exact absurd (by rw[h3];simp) h4
   rw[aa];have ab:=ZcZ 32 ((s.drop (i+1)).drop (j+1));cases hs:Z8 32 ((s.drop (i+1)).drop (j+1)) with
   | nil=>exact absurd hs ab
   | cons x r=>cases rd (s.take i)<;>rfl
def Zqh (w rest:List UInt8):Option Ev:=if w=VX then (ZhW (Z8 32 rest)).bind fun n=>some (.order n)
 else if w=VY then (ZhW (Z8 32 rest)).bind fun n=>some (.brk n)
 else if w=Zev then rcM rest else (Zb6 (Z8 32 rest)).bind (Zf7 w)
theorem ZAB (s:List UInt8):Zso s=match QI 32 s with
  | none=>Zqh s []
  | some i=>Zqh (s.take i) (s.drop (i+1)):=by
 unfold Zso Zqh;rw[Zc0];cases hi:QI 32 s with
 | none=>
  simp only[Uo];by_cases h1:s=VX
  ·rw[Kh h1,Kh h1];rfl
  rw[Kd h1,Kd h1];by_cases h2:s=VY
  ·rw[Kh h2,Kh h2];rfl
  rw[Kd h2,Kd h2];by_cases h3:s=Zev
  ·rw[Kh h3,Kh h3];rfl
  rw[Kd h3,Kd h3];rfl
 | some i=>
  simp only[Uo,Zvn]
theorem Zpl (s:List UInt8) (hs:s.length≤1000000):PeR (Ze Xs Ms Vs [.d (.str s)] []) (Zso s):=by
 have e1:=Zc7 s 32 hs;have ab:∀ (w aa:List UInt8) (f:Bool),aa.length≤s.length→Ze Xs Ms Yh [.d (.str s),.d (.str [32])] []=some (.tup [.d (.str w),.d (.str aa),(.d (.bool f))],[])→PeR (Ze Xs Ms Vs [.d (.str s)] []) (Zqh w aa):=by
  intro w aa f hr e1;have e2:=Zsk aa (by omega);unfold Zqh;by_cases h1:w=VX∨w=VY
  ·rcases h1 with rfl | rfl
   ·rw[Kh rfl];have q1:(VX==[111,114,100,101,114])=true:=rfl;have q2:(VX==[98,114,101,97,107])=false:=rfl;cases hl:ZhW (Z8 32 aa) with
    | none=>
     rw[hl] at e2;simp only[rlV] at e2;refine Zlf ?_;refine cE ?_;simp +contextual -implicitDefEqProofs (maxSteps:=10^7) only[go_sem,seval,↓gZ,Xe,e1,q1,q2,e2]
    | some l=>
     obtain⟨⟨W,H,T,K⟩,C⟩:=l;rw[hl] at e2;simp only[rlV,Zc.enc] at e2;refine⟨2,0,0,0,0,0,W,H,T,K,C,0,0,0,false,[],?_,rfl⟩;refine cE ?_;simp +contextual -implicitDefEqProofs (maxSteps:=10^7) only[go_sem,seval,↓gZ,Xe,e1,q1,q2,e2]
     all_goals rfl
   ·rw[Kd (by decide),Kh rfl];have q1:(VY==[111,114,100,101,114])=false:=rfl;have q2:(VY==[98,114,101,97,107])=true:=rfl;cases hl:ZhW (Z8 32 aa) with
    | none=>
     rw[hl] at e2;simp only[rlV] at e2;refine Zlf ?_;refine cE ?_;simp +contextual -implicitDefEqProofs (maxSteps:=10^7) only[go_sem,seval,↓gZ,Xe,e1,q1,q2,e2]
    | some l=>
     obtain⟨⟨W,H,T,K⟩,C⟩:=l;rw[hl] at e2;simp only[rlV,Zc.enc] at e2;refine⟨4,0,0,0,0,0,W,H,T,K,C,0,0,0,false,[],?_,rfl⟩;refine cE ?_;simp +contextual -implicitDefEqProofs (maxSteps:=10^7) only[go_sem,seval,↓gZ,Xe,e1,q1,q2,e2]
     all_goals rfl
  have n1:¬w=VX:=fun h=>h1 (.inl h);have n2:¬w=VY:=fun h=>h1 (.inr h);have q1:(w==[111,114,100,101,114])=false:=by simpa [VX] using n1
  have q2:(w==[98,114,101,97,107])=false:=by simpa [VY] using n2
  rw[Kd n1,Kd n2];by_cases h3:w=Zev
  ·rw[Kh h3];have q3:(w==[99,117,116])=true:=by rw[h3];rfl
   obtain⟨K,L,X,Y,W,H,pW,pH,pT,pK,C,o,a,q,t,ks,e3,h⟩:=Zuh aa (by omega);refine⟨K,L,X,Y,W,H,pW,pH,pT,pK,C,o,a,q,t,ks,?_,h⟩;refine cE ?_;simp +contextual -implicitDefEqProofs (maxSteps:=10^7) only[go_sem,seval,↓gZ,Xe,e1,q1,q2,q3,e3]
  ·rw[Kd h3];have q3:(w==[99,117,116])=false:=by simpa [Zev] using h3
   have e3:=Zfa aa 32 (by omega);have hc:(Z8 32 aa).length≤1000001:=by rw[Znp];have:aa.count 32≤aa.length:=List.count_le_length;omega
   generalize Z8 32 aa=ws at e3 hc;have e4:=Zfb ws (by omega);have ad:List.take ws.length (List.map D.str ws)=List.map D.str ws:=KH (by simp);rw[Zqg] at e4;cases hn:Zb6 ws with
   | none=>
    rw[hn] at e4;simp only[Option.map_none,rnV] at e4;refine Zlf ?_;refine cE ?_;simp +contextual -implicitDefEqProofs (maxSteps:=10^7) only[go_sem,seval,↓gZ,Xe,e1,q1,q2,q3,e3,e4,ad,Kaa]
   | some ns=>
    rw[hn] at e4;simp only[KJ,rnV] at e4;have ae:ns.length≤1000001:=by
     have:=(Zh2 hn).1;rw[this,KR] at hc;exact hc
    simp only[KI];obtain⟨K,L,X,Y,W,H,pW,pH,pT,pK,C,o,a,q,t,ks,e5,h⟩:=Zl1 w ns (by omega);refine⟨K,L,X,Y,W,H,pW,pH,pT,pK,C,o,a,q,t,ks,?_,h⟩;refine cE ?_;simp +contextual -implicitDefEqProofs (maxSteps:=10^7) only[go_sem,seval,↓gZ,Xe,e1,q1,q2,q3,e3,e4,ad,Kaa,e5]
 rw[ZAB];cases hi:QI 32 s with
 | none=>
  rw[hi] at e1;exact ab _ _ _ (by simp) e1
 | some i=>
  rw[hi] at e1;exact ab _ _ _ (by simp) e1
end Go.Proofs.YtcefneehgbiebaaGreatDoor
