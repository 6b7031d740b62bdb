/- Own text. -/
import Derived.Test.YtcefneehgbiebaaGreatDoorDCode
import Derived.Test.YtcefneehgbiebaaGreatDoorAbsParts
import Derived.Test.YtcefneehgbiebaaGreatDoorDC5
import Derived.Test.YtcefneehgbiebaaGreatDoorDC10
namespace Go.Proofs.YtcefneehgbiebaaGreatDoor
open Go Go.Abs Go.Abs.E Go.Abs.L
open Nat (reduceMul reduceSub reduceLeDiff reduceEqDiff)
open Int (reduceLE reduceEq reduceToNat reduceNeg)
set_option linter.unusedSimpArgs false
set_option linter.unusedVariables false
set_option maxRecDepth 20000
set_option maxHeartbeats 4000000
def YD:List UInt8:=[115,104,101,101,116]
def Vp:List UInt8:=[102,108,97,119]
def VV:List UInt8:=[111,114,100,101,114]
def Zeu:List UInt8:=[99,117,116]
def VX:List UInt8:=[98,114,101,97,107]
def WD:List UInt8:=[115,99,114,97,112]
inductive Ev where
 | sheet (l w h:Nat)
 | flaw (l x y w h:Nat)
 | order (n:Zc)
 | cut (l:Nat) (b:BT)
 | brk (n:Zc)
 | scrap (l:Nat)
deriving DecidableEq
def bx0:Box:=⟨0,0,0,0⟩
def ln0:Zc:=⟨⟨0,0,false,0⟩,0⟩
def Ev.ev:Ev→Zl
 | .sheet l w h=>⟨0,l,⟨0,0,w,h⟩,ln0,BT.waste.plan⟩
 | .flaw l x y w h=>⟨1,l,⟨x,y,w,h⟩,ln0,BT.waste.plan⟩
 | .order n=>⟨2,0,bx0,n,BT.waste.plan⟩
 | .cut l b=>⟨3,l,bx0,ln0,b.plan⟩
 | .brk n=>⟨4,0,bx0,n,BT.waste.plan⟩
 | .scrap l=>⟨5,l,bx0,ln0,BT.waste.plan⟩
def Ev.words:Ev→List (List UInt8)
 | .sheet l w h=>[YD,num l,num w,num h]
 | .flaw l x y w h=>[Vp,num l,num x,num y,num w,num h]
 | .order n=>VV :: Xt n
 | .cut l b=>[Zeu,num l,shw b]
 | .brk n=>VX :: Xt n
 | .scrap l=>[WD,num l]
def Ev.text (v:Ev):List UInt8:=Yb 32 v.words
def ZpN (b:BT):Prop:=b.cnt≤255∧VY b=true∧(shw b).length≤1600
instance (b:BT):Decidable (ZpN b):=by unfold ZpN;infer_instance
def Ev.ok:Ev→Prop
 | .sheet l w h=>l≤999999∧w≤999999∧h≤999999
 | .flaw l x y w h=>l≤999999∧x≤999999∧y≤999999∧w≤999999∧h≤999999
 | .order n=>ZpJ n
 | .cut l b=>l≤999999∧ZpN b
 | .brk n=>ZpJ n
 | .scrap l=>l≤999999
def Zuu (s:List UInt8):Option BT:=if s.length≤1600 then Zl9 s else none
theorem ZkB {s:List UInt8} {b:BT}:Zuu s=some b↔s=shw b∧ZpN b:=by
 unfold Zuu;constructor
 ·intro h;split at h
  ·rename_i hl;obtain⟨h1,h2,h3⟩:=ZhK.1 h;exact⟨h1,h2,h3,h1 ▸ hl⟩
  ·cases h
 ·rintro ⟨rfl,h1,h2,h3⟩
  rw[Kh h3];exact ZAu h1 h2
def Zcb:List (List UInt8)→Option (List Nat)
 | []=>some []
 | w :: r=>(rd w).bind fun n=>(Zcb r).bind fun l=>some (n :: l)
theorem Zhu:∀ {ws:List (List UInt8)} {ns:List Nat},Zcb ws=some ns→ws=ns.map num∧∀ n∈ns,n≤999999
 | [],ns,h=>by simp[Zcb] at h;subst h;simp
 | w :: r,ns,h=>by
  simp only[Zcb,KV] at h;obtain⟨n,h1,l,h2,h3⟩:=h;cases h3;obtain⟨e1,b1⟩:=Zd9 h1;obtain⟨e2,b2⟩:=Zhu h2;refine⟨by rw[e1,e2];rfl,fun x hx=>?_⟩;rcases Kd.1 hx with rfl | hx
  ·exact b1
  ·exact b2 x hx
theorem Zf7:∀ {ns:List Nat},(∀ n∈ns,n≤999999)→Zcb (ns.map num)=some ns
 | [],_=>rfl
 | n :: r,h=>by
  have ih:=Zf7 (ns:=r) (fun x hx=>h x (KA _ hx));simp only[Kj,Zcb,ZhH (h n (K5 ..)),KM,ih]
def Zf8 (w:List UInt8):List Nat→Option Ev
 | [l]=>if w=WD then some (.scrap l) else none
 | [l,a,b]=>if w=YD then some (.sheet l a b) else none
 | [l,x,y,a,b]=>if w=Vp then some (.flaw l x y a b) else none
 | _=>none
def Zy3:List (List UInt8)→Option Ev
 | [a,p]=>(rd a).bind fun l=>(Zuu p).bind fun b=>some (.cut l b)
 | _=>none
def Un:List (List UInt8)→Option Ev
 | []=>none
 | w :: r=>if w=VV then (ZgP r).bind fun n=>some (.order n) else if w=VX then (ZgP r).bind fun n=>some (.brk n) else if w=Zeu then Zy3 r else (Zcb r).bind (Zf8 w)
theorem Zuv {ws:List (List UInt8)} {v:Ev} (h:Un ws=some v):ws=v.words∧v.ok:=by
 cases ws with
 | nil=>simp[Un] at h
 | cons w r=>
  simp only[Un] at h;split at h
  ·rename_i hw;simp only[KV] at h;obtain⟨n,h1,h2⟩:=h;cases h2;obtain⟨e,s⟩:=Zth h1;exact⟨by rw[hw,e];rfl,s⟩
  ·split at h
   ·rename_i hw;simp only[KV] at h;obtain⟨n,h1,h2⟩:=h;cases h2;obtain⟨e,s⟩:=Zth h1;exact⟨by rw[hw,e];rfl,s⟩
   ·split at h
    ·rename_i hw;unfold Zy3 at h;split at h
     ·simp only[KV] at h;obtain⟨n,h1,b,h2,h3⟩:=h;cases h3;obtain⟨e1,b1⟩:=Zd9 h1;obtain⟨e2,b2⟩:=ZkB.1 h2;exact⟨by rw[hw,e1,e2];rfl,b1,b2⟩
     ·cases h
    ·simp only[KV] at h;obtain⟨ns,h1,h2⟩:=h;obtain⟨e1,b1⟩:=Zhu h1;unfold Zf8 at h2;split at h2
     ·split at h2
      ·rename_i hw;cases h2;exact⟨by rw[hw,e1];rfl,b1 _ (by simp)⟩
      ·cases h2
     ·split at h2
      ·rename_i hw;cases h2;exact⟨by rw[hw,e1];rfl,b1 _ (by simp),b1 _ (by simp),b1 _ (by simp)⟩
      ·cases h2
     ·split at h2
      ·rename_i hw;cases h2;exact⟨by rw[hw,e1];rfl,b1 _ (by simp),b1 _ (by simp),b1 _ (by simp),b1 _ (by simp),b1 _ (by simp)⟩
      ·cases h2
     ·cases h2
theorem Zrl {v:Ev} (h:v.ok):Un v.words=some v:=by
 have d1:¬YD=VV:=by decide
 have d2:¬YD=VX:=by decide
 have d3:¬YD=Zeu:=by decide
 have d4:¬Vp=VV:=by decide
 have d5:¬Vp=VX:=by decide
 have d6:¬Vp=Zeu:=by decide
 have d7:¬WD=VV:=by decide
 have d8:¬WD=VX:=by decide
 have d9:¬WD=Zeu:=by decide
 have aa:¬Zeu=VV:=by decide
 have ab:¬Zeu=VX:=by decide
 have ad:¬VX=VV:=by decide
 cases v with
 | sheet l w h' =>
  obtain⟨h1,h2,h3⟩:=h;have e:=Zf7 (ns:=[l,w,h']) (by simp;omega);simp only[Kj,Kx] at e;simp only[Ev.words,Un,Ke d1,Ke d2,Ke d3,e,KM,Zf8,Km]
 | flaw l x y w h' =>
  obtain⟨h1,h2,h3,h4,h5⟩:=h;have e:=Zf7 (ns:=[l,x,y,w,h']) (by simp;omega);simp only[Kj,Kx] at e;simp only[Ev.words,Un,Ke d4,Ke d5,Ke d6,e,KM,Zf8,Km]
 | order n=>simp only[Ev.words,Un,Km,ZpL (l:=n) h,KM]
 | brk n=>simp only[Ev.words,Un,Ke ad,Km,ZpL (l:=n) h,KM]
 | cut l b=>
  obtain⟨h1,h2⟩:=h;simp only[Ev.words,Un,Ke aa,Ke ab,Km,Zy3,ZhH h1,ZkB.2 ⟨rfl,h2⟩,KM]
 | scrap l=>
  have h1:l≤999999:=h;have e:=Zf7 (ns:=[l]) (by simp;omega);simp only[Kj,Kx] at e;simp only[Ev.words,Un,Ke d7,Ke d8,Ke d9,e,KM,Zf8,Km]
theorem ZpO {c:UInt8} (hd:isD c=false) (h:c≠119∧c≠112∧c≠116∧c≠100∧c≠97∧c≠40∧c≠44∧c≠41):∀ b:BT,c∉shw b
 | .waste=>by simp[shw,h]
 | .pane i t=>by
  simp only[shw,Kd,not_or];exact⟨by cases t<;>simp[h],JD hd _⟩
 | .cut d a l r=>by
  simp only[shw,Kd,Kg,not_or,Ku,not_false_eq_true,and_true];exact⟨by cases d<;>simp[h],JD hd _,h.2.2.2.2.2.1,ZpO hd h l,h.2.2.2.2.2.2.1,ZpO hd h r,h.2.2.2.2.2.2.2⟩
theorem ZCP (v:Ev):∀ w∈v.words,(32:UInt8)∉w:=by
 intro w hw;cases v with
 | order n=>
  rcases Kd.1 hw with rfl | hw
  ·decide
  ·exact ZpK n w hw
 | brk n=>
  rcases Kd.1 hw with rfl | hw
  ·decide
  ·exact ZpK n w hw
 | cut l b=>
  simp only[Ev.words,Kd,Ku,or_false] at hw;rcases hw with rfl | rfl | rfl
  ·decide
  ·exact JD rfl _
  ·exact ZpO rfl (by decide) b
 | sheet l a b=>
  simp only[Ev.words,Kd,Ku,or_false] at hw;rcases hw with rfl | rfl | rfl | rfl<;>first | decide | exact JD rfl _
 | flaw l x y a b=>
  simp only[Ev.words,Kd,Ku,or_false] at hw;rcases hw with rfl | rfl | rfl | rfl | rfl | rfl<;>first | decide | exact JD rfl _
 | scrap l=>
  simp only[Ev.words,Kd,Ku,or_false] at hw;rcases hw with rfl | rfl<;>first | decide | exact JD rfl _
theorem ZCQ (v:Ev):(10:UInt8)∉v.text:=by
 refine Zwc (by decide) fun w hw=>?_;have ln:∀ n:Zc,∀ w∈Xt n,(10:UInt8)∉w:=by
  intro n w hw;simp only[Xt,Kd,Ku,or_false] at hw;rcases hw with rfl | rfl | rfl | rfl | rfl<;>first | exact JD rfl _ | exact Zx2 _
 cases v with
 | order n=>
  rcases Kd.1 hw with rfl | hw
  ·decide
  ·exact ln n w hw
 | brk n=>
  rcases Kd.1 hw with rfl | hw
  ·decide
  ·exact ln n w hw
 | cut l b=>
  simp only[Ev.words,Kd,Ku,or_false] at hw;rcases hw with rfl | rfl | rfl
  ·decide
  ·exact JD rfl _
  ·exact ZpO rfl (by decide) b
 | sheet l a b=>
  simp only[Ev.words,Kd,Ku,or_false] at hw;rcases hw with rfl | rfl | rfl | rfl<;>first | decide | exact JD rfl _
 | flaw l x y a b=>
  simp only[Ev.words,Kd,Ku,or_false] at hw;rcases hw with rfl | rfl | rfl | rfl | rfl | rfl<;>first | decide | exact JD rfl _
 | scrap l=>
  simp only[Ev.words,Kd,Ku,or_false] at hw;rcases hw with rfl | rfl<;>first | decide | exact JD rfl _
def Zrm (s:List UInt8):Option Ev:=Un (Z8 32 s)
theorem ZBA (v:Ev):v.words≠[]:=by cases v<;>simp[Ev.words]
theorem Ztk {s:List UInt8} {v:Ev}:Zrm s=some v↔s=v.text∧v.ok:=by
 unfold Zrm;constructor
 ·intro h;obtain⟨h1,h2⟩:=Zuv h;exact⟨by rw[Ev.text,← h1,Zqr],h2⟩
 ·rintro ⟨rfl,h⟩
  rw[Ev.text,Zqs (ZBA v) (ZCP v),Zrl h]
def Zix:Nat→Nat→List UInt8→List Ev
 | 0,_,_=>[]
 | n+1,k,s=>if 40≤k then [] else match QS 10 s with
  | none=>[]
  | some i=>match Zrm (s.take i) with
   | none=>[]
   | some v=>v :: Zix n (k+1) (s.drop (i+1))
def QV (l:List Ev):List UInt8:=UN Ev.text l
theorem Ztl:∀ {n k:Nat} {s:List UInt8},∃ r,s=QV (Zix n k s)++r∧(Zix n k s).length+k≤max k 40∧(∀ v∈Zix n k s,v.ok)
 | 0,k,s=>⟨s,by simp[Zix,QV,UN],by simp[Zix];omega,by simp[Zix]⟩
 | n+1,k,s=>by
  rw[Zix];split
  ·exact⟨s,by simp[QV,UN],by simp;omega,by simp⟩
  ·split
   ·exact⟨s,by simp[QV,UN],by simp;omega,by simp⟩
   ·rename_i i hi;split
    ·exact⟨s,by simp[QV,UN],by simp;omega,by simp⟩
    ·rename_i v hv;obtain⟨h1,h2,h3⟩:=Zaq hi;obtain⟨e1,e2⟩:=Ztk.1 hv;obtain⟨r,g1,g2,g3⟩:=Ztl (n:=n) (k:=k+1) (s:=s.drop (i+1));refine⟨r,?_,by simp only[Kp];omega,fun x hx=>?_⟩
     ·rw[QV,JN,← QV,KE,Kv,← g1,← e1];exact h1
     ·rcases Kd.1 hx with rfl | hx
      ·exact e2
      ·exact g3 x hx
theorem Ztm:∀ {n k:Nat} {l:List Ev} {s:List UInt8},l.length<n→l.length+k≤40→(∀ v∈l,v.ok)→Zix n k (QV l++s)=l++Zix (n-l.length) (k+l.length) s
 | n,k,[],s,_,_,_=>by simp[QV,UN]
 | 0,k,v :: l,s,hn,_,_=>by omega
 | n+1,k,v :: l,s,hn,hk,ho=>by
  simp only[Kp] at hn hk ⊢;have hi:QS 10 (QV (v :: l)++s)=some v.text.length:=by
   rw[QV,JN,KE,Kv];exact Zy0 (ZCQ v)
  have e1:(QV (v :: l)++s).take v.text.length=v.text:=by
   rw[QV,JN,KE,Kv];simp
  have e2:(QV (v :: l)++s).drop (v.text.length+1)=QV l++s:=by
   rw[QV,JN,KE,Kv,← List.drop_drop];simp[QV]
  have ih:=Ztm (n:=n) (k:=k+1) (l:=l) (s:=s) (by omega) (by omega) (fun x hx=>ho x (by simp[hx]));rw[Zix,Ke (by omega),hi];simp only;rw[e1,Ztk.2 ⟨rfl,ho v (by simp)⟩];simp only;rw[e2,ih,Kv];congr 2
  ·congr 1<;>omega
theorem ZlJ (c:UInt8) (m:Nat):∀ ws:List (List UInt8),(∀ w∈ws,w.length≤m)→(Yb c ws).length≤ws.length*(m+1)
 | [],_=>by simp[Yb]
 | [x],h=>by have:=h x (by simp);simp[Yb];omega
 | x :: y :: r,h=>by
  have ih:=ZlJ c m (y :: r) (fun w hw=>h w (by simp[hw]));have hx:=h x (by simp);simp only[Yb,Kr,Kp] at ih ⊢;rw[KH _ 1];omega
theorem Zdq (n:Int) (h:six n):(num n.toNat).length≤6:=X6 5 n.toNat (by have:=h.1;have:=h.2;omega)
theorem Uo (w:List UInt8) (ns:List Int) (hl:ns.length≤10) (h6:∀ n∈ns,six n) (hw:w.length≤10):Ze Xs Ms Xo [.d (.str w),.d (.sl (ns.map YA))] []=some (.d (.str (Yb 32 (w :: ns.map fun n=>num n.toNat))),[]):=by
 have ae:(Yb 32 (w :: ns.map fun n=>num n.toNat)).length≤1000:=by
  have:=ZlJ 32 10 (w :: ns.map fun n=>num n.toNat) (by
   intro x hx;rcases Kd.1 hx with rfl | hx
   ·exact hw
   ·obtain⟨n,hn,rfl⟩:=Ld.1 hx;have:=Zdq n (h6 n hn);omega)
  simp only[Kp,KP] at this;omega
 have hj:=ZgH (w :: ns.map fun n=>num n.toNat) 32 (by simp) (by simp;omega) (by omega);simp only[Kj] at hj;refine cE ?_;simp +contextual -implicitDefEqProofs (maxSteps:=10^7) only[go_sem,seval,↓gZ,Zch];refine LO (α:=Nat) (fun k=>[(12,.d (J (k:Int)))]) (fun k=>[(0,.row 1 ((w :: (ns.take k).map fun n=>num n.toNat).map .str) true false)]) (fun k=>k≤ns.length) (fun k=>ns.length-k) 0 (by simp) ?_;intro k hk ih;by_cases ad:k<ns.length
 ·obtain⟨x,hx⟩:=Zs ad;have ab : (k:Int)<(ns.length:Int):=by omega
  have af:=Zj (k:=k) (by omega);have hs:=h6 x (Kc hx);have e1:=Qg x hs.1 (by have:=hs.2;omega);have aa:((ns.take k).length+1+1)*16≤140737488355328∧(ns.take k).length≤140737488355326:=by simp;omega
  have ht:ns.take (k+1)=ns.take k++[x]:=by rw[KL,hx];rfl
  simp +contextual -implicitDefEqProofs (maxSteps:=10^7) only[go_sem,seval,↓gZ,ab,ad,hx,af,e1,aa,YA];refine ih (k+1) _ (by omega) (by omega) ?_;simp +contextual -implicitDefEqProofs (maxSteps:=10^7) only[go_sem,seval,↓gZ,ht,K9,Kj,Kx,Kv]
 ·have:k=ns.length:=by omega
  subst this;simp +contextual -implicitDefEqProofs (maxSteps:=10^7) only[go_sem,seval,↓gZ,K1,hj]
def UO (e:Zl):List Int:=[e.kind,e.label,e.box.X,e.box.Y,e.box.W,e.box.H,e.line.Pane.W,e.line.Pane.H,e.line.Pane.Kind,e.line.Count]
theorem Zrn (eK eL eX eY eW eH ae af:Int) (ai:Bool) (ag eC eo ea ep:Int) (et:Bool) (ek:List Zf):Ze Xs Ms Zau [(.d (.agg [J eK,J eL,J eX,J eY,J eW,J eH,J ae,J af,.bool ai,J ag,J eC,J eo,J ea,J ep,.bool et,.sl (ek.map Zf.enc)]))] []=some ((.d (.bool (decide (∀ n∈UO (Zl.mk eK eL (Box.mk eX eY eW eH) (Zc.mk (Pane.mk ae af ai ag) eC) (Zf.mk eo ea ep et ek)),six n)))),[]):=by
 obtain⟨xs,aj⟩:∃ xs,xs=UO (Zl.mk eK eL (Box.mk eX eY eW eH) (Zc.mk (Pane.mk ae af ai ag) eC) (Zf.mk eo ea ep et ek)):=⟨_,rfl⟩
 have ab:xs.length=10:=by rw[aj];rfl
 rw[← aj];refine cE ?_;simp +contextual -implicitDefEqProofs (maxSteps:=10^7) only[go_sem,seval,↓gZ,Zgi];have ak:([J eK,J eL,J eX,J eY,J eW,J eH,J ae,J af,J ag,J eC]:List D)=xs.map YA:=by rw[aj];rfl
 rw[ak];refine LO (α:=Nat) (fun k=>[(38,.d (J (k:Int)))]) (fun _=>[]) (fun k=>k≤10∧∀ n∈xs.take k,six n) (fun k=>10-k) 0 (by simp) ?_;intro k ⟨hk,hp⟩ ih;by_cases ah:k<xs.length
 ·obtain⟨x,hx⟩:=Zs ah;have ad : (k:Int)<10:=by omega
  have aa:k<10:=by omega
  have al:=Zj (k:=k) (by omega);by_cases hs:six x
  ·have n1:¬x<0:=by have:=hs.1;omega
   have n2:¬999999<x:=by have:=hs.2;omega
   simp +contextual -implicitDefEqProofs (maxSteps:=10^7) only[go_sem,seval,↓gZ,ad,ah,aa,hx,al,YA,n1,n2,ab];refine ih (k+1) _ ⟨by omega,?_⟩ (by omega) ?_
   ·intro n hn;rw[KL,hx] at hn;rcases Kg.1 hn with hn | hn
    ·exact hp n hn
    ·simp only[LX,KC] at hn;rw[hn];exact hs
   ·simp +contextual -implicitDefEqProofs (maxSteps:=10^7) only[go_sem,seval,↓gZ]
  ·have an:decide (∀ n∈xs,six n)=false:=Kk fun h=>hs (h x (Kc hx));rw[an];by_cases n1:x<0
   ·simp +contextual -implicitDefEqProofs (maxSteps:=10^7) only[go_sem,seval,↓gZ,ad,ah,aa,hx,al,YA,n1,ab]
   ·have n2:999999<x:=by
     rcases Int.lt_or_le 999999 x with h | h
     ·exact h
     ·exact absurd ⟨by omega,h⟩ hs
    simp +contextual -implicitDefEqProofs (maxSteps:=10^7) only[go_sem,seval,↓gZ,ad,ah,aa,hx,al,YA,n1,n2,ab]
 ·have ao:k=10:=by omega
  subst ao;have am:decide (∀ n∈xs,six n)=true:=by
   refine Ki fun n hn=>hp n ?_;rw[KN (by omega)];exact hn
  rw[am];simp +contextual -implicitDefEqProofs (maxSteps:=10^7) only[go_sem,seval,↓gZ,ab]
def Zcc (e:Zl) (b:BT):Option Ev:=
 if e.kind=0 then (if e.box.X=0∧e.box.Y=0 then some (.sheet e.label.toNat e.box.W.toNat e.box.H.toNat) else none)
 else if e.kind=1 then some (.flaw e.label.toNat e.box.X.toNat e.box.Y.toNat e.box.W.toNat e.box.H.toNat)
 else if e.kind=2 then some (.order e.line)
 else if e.kind=3 then some (.cut e.label.toNat b)
 else if e.kind=4 then some (.brk e.line)
 else if e.kind=5 then some (.scrap e.label.toNat)
 else none
def Up (e:Zl):Option Ev:=if ∀ n∈UO e,six n then
  match QP e.plan with
  | some b=>if ZpN b then Zcc e b else none
  | none=>none
 else none
def fmtE (e:Zl):List UInt8:=match Up e with
 | some v=>v.text
 | none=>[]
theorem ZcS {e:Zl} (h:Up e=none):fmtE e=[]:=by unfold fmtE;rw[h]
theorem Zbk {e:Zl} {v:Ev} (h:Up e=some v):fmtE e=v.text:=by unfold fmtE;rw[h]
theorem Zhv {e:Zl} (h:¬∀ n∈UO e,six n):Up e=none:=by unfold Up;rw[Ke h]
theorem Zdr {e:Zl} (h:∀ b,QP e.plan=some b→¬ZpN b):Up e=none:=by
 unfold Up;split
 ·cases hb:QP e.plan with
  | none=>rfl
  | some b=>simp only;rw[Ke (h b hb)]
 ·rfl
theorem Zfo {e:Zl} {b:BT} (h:∀ n∈UO e,six n) (hb:QP e.plan=some b) (hp:ZpN b):Up e=Zcc e b:=by
 unfold Up;rw[Kh h,hb];simp only;rw[Kh hp]
theorem ZlK (eK eL eX eY eW eH ab ad:Int) (ae:Bool) (af eC eo ea ep:Int) (et:Bool) (ek:List Zf):Ze Xs Ms YF [(.d (.agg [J eK,J eL,J eX,J eY,J eW,J eH,J ab,J ad,.bool ae,J af,J eC,J eo,J ea,J ep,.bool et,.sl (ek.map Zf.enc)]))] []=some (.d (.str (fmtE (Zl.mk eK eL (Box.mk eX eY eW eH) (Zc.mk (Pane.mk ab ad ae af) eC) (Zf.mk eo ea ep et ek)))),[]):=by
 have e1:=ZnG (.mk eo ea ep et ek);rw[Zf.enc_mk] at e1;have e2:=Zrn eK eL eX eY eW eH ab ad ae af eC eo ea ep et ek;by_cases hw:∀ n∈UO (Zl.mk eK eL (Box.mk eX eY eW eH) (Zc.mk (Pane.mk ab ad ae af) eC) (Zf.mk eo ea ep et ek)),six n
 ·rw[Ki hw] at e2;rcases Zx0 (.mk eo ea ep et ek) with hf | ⟨b,hb,am,an,hf⟩
  ·rw[hf] at e1;have ai:Up (Zl.mk eK eL (Box.mk eX eY eW eH) (Zc.mk (Pane.mk ab ad ae af) eC) (Zf.mk eo ea ep et ek))=none:=by
    refine Zdr fun b hb hp=>?_;have:=Zma hb;rw[hf,Kh ⟨hp.1,hp.2.1⟩] at this;cases b<;>cases this
   rw[ZcS ai];refine cE ?_;simp +contextual -implicitDefEqProofs (maxSteps:=10^7) only[go_sem,seval,↓gZ,Z4,e1,e2]
  ·rw[hf] at e1;have aa:(shw b==[])=false:=by cases b<;>rfl
   have aj:QP (.mk eo ea ep et ek)=some b:=by rw[hb];exact Zib b
   by_cases hl:(shw b).length≤1600
   ·have ag : ¬(1600:Int)<((shw b).length:Int):=by omega
    have hk:=Zfo (e:=(Zl.mk eK eL (Box.mk eX eY eW eH) (Zc.mk (Pane.mk ab ad ae af) eC) (Zf.mk eo ea ep et ek))) hw aj ⟨am,an,hl⟩;simp only[UO,Kd,Ku,or_false,forall_eq_or_imp,forall_eq] at hw;obtain⟨n1,n2,n3,n4,n5,n6,n7,n8,n9,ao⟩:=hw;simp only[Zcc] at hk;by_cases k0:eK=0
    ·rw[Kh k0] at hk;by_cases ah:eX=0∧eY=0
     ·rw[Kh ah] at hk;rw[Zbk hk];obtain⟨hx,hy⟩:=ah;subst k0 hx hy;have e3:=Uo YD [eL,eW,eH] (by simp) (by simp[n2,n5,n6]) (by decide);simp only[Kj,Kx,YA,YD] at e3;simp only[Ev.text,Ev.words,YD];refine cE ?_;simp +contextual -implicitDefEqProofs (maxSteps:=10^7) only[go_sem,seval,↓gZ,Z4,e1,e2,aa,ag,e3]
     ·rw[Ke ah] at hk;rw[ZcS hk];by_cases hx:eX=0
      ·have hy:¬eY=0:=fun h=>ah ⟨hx,h⟩;subst k0 hx;refine cE ?_;simp +contextual -implicitDefEqProofs (maxSteps:=10^7) only[go_sem,seval,↓gZ,Z4,e1,e2,aa,ag,hy]
      ·subst k0;refine cE ?_;simp +contextual -implicitDefEqProofs (maxSteps:=10^7) only[go_sem,seval,↓gZ,Z4,e1,e2,aa,ag,hx]
    rw[Ke k0] at hk;by_cases k1:eK=1
    ·rw[Kh k1] at hk;rw[Zbk hk];subst k1;have e3:=Uo Vp [eL,eX,eY,eW,eH] (by simp) (by simp[n2,n3,n4,n5,n6]) (by decide);simp only[Kj,Kx,YA,Vp] at e3;simp only[Ev.text,Ev.words,Vp];refine cE ?_;simp +contextual -implicitDefEqProofs (maxSteps:=10^7) only[go_sem,seval,↓gZ,Z4,e1,e2,aa,ag,e3]
    rw[Ke k1] at hk;have ak:ZpJ ⟨⟨ab,ad,ae,af⟩,eC⟩:=⟨ao,n7,n8,n9⟩
    have e4:=Zrj ab ad ae af eC ak;have ap:=Zd7 ⟨⟨ab,ad,ae,af⟩,eC⟩ ak;have bl:6+(Zbj ⟨⟨ab,ad,ae,af⟩,eC⟩).length≤1152921504606846976:=by unfold Zbj;omega
    by_cases k2:eK=2
    ·rw[Kh k2] at hk;rw[Zbk hk];subst k2;have ht:Ev.text (.order ⟨⟨ab,ad,ae,af⟩,eC⟩)=[111,114,100,101,114,32]++Zbj ⟨⟨ab,ad,ae,af⟩,eC⟩:=rfl;rw[ht];refine cE ?_;simp +contextual -implicitDefEqProofs (maxSteps:=10^7) only[go_sem,seval,↓gZ,Z4,e1,e2,aa,ag,e4,bl]
    rw[Ke k2] at hk;by_cases k3:eK=3
    ·rw[Kh k3] at hk;rw[Zbk hk];subst k3;have e3:=Uo Zeu [eL] (by simp) (by simp[n2]) (by decide);simp only[Kj,Kx,YA,Zeu] at e3;have aq:=Zdq eL n2;have ht:Ev.text (.cut eL.toNat b)=Yb 32 [[99,117,116],num eL.toNat]++[32]++shw b:=by simp[Ev.text,Ev.words,Yb,Zeu]
     have ar:(Yb 32 [[99,117,116],num eL.toNat]).length≤20:=by simp[Yb];omega
     rw[ht];generalize Yb 32 [[99,117,116],num eL.toNat]=jt at *;have b1:jt.length+1≤1152921504606846976:=by omega
     have b2:jt.length+1+(shw b).length≤1152921504606846976:=by omega
     refine cE ?_;simp +contextual -implicitDefEqProofs (maxSteps:=10^7) only[go_sem,seval,↓gZ,Z4,e1,e2,aa,ag,e3,b1,b2]
    rw[Ke k3] at hk;by_cases k4:eK=4
    ·rw[Kh k4] at hk;rw[Zbk hk];subst k4;have ht:Ev.text (.brk ⟨⟨ab,ad,ae,af⟩,eC⟩)=[98,114,101,97,107,32]++Zbj ⟨⟨ab,ad,ae,af⟩,eC⟩:=rfl;rw[ht];refine cE ?_;simp +contextual -implicitDefEqProofs (maxSteps:=10^7) only[go_sem,seval,↓gZ,Z4,e1,e2,aa,ag,e4,bl]
    rw[Ke k4] at hk;by_cases k5:eK=5
    ·rw[Kh k5] at hk;rw[Zbk hk];subst k5;have e3:=Uo WD [eL] (by simp) (by simp[n2]) (by decide);simp only[Kj,Kx,YA,WD] at e3;simp only[Ev.text,Ev.words,WD];refine cE ?_;simp +contextual -implicitDefEqProofs (maxSteps:=10^7) only[go_sem,seval,↓gZ,Z4,e1,e2,aa,ag,e3]
    ·rw[Ke k5] at hk;rw[ZcS hk];refine cE ?_;simp +contextual -implicitDefEqProofs (maxSteps:=10^7) only[go_sem,seval,↓gZ,Z4,e1,e2,aa,ag,k0,k1,k2,k3,k4,k5]
   ·have ag : (1600:Int)<((shw b).length:Int):=by omega
    have ai:Up (Zl.mk eK eL (Box.mk eX eY eW eH) (Zc.mk (Pane.mk ab ad ae af) eC) (Zf.mk eo ea ep et ek))=none:=by
     refine Zdr fun b' al hp=>?_;rw[show QP (Zl.plan (Zl.mk eK eL (Box.mk eX eY eW eH) (Zc.mk (Pane.mk ab ad ae af) eC) (Zf.mk eo ea ep et ek)))=QP (.mk eo ea ep et ek) from rfl,aj] at al;cases al;exact hl hp.2.2
    rw[ZcS ai];refine cE ?_;simp +contextual -implicitDefEqProofs (maxSteps:=10^7) only[go_sem,seval,↓gZ,Z4,e1,e2,aa,ag]
 ·rw[Kk hw] at e2;rw[ZcS (Zhv hw)];refine cE ?_;simp +contextual -implicitDefEqProofs (maxSteps:=10^7) only[go_sem,seval,↓gZ,Z4,e1,e2]
theorem Zne:Ze Xs Ms W5 [] []=some (.own 0,[.row 1 [.str YD,.str Vp,.str VV,.str Zeu,.str VX,.str WD] true false]):=by
 refine cE ?_;simp +contextual -implicitDefEqProofs (maxSteps:=10^7) only[go_sem,seval,↓gZ,ZdL]
 all_goals rfl
def ZlL (e:Zl):List Int:=[e.label,e.box.X,e.box.Y,e.box.W,e.box.H,e.line.Count,e.line.Pane.W,e.line.Pane.H,e.line.Pane.Kind]
theorem ZAj {e:Zl} (h:¬∀ n∈ZlL e,six n):Up e=none:=by
 refine Zhv fun h'=>h fun n hn=>h' n ?_;simp only[ZlL,UO,Kd,Ku,or_false] at hn ⊢;rcases hn with h | h | h | h | h | h | h | h | h<;>simp[h]
theorem ZAk {e:Zl} (h:∀ n∈ZlL e,six n) (hk:0≤e.kind∧e.kind≤5):∀ n∈UO e,six n:=by
 intro n hn;simp only[UO,Kd,Ku,or_false] at hn;rcases hn with rfl | hn
 ·exact⟨hk.1,by omega⟩
 ·refine h n ?_;simp only[ZlL,Kd,Ku,or_false];rcases hn with h | h | h | h | h | h | h | h | h<;>simp[h]
theorem Zwf {e:Zl} {b:BT} (hk:0≤e.kind∧e.kind≤5) (h0:e.kind=0→e.box.X=0∧e.box.Y=0):(Zcc e b).isSome=true:=by
 unfold Zcc;by_cases k0:e.kind=0
 ·rw[Kh k0,Kh (h0 k0)];rfl
 rw[Ke k0];by_cases k1:e.kind=1
 ·rw[Kh k1];rfl
 rw[Ke k1];by_cases k2:e.kind=2
 ·rw[Kh k2];rfl
 rw[Ke k2];by_cases k3:e.kind=3
 ·rw[Kh k3];rfl
 rw[Ke k3];by_cases k4:e.kind=4
 ·rw[Kh k4];rfl
 rw[Ke k4,Kh (by omega)];rfl
theorem Zwg {e:Zl} {b:BT} (hk:¬(0≤e.kind∧e.kind≤5)):Zcc e b=none:=by
 unfold Zcc;rw[Ke (by omega),Ke (by omega),Ke (by omega),Ke (by omega),Ke (by omega),Ke (by omega)]
theorem ZmV {e:Zl} (h:∀ b,Zcc e b=none):Up e=none:=by
 unfold Up;split
 ·split
  ·split
   ·exact h _
   ·rfl
  ·rfl
 ·rfl
theorem Ziy (eK eL eX eY eW eH aa ab:Int) (ae:Bool) (ad eC eo ea ep:Int) (et:Bool) (ek:List Zf):Ze Xs Ms Yt [(.d (.agg [J eK,J eL,J eX,J eY,J eW,J eH,J aa,J ab,.bool ae,J ad,J eC,J eo,J ea,J ep,.bool et,.sl (ek.map Zf.enc)]))] []=some ((.d (.bool ((Up (Zl.mk eK eL (Box.mk eX eY eW eH) (Zc.mk (Pane.mk aa ab ae ad) eC) (Zf.mk eo ea ep et ek))).isSome))),[]):=by
 obtain⟨xs,aq⟩:∃ xs,xs=ZlL (Zl.mk eK eL (Box.mk eX eY eW eH) (Zc.mk (Pane.mk aa ab ae ad) eC) (Zf.mk eo ea ep et ek)):=⟨_,rfl⟩
 have a1:xs.length=9:=by rw[aq];rfl
 refine cE ?_;simp +contextual -implicitDefEqProofs (maxSteps:=10^7) only[go_sem,seval,↓gZ,JG];have au:([J eL,J eX,J eY,J eW,J eH,J eC,J aa,J ab,J ad]:List D)=xs.map YA:=by rw[aq];rfl
 rw[au];refine LO (α:=Nat) (fun k=>[(4,.d (J (k:Int)))]) (fun _=>[]) (fun k=>k≤9∧∀ n∈xs.take k,six n) (fun k=>9-k) 0 (by simp) ?_;intro k ⟨hk,hp⟩ ih;by_cases av:k<xs.length
 ·obtain⟨x,hx⟩:=Zs av;have al : (k:Int)<9:=by omega
  have ah:k<9:=by omega
  have am:(k:Int)<(xs.length:Int):=by omega
  have az:=Zj (k:=k) (by omega);have e1:=Zv x 0 999999;by_cases hs:six x
  ·rw[Ki (show 0≤x∧x≤999999 from hs)] at e1;simp +contextual -implicitDefEqProofs (maxSteps:=10^7) only[go_sem,seval,↓gZ,al,av,ah,am,hx,az,YA,e1];refine ih (k+1) _ ⟨by omega,?_⟩ (by omega) ?_
   ·intro n hn;rw[KL,hx] at hn;rcases Kg.1 hn with hn | hn
    ·exact hp n hn
    ·simp only[LX,KC] at hn;rw[hn];exact hs
   ·simp +contextual -implicitDefEqProofs (maxSteps:=10^7) only[go_sem,seval,↓gZ]
  ·rw[Kk (show ¬(0≤x∧x≤999999) from hs)] at e1;have ag:Up (Zl.mk eK eL (Box.mk eX eY eW eH) (Zc.mk (Pane.mk aa ab ae ad) eC) (Zf.mk eo ea ep et ek))=none:=ZAj fun h=>hs (h x (by rw[← aq];exact Kc hx));rw[ag];simp +contextual -implicitDefEqProofs (maxSteps:=10^7) only[go_sem,seval,↓gZ,al,av,ah,am,hx,az,YA,e1,KD]
 ·have a2:k=9:=by omega
  subst a2;have aw:∀ n∈ZlL (Zl.mk eK eL (Box.mk eX eY eW eH) (Zc.mk (Pane.mk aa ab ae ad) eC) (Zf.mk eo ea ep et ek)),six n:=by
   intro n hn;rw[← aq] at hn;refine hp n ?_;rw[KN (by omega)];exact hn
  have af:¬(9:Int)<(xs.length:Int):=by omega
  have e1:=Zv eK 0 5;have e2:=ZiS (.mk eo ea ep et ek);rw[Zf.enc_mk] at e2;by_cases an:eK=0∧¬(eX=0∧eY=0)
  ·obtain⟨k0,a0⟩:=an;have ag:Up (Zl.mk eK eL (Box.mk eX eY eW eH) (Zc.mk (Pane.mk aa ab ae ad) eC) (Zf.mk eo ea ep et ek))=none:=ZmV fun b=>by unfold Zcc;rw[Kh k0,Ke a0]
   rw[ag];subst k0;by_cases hX:eX=0
   ·have hY:¬eY=0:=fun h=>a0 ⟨hX,h⟩;simp +contextual -implicitDefEqProofs (maxSteps:=10^7) only[go_sem,seval,↓gZ,af,hX,hY,KD]
   ·simp +contextual -implicitDefEqProofs (maxSteps:=10^7) only[go_sem,seval,↓gZ,af,hX,KD]
  have aj:eK=0→eX=0∧eY=0:=fun h=>Classical.byContradiction fun h'=>an ⟨h,h'⟩;have a3:∀ R:Prop,R→R:=fun _ h=>h;by_cases ak:0≤eK∧eK≤5
  ·rw[Ki ak] at e1;have ao:=ZAk (e:=(Zl.mk eK eL (Box.mk eX eY eW eH) (Zc.mk (Pane.mk aa ab ae ad) eC) (Zf.mk eo ea ep et ek))) aw ak;cases hT:QP (.mk eo ea ep et ek) with
   | none=>
    rw[hT,show Zx 255 none=-1 from rfl] at e2;have ag:Up (Zl.mk eK eL (Box.mk eX eY eW eH) (Zc.mk (Pane.mk aa ab ae ad) eC) (Zf.mk eo ea ep et ek))=none:=Zdr fun b hb=>by rw[show QP (Zl.plan (Zl.mk eK eL (Box.mk eX eY eW eH) (Zc.mk (Pane.mk aa ab ae ad) eC) (Zf.mk eo ea ep et ek)))=QP (.mk eo ea ep et ek) from rfl,hT] at hb;cases hb
    rw[ag];by_cases k0:eK=0
    ·obtain⟨hX,hY⟩:=aj k0;subst k0 hX hY;simp +contextual -implicitDefEqProofs (maxSteps:=10^7) only[go_sem,seval,↓gZ,af,e1,e2,KD]
    ·simp +contextual -implicitDefEqProofs (maxSteps:=10^7) only[go_sem,seval,↓gZ,af,k0,e1,e2,KD]
   | some b=>
    have ax:=Uj hT;rw[hT] at e2;by_cases ai:ZpN b
    ·have hz:0<Zx 255 (some b):=by
      have:=b.cnt_pos;have:=ai.1;rcases Q8 255 b with ⟨_,h⟩ | ⟨h,_⟩
      ·rw[h];omega
      ·omega
     have e3:=Zar b;have e4:=U4 b ai.2.1 (by have:=ai.1;omega);rw[← ax,Zf.enc_mk] at e3 e4;rw[ai.2.1] at e3;have hl:=ai.2.2;have ap : ((shw b).length:Int)≤1600:=by omega
     have ay:(Up (Zl.mk eK eL (Box.mk eX eY eW eH) (Zc.mk (Pane.mk aa ab ae ad) eC) (Zf.mk eo ea ep et ek))).isSome=true:=by
      rw[Zfo ao hT ai];exact Zwf ak aj
     rw[ay];by_cases k0:eK=0
     ·obtain⟨hX,hY⟩:=aj k0;subst k0 hX hY;simp +contextual -implicitDefEqProofs (maxSteps:=10^7) only[go_sem,seval,↓gZ,af,e1,e2,hz,e3,e4,ap]
     ·simp +contextual -implicitDefEqProofs (maxSteps:=10^7) only[go_sem,seval,↓gZ,af,k0,e1,e2,hz,e3,e4,ap]
    ·have ag:Up (Zl.mk eK eL (Box.mk eX eY eW eH) (Zc.mk (Pane.mk aa ab ae ad) eC) (Zf.mk eo ea ep et ek))=none:=Zdr fun b' hb=>by
      rw[show QP (Zl.plan (Zl.mk eK eL (Box.mk eX eY eW eH) (Zc.mk (Pane.mk aa ab ae ad) eC) (Zf.mk eo ea ep et ek)))=QP (.mk eo ea ep et ek) from rfl,hT] at hb;cases hb;exact ai
     rw[ag];have e3:=Zar b;rw[← ax,Zf.enc_mk] at e3;rcases Q8 255 b with ⟨hc,hz⟩ | ⟨hc,hz⟩
     ·rw[hz] at e2;have ar : (0:Int)<b.cnt:=by have:=b.cnt_pos;omega
      cases hcb:VY b with
      | false=>
       rw[hcb] at e3;by_cases k0:eK=0
       ·obtain⟨hX,hY⟩:=aj k0;subst k0 hX hY;simp +contextual -implicitDefEqProofs (maxSteps:=10^7) only[go_sem,seval,↓gZ,af,e1,e2,ar,e3,KD]
       ·simp +contextual -implicitDefEqProofs (maxSteps:=10^7) only[go_sem,seval,↓gZ,af,k0,e1,e2,ar,e3,KD]
      | true=>
       rw[hcb] at e3;have e4:=U4 b hcb (by omega);rw[← ax,Zf.enc_mk] at e4;have ap : ¬((shw b).length:Int)≤1600:=fun h=>ai ⟨by omega,hcb,by omega⟩;by_cases k0:eK=0
       ·obtain⟨hX,hY⟩:=aj k0;subst k0 hX hY;simp +contextual -implicitDefEqProofs (maxSteps:=10^7) only[go_sem,seval,↓gZ,af,e1,e2,ar,e3,e4,ap,KD]
       ·simp +contextual -implicitDefEqProofs (maxSteps:=10^7) only[go_sem,seval,↓gZ,af,k0,e1,e2,ar,e3,e4,ap,KD]
     ·rw[hz] at e2;by_cases k0:eK=0
      ·obtain⟨hX,hY⟩:=aj k0;subst k0 hX hY;simp +contextual -implicitDefEqProofs (maxSteps:=10^7) only[go_sem,seval,↓gZ,af,e1,e2,KD]
      ·simp +contextual -implicitDefEqProofs (maxSteps:=10^7) only[go_sem,seval,↓gZ,af,k0,e1,e2,KD]
  ·rw[Kk ak] at e1;have ag:Up (Zl.mk eK eL (Box.mk eX eY eW eH) (Zc.mk (Pane.mk aa ab ae ad) eC) (Zf.mk eo ea ep et ek))=none:=ZmV fun b=>Zwg ak;rw[ag];have k0:¬eK=0:=fun h=>ak ⟨by omega,by omega⟩;simp +contextual -implicitDefEqProofs (maxSteps:=10^7) only[go_sem,seval,↓gZ,af,k0,e1,KD]
theorem Zhw (n:Int) (h:six n):Ze Xs Ms Z2 [(.d (J n))] []=some (.d (.str (num n.toNat)),[]):=by
 have e:=W0 n.toNat (by have:=h.2;have:=h.1;omega);rw[K7 h.1] at e;exact e
theorem ZpP (eK eL eX eY eW eH aa ab:Int) (ad:Bool) (ae eC eo ea ep:Int) (et:Bool) (ek:List Zf) (v:Ev) (hv:Up (Zl.mk eK eL (Box.mk eX eY eW eH) (Zc.mk (Pane.mk aa ab ad ae) eC) (Zf.mk eo ea ep et ek))=some v):Ze Xs Ms U8 [(.d (.agg [J eK,J eL,J eX,J eY,J eW,J eH,J aa,J ab,.bool ad,J ae,J eC,J eo,J ea,J ep,.bool et,.sl (ek.map Zf.enc)]))] []=some (.d (.str v.text),[]):=by
 have af:∀ n∈UO (Zl.mk eK eL (Box.mk eX eY eW eH) (Zc.mk (Pane.mk aa ab ad ae) eC) (Zf.mk eo ea ep et ek)),six n:=Classical.byContradiction fun h=>by rw[Zhv h] at hv;cases hv
 obtain⟨b,hb,ah⟩:∃ b,QP (.mk eo ea ep et ek)=some b∧ZpN b:=Classical.byContradiction fun h=>by
  rw[Zdr (e:=(Zl.mk eK eL (Box.mk eX eY eW eH) (Zc.mk (Pane.mk aa ab ad ae) eC) (Zf.mk eo ea ep et ek))) fun b hb hp=>h ⟨b,hb,hp⟩] at hv;cases hv
 have am:=Uj hb;rw[Zfo af hb ah] at hv;have e0:=Zne;simp only[UO,Kd,Ku,or_false,forall_eq_or_imp,forall_eq] at af;obtain⟨n1,n2,n3,n4,n5,n6,n7,n8,n9,an⟩:=af;have ai:=Zhw eL n2;have ao:=Zhw eX n3;have ap:=Zhw eY n4;have aj:=Zhw eW n5;have ak:=Zhw eH n6;have lL:=Zdq eL n2;have lX:=Zdq eX n3;have lY:=Zdq eY n4;have lW:=Zdq eW n5;have lH:=Zdq eH n6;have al:ZpJ ⟨⟨aa,ab,ad,ae⟩,eC⟩:=⟨an,n7,n8,n9⟩
 have e4:=Zrk aa ab ad ae eC al;have aq:=Zd7 ⟨⟨aa,ab,ad,ae⟩,eC⟩ al;have e5:=U4 b ah.2.1 (by have:=ah.1;omega);rw[← am,Zf.enc_mk] at e5;have ar:=ah.2.2;have au:(Zbj ⟨⟨aa,ab,ad,ae⟩,eC⟩).length≤40:=aq;unfold Zcc at hv;simp only at hv;by_cases k0:eK=0
 ·rw[Kh k0] at hv;split at hv
  ·cases hv;subst k0;have ht:Ev.text (.sheet eL.toNat eW.toNat eH.toNat)=YD++[32]++num eL.toNat++[32]++num eW.toNat++[32]++num eH.toNat:=by simp[Ev.text,Ev.words,Yb]
   rw[ht];generalize num eL.toNat=a at *;generalize num eW.toNat=c at *;generalize num eH.toNat=d at *;have ag:YD.length=5:=rfl;have b0:YD.length+1≤1152921504606846976:=by omega
   have b1:YD.length+1+a.length≤1152921504606846976:=by omega
   have b2:YD.length+1+a.length+1≤1152921504606846976:=by omega
   have b3:YD.length+1+a.length+1+c.length≤1152921504606846976:=by omega
   have b4:YD.length+1+a.length+1+c.length+1≤1152921504606846976:=by omega
   have b5:YD.length+1+a.length+1+c.length+1+d.length≤1152921504606846976:=by omega
   refine cE ?_;simp +contextual -implicitDefEqProofs (maxSteps:=10^7) only[go_sem,seval,↓gZ,Yk,e0,ai,aj,ak,b0,b1,b2,b3,b4,b5]
  ·cases hv
 rw[Ke k0] at hv;by_cases k1:eK=1
 ·rw[Kh k1] at hv;cases hv;subst k1;have ht:Ev.text (.flaw eL.toNat eX.toNat eY.toNat eW.toNat eH.toNat)=Vp++[32]++num eL.toNat++[32]++num eX.toNat++[32]++num eY.toNat++[32]++num eW.toNat++[32]++num eH.toNat:=by simp[Ev.text,Ev.words,Yb]
  rw[ht];generalize num eL.toNat=a at *;generalize num eX.toNat=x at *;generalize num eY.toNat=y at *;generalize num eW.toNat=c at *;generalize num eH.toNat=d at *;have ag:Vp.length=4:=rfl;have b0:Vp.length+1≤1152921504606846976:=by omega
  have b1:Vp.length+1+a.length≤1152921504606846976:=by omega
  have b2:Vp.length+1+a.length+1≤1152921504606846976:=by omega
  have b3:Vp.length+1+a.length+1+x.length≤1152921504606846976:=by omega
  have b4:Vp.length+1+a.length+1+x.length+1≤1152921504606846976:=by omega
  have b5:Vp.length+1+a.length+1+x.length+1+y.length≤1152921504606846976:=by omega
  have b6:Vp.length+1+a.length+1+x.length+1+y.length+1≤1152921504606846976:=by omega
  have b7:Vp.length+1+a.length+1+x.length+1+y.length+1+c.length≤1152921504606846976:=by omega
  have b8:Vp.length+1+a.length+1+x.length+1+y.length+1+c.length+1≤1152921504606846976:=by omega
  have b9:Vp.length+1+a.length+1+x.length+1+y.length+1+c.length+1+d.length≤1152921504606846976:=by omega
  refine cE ?_;simp +contextual -implicitDefEqProofs (maxSteps:=10^7) only[go_sem,seval,↓gZ,Yk,e0,ai,ao,ap,aj,ak,b0,b1,b2,b3,b4,b5,b6,b7,b8,b9]
 rw[Ke k1] at hv;by_cases k2:eK=2
 ·rw[Kh k2] at hv;cases hv;subst k2;have ht:Ev.text (.order ⟨⟨aa,ab,ad,ae⟩,eC⟩)=VV++[32]++Zbj ⟨⟨aa,ab,ad,ae⟩,eC⟩:=rfl;rw[ht];generalize Zbj ⟨⟨aa,ab,ad,ae⟩,eC⟩=a at *;have ag:VV.length=5:=rfl;have b0:VV.length+1≤1152921504606846976:=by omega
  have b1:VV.length+1+a.length≤1152921504606846976:=by omega
  refine cE ?_;simp +contextual -implicitDefEqProofs (maxSteps:=10^7) only[go_sem,seval,↓gZ,Yk,e0,e4,b0,b1]
 rw[Ke k2] at hv;by_cases k3:eK=3
 ·rw[Kh k3] at hv;cases hv;subst k3;have ht:Ev.text (.cut eL.toNat b)=Zeu++[32]++num eL.toNat++[32]++shw b:=by simp[Ev.text,Ev.words,Yb]
  rw[ht];generalize num eL.toNat=a at *;generalize shw b=c at *;have ag:Zeu.length=3:=rfl;have b0:Zeu.length+1≤1152921504606846976:=by omega
  have b1:Zeu.length+1+a.length≤1152921504606846976:=by omega
  have b2:Zeu.length+1+a.length+1≤1152921504606846976:=by omega
  have b3:Zeu.length+1+a.length+1+c.length≤1152921504606846976:=by omega
  refine cE ?_;simp +contextual -implicitDefEqProofs (maxSteps:=10^7) only[go_sem,seval,↓gZ,Yk,e0,ai,e5,b0,b1,b2,b3]
 rw[Ke k3] at hv;by_cases k4:eK=4
 ·rw[Kh k4] at hv;cases hv;subst k4;have ht:Ev.text (.brk ⟨⟨aa,ab,ad,ae⟩,eC⟩)=VX++[32]++Zbj ⟨⟨aa,ab,ad,ae⟩,eC⟩:=rfl;rw[ht];generalize Zbj ⟨⟨aa,ab,ad,ae⟩,eC⟩=a at *;have ag:VX.length=5:=rfl;have b0:VX.length+1≤1152921504606846976:=by omega
  have b1:VX.length+1+a.length≤1152921504606846976:=by omega
  refine cE ?_;simp +contextual -implicitDefEqProofs (maxSteps:=10^7) only[go_sem,seval,↓gZ,Yk,e0,e4,b0,b1]
 rw[Ke k4] at hv;by_cases k5:eK=5
 ·rw[Kh k5] at hv;cases hv;subst k5;have ht:Ev.text (.scrap eL.toNat)=WD++[32]++num eL.toNat:=rfl;rw[ht];generalize num eL.toNat=a at *;have ag:WD.length=5:=rfl;have b0:WD.length+1≤1152921504606846976:=by omega
  have b1:WD.length+1+a.length≤1152921504606846976:=by omega
  refine cE ?_;simp +contextual -implicitDefEqProofs (maxSteps:=10^7) only[go_sem,seval,↓gZ,Yk,e0,ai,b0,b1]
 ·rw[Ke k5] at hv;cases hv
def evZ:Zl:=⟨0,0,bx0,ln0,BT.waste.plan⟩
def evM (m:Option Ev):Zl:=match m with
 | some v=>v.ev
 | none=>evZ
def PeR (res:Option (AV×List Zm)) (m:Option Ev):Prop:=∃ (K L X Y W H pW pH:Int) (pT:Bool) (pK C o a q:Int) (t:Bool) (ks:List Zf),
 res=some (.tup [.agg [(.d (J K)),(.d (J L)),(.d (J X)),(.d (J Y)),(.d (J W)),(.d (J H)),(.d (J pW)),(.d (J pH)),(.d (.bool pT)),(.d (J pK)),(.d (J C)),(.d (J o)),(.d (J a)),(.d (J q)),(.d (.bool t)),.own 0],(.d (.bool (m.isSome)))],[.row 5 (ks.map Zf.enc) true false]) ∧
 Zl.mk K L ⟨X,Y,W,H⟩ ⟨⟨pW,pH,pT,pK⟩,C⟩ (.mk o a q t ks)=evM m
theorem Zjx {res:Option (AV×List Zm)} (h:res=some (.tup [.agg [(.d (J 0)),(.d (J 0)),(.d (J 0)),(.d (J 0)),(.d (J 0)),(.d (J 0)),(.d (J 0)),(.d (J 0)),(.d (.bool false)),(.d (J 0)),(.d (J 0)),(.d (J 0)),(.d (J 0)),(.d (J 0)),(.d (.bool false)),.own 0],(.d (.bool false))],[.row 5 [] true false])):PeR res none:=
 ⟨0,0,0,0,0,0,0,0,false,0,0,0,0,0,false,[],h,rfl⟩
def rcM (s:List UInt8):Option Ev:=match QS 32 s with
 | none=>none
 | some i=>(rd (s.take i)).bind fun l=>(ZuM (s.drop (i+1))).bind fun b=>some (.cut l b)
theorem ZBB:ZuM []=none:=rfl
theorem Zuw (s:List UInt8) (hs:s.length≤1000000):PeR (Ze Xs Ms ZbR [.d (.str s)] []) (rcM s):=by
 have e1:=Zdp s 32 hs;unfold rcM;cases hi:QS 32 s with
 | none=>
  rw[hi] at e1;simp only at e1 ⊢;have e2:=Jv s;obtain⟨o,a,q,t,ks,e3,h3⟩:=ZhL [] (by simp);rw[ZBB] at e3;simp only[KD] at e3;refine Zjx ?_;cases hr:rd s with
  | none=>
   rw[hr] at e2;simp only[Zgf] at e2;refine cE ?_;simp +contextual -implicitDefEqProofs (maxSteps:=10^7) only[go_sem,seval,↓gZ,Uc,e1,e2,e3]
  | some v=>
   rw[hr] at e2;simp only[Zgf] at e2;refine cE ?_;simp +contextual -implicitDefEqProofs (maxSteps:=10^7) only[go_sem,seval,↓gZ,Uc,e1,e2,e3]
 | some i=>
  rw[hi] at e1;simp only at e1 ⊢;have e2:=Jv (s.take i);obtain⟨o,a,q,t,ks,e3,h3⟩:=ZhL (s.drop (i+1)) (by simp;omega);cases hr:rd (s.take i) with
  | none=>
   rw[hr] at e2;simp only[Zgf] at e2;refine Zjx ?_;refine cE ?_;simp +contextual -implicitDefEqProofs (maxSteps:=10^7) only[go_sem,seval,↓gZ,Uc,e1,e2,e3]
  | some v=>
   rw[hr] at e2;simp only[Zgf] at e2;cases hp:ZuM (s.drop (i+1)) with
   | none=>
    rw[hp] at e3;simp only[KD] at e3;refine Zjx ?_;refine cE ?_;simp +contextual -implicitDefEqProofs (maxSteps:=10^7) only[go_sem,seval,↓gZ,Uc,e1,e2,e3]
   | some b=>
    rw[hp] at e3 h3;simp only[Ly] at e3;refine⟨3,v,0,0,0,0,0,0,false,0,0,o,a,q,t,ks,?_,?_⟩
    ·refine cE ?_;simp +contextual -implicitDefEqProofs (maxSteps:=10^7) only[go_sem,seval,↓gZ,Uc,e1,e2,e3]
     all_goals rfl
    ·rw[h3];rfl
theorem ZkC (w:List UInt8) (vs:List Nat) (hl:vs.length≤2000000):PeR (Ze Xs Ms Vv [.d (.str w),.d (.sl ((vs.map fun n:Nat=>(n:Int)).map YA))] []) (Zf8 w vs):=by
 by_cases h3:w=YD∧vs.length=3
 ·obtain⟨rfl,h⟩:=h3;obtain⟨a,b,c,rfl⟩:∃ a b c,vs=[a,b,c]:=by
   match vs,h with
   | [a,b,c],_=>exact⟨a,b,c,rfl⟩
  refine⟨0,a,0,0,b,c,0,0,false,0,0,0,0,0,false,[],?_,rfl⟩;simp only[Kj,Kx,YA,YD];refine cE ?_;simp +contextual -implicitDefEqProofs (maxSteps:=10^7) only[go_sem,seval,↓gZ,QJ]
  all_goals rfl
 by_cases h5:w=Vp∧vs.length=5
 ·obtain⟨rfl,h⟩:=h5;obtain⟨a,b,c,d,f,rfl⟩:∃ a b c d f,vs=[a,b,c,d,f]:=by
   match vs,h with
   | [a,b,c,d,f],_=>exact⟨a,b,c,d,f,rfl⟩
  refine⟨1,a,b,c,d,f,0,0,false,0,0,0,0,0,false,[],?_,rfl⟩;have q1:(Vp==[115,104,101,101,116])=false:=rfl;have q2:(Vp==[102,108,97,119])=true:=rfl;simp only[Kj,Kx,YA];refine cE ?_;simp +contextual -implicitDefEqProofs (maxSteps:=10^7) only[go_sem,seval,↓gZ,QJ,q1,q2]
  all_goals rfl
 by_cases h1:w=WD∧vs.length=1
 ·obtain⟨rfl,h⟩:=h1;obtain⟨a,rfl⟩:∃ a,vs=[a]:=by
   match vs,h with
   | [a],_=>exact⟨a,rfl⟩
  refine⟨5,a,0,0,0,0,0,0,false,0,0,0,0,0,false,[],?_,rfl⟩;have q1:(WD==[115,104,101,101,116])=false:=rfl;have q2:(WD==[102,108,97,119])=false:=rfl;have q3:(WD==[115,99,114,97,112])=true:=rfl;simp only[Kj,Kx,YA];refine cE ?_;simp +contextual -implicitDefEqProofs (maxSteps:=10^7) only[go_sem,seval,↓gZ,QJ,q1,q2,q3]
  all_goals rfl
 ·have aa:Zf8 w vs=none:=by
   unfold Zf8;split
   ·rw[Ke (fun e=>h1 ⟨e,rfl⟩)]
   ·rw[Ke (fun e=>h3 ⟨e,rfl⟩)]
   ·rw[Ke (fun e=>h5 ⟨e,rfl⟩)]
   ·rfl
  rw[aa];refine Zjx ?_;have p1:(w==[115,104,101,101,116])=true→¬(vs.length:Int)=3:=fun h e=>h3 ⟨by simpa [YD] using h,by omega⟩;have p2:(w==[102,108,97,119])=true→¬(vs.length:Int)=5:=fun h e=>h5 ⟨by simpa [Vp] using h,by omega⟩;have p3:(w==[115,99,114,97,112])=true→¬(vs.length:Int)=1:=fun h e=>h1 ⟨by simpa [WD] using h,by omega⟩;cases q1:(w==[115,104,101,101,116]) with
  | true=>
   have e:w=YD:=by simpa [YD] using q1
   have q2:(w==[102,108,97,119])=false:=by rw[e];rfl
   have q3:(w==[115,99,114,97,112])=false:=by rw[e];rfl
   have p1:=p1 q1;refine cE ?_;simp +contextual -implicitDefEqProofs (maxSteps:=10^7) only[go_sem,seval,↓gZ,QJ,q1,q2,q3,p1,KP]
  | false=>
   cases q2:(w==[102,108,97,119]) with
   | true=>
    have e:w=Vp:=by simpa [Vp] using q2
    have q3:(w==[115,99,114,97,112])=false:=by rw[e];rfl
    have p2:=p2 q2;refine cE ?_;simp +contextual -implicitDefEqProofs (maxSteps:=10^7) only[go_sem,seval,↓gZ,QJ,q1,q2,q3,p2,KP]
   | false=>
    cases q3:(w==[115,99,114,97,112]) with
    | true=>
     have p3:=p3 q3;refine cE ?_;simp +contextual -implicitDefEqProofs (maxSteps:=10^7) only[go_sem,seval,↓gZ,QJ,q1,q2,q3,p3,KP]
    | false=>
     refine cE ?_;simp +contextual -implicitDefEqProofs (maxSteps:=10^7) only[go_sem,seval,↓gZ,QJ,q1,q2,q3]
theorem ZpQ:∀ ws:List (List UInt8),Zct ws=(Zcb ws).map fun ns=>ns.map fun n:Nat=>(n:Int)
 | []=>rfl
 | w :: r=>by
  simp only[Zct,Zcb,ZpQ r];cases rd w with
  | none=>rfl
  | some v=>cases Zcb r<;>rfl
theorem Zwh (s:List UInt8):Zy3 (Z8 32 s)=rcM s:=by
 rw[ZcV];unfold rcM;cases hi:QS 32 s with
 | none=>rfl
 | some i=>
  simp only;rw[ZcV 32 (s.drop (i+1))];cases hj:QS 32 (s.drop (i+1)) with
  | none=>rfl
  | some j=>
   simp only;have aa:ZuM (s.drop (i+1))=none:=by
    cases hp:ZuM (s.drop (i+1)) with
    | none=>rfl
    | some b=>
     obtain⟨_,h2,_⟩:=ZAh.1 hp;obtain⟨h3,_⟩:=Zaq hj;have h4:(32:UInt8)∉shw b:=ZpO rfl (by decide) b;rw[← h2] at h4;exact absurd (by rw[h3];simp) h4
   rw[aa];have ab:=ZcU 32 ((s.drop (i+1)).drop (j+1));cases hs:Z8 32 ((s.drop (i+1)).drop (j+1)) with
   | nil=>exact absurd hs ab
   | cons x r=>cases rd (s.take i)<;>rfl
def ZpR (w rest:List UInt8):Option Ev:=if w=VV then (ZgP (Z8 32 rest)).bind fun n=>some (.order n)
 else if w=VX then (ZgP (Z8 32 rest)).bind fun n=>some (.brk n)
 else if w=Zeu then rcM rest else (Zcb (Z8 32 rest)).bind (Zf8 w)
theorem ZBC (s:List UInt8):Zrm s=match QS 32 s with
  | none=>ZpR s []
  | some i=>ZpR (s.take i) (s.drop (i+1)):=by
 unfold Zrm ZpR;rw[ZcV];cases hi:QS 32 s with
 | none=>
  simp only[Un];by_cases h1:s=VV
  ·rw[Kh h1,Kh h1];rfl
  rw[Ke h1,Ke h1];by_cases h2:s=VX
  ·rw[Kh h2,Kh h2];rfl
  rw[Ke h2,Ke h2];by_cases h3:s=Zeu
  ·rw[Kh h3,Kh h3];rfl
  rw[Ke h3,Ke h3];rfl
 | some i=>
  simp only[Un,Zwh]
theorem Znf (s:List UInt8) (hs:s.length≤1000000):PeR (Ze Xs Ms Vt [.d (.str s)] []) (Zrm s):=by
 have e1:=Zdp s 32 hs;have ab:∀ (w aa:List UInt8) (f:Bool),aa.length≤s.length→Ze Xs Ms Yf [.d (.str s),.d (.str [32])] []=some (.tup [.d (.str w),.d (.str aa),(.d (.bool f))],[])→PeR (Ze Xs Ms Vt [.d (.str s)] []) (ZpR w aa):=by
  intro w aa f hr e1;have e2:=Zri aa (by omega);unfold ZpR;by_cases h1:w=VV∨w=VX
  ·rcases h1 with rfl | rfl
   ·rw[Kh rfl];have q1:(VV==[111,114,100,101,114])=true:=rfl;have q2:(VV==[98,114,101,97,107])=false:=rfl;cases hl:ZgP (Z8 32 aa) with
    | none=>
     rw[hl] at e2;simp only[rlV] at e2;refine Zjx ?_;refine cE ?_;simp +contextual -implicitDefEqProofs (maxSteps:=10^7) only[go_sem,seval,↓gZ,Xi,e1,q1,q2,e2]
    | some l=>
     obtain⟨⟨W,H,T,K⟩,C⟩:=l;rw[hl] at e2;simp only[rlV,Zc.enc] at e2;refine⟨2,0,0,0,0,0,W,H,T,K,C,0,0,0,false,[],?_,rfl⟩;refine cE ?_;simp +contextual -implicitDefEqProofs (maxSteps:=10^7) only[go_sem,seval,↓gZ,Xi,e1,q1,q2,e2]
     all_goals rfl
   ·rw[Ke (by decide),Kh rfl];have q1:(VX==[111,114,100,101,114])=false:=rfl;have q2:(VX==[98,114,101,97,107])=true:=rfl;cases hl:ZgP (Z8 32 aa) with
    | none=>
     rw[hl] at e2;simp only[rlV] at e2;refine Zjx ?_;refine cE ?_;simp +contextual -implicitDefEqProofs (maxSteps:=10^7) only[go_sem,seval,↓gZ,Xi,e1,q1,q2,e2]
    | some l=>
     obtain⟨⟨W,H,T,K⟩,C⟩:=l;rw[hl] at e2;simp only[rlV,Zc.enc] at e2;refine⟨4,0,0,0,0,0,W,H,T,K,C,0,0,0,false,[],?_,rfl⟩;refine cE ?_;simp +contextual -implicitDefEqProofs (maxSteps:=10^7) only[go_sem,seval,↓gZ,Xi,e1,q1,q2,e2]
     all_goals rfl
  have n1:¬w=VV:=fun h=>h1 (.inl h);have n2:¬w=VX:=fun h=>h1 (.inr h);have q1:(w==[111,114,100,101,114])=false:=by simpa [VV] using n1
  have q2:(w==[98,114,101,97,107])=false:=by simpa [VX] using n2
  rw[Ke n1,Ke n2];by_cases h3:w=Zeu
  ·rw[Kh h3];have q3:(w==[99,117,116])=true:=by rw[h3];rfl
   obtain⟨K,L,X,Y,W,H,pW,pH,pT,pK,C,o,a,q,t,ks,e3,h⟩:=Zuw aa (by omega);refine⟨K,L,X,Y,W,H,pW,pH,pT,pK,C,o,a,q,t,ks,?_,h⟩;refine cE ?_;simp +contextual -implicitDefEqProofs (maxSteps:=10^7) only[go_sem,seval,↓gZ,Xi,e1,q1,q2,q3,e3]
  ·rw[Ke h3];have q3:(w==[99,117,116])=false:=by simpa [Zeu] using h3
   have e3:=Zfm aa 32 (by omega);have hc:(Z8 32 aa).length≤1000001:=by rw[ZlG];have:aa.count 32≤aa.length:=List.count_le_length;omega
   generalize Z8 32 aa=ws at e3 hc;have e4:=Zfn ws (by omega);have ad:List.take ws.length (List.map D.str ws)=List.map D.str ws:=KN (by simp);rw[ZpQ] at e4;cases hn:Zcb ws with
   | none=>
    rw[hn] at e4;simp only[Option.map_none,rnV] at e4;refine Zjx ?_;refine cE ?_;simp +contextual -implicitDefEqProofs (maxSteps:=10^7) only[go_sem,seval,↓gZ,Xi,e1,q1,q2,q3,e3,e4,ad,List.drop_zero]
   | some ns=>
    rw[hn] at e4;simp only[KI,rnV] at e4;have ae:ns.length≤1000001:=by
     have:=(Zhu hn).1;rw[this,KP] at hc;exact hc
    simp only[KM];obtain⟨K,L,X,Y,W,H,pW,pH,pT,pK,C,o,a,q,t,ks,e5,h⟩:=ZkC w ns (by omega);refine⟨K,L,X,Y,W,H,pW,pH,pT,pK,C,o,a,q,t,ks,?_,h⟩;refine cE ?_;simp +contextual -implicitDefEqProofs (maxSteps:=10^7) only[go_sem,seval,↓gZ,Xi,e1,q1,q2,q3,e3,e4,ad,List.drop_zero,e5]
 rw[ZBC];cases hi:QS 32 s with
 | none=>
  rw[hi] at e1;exact ab _ _ _ (by simp) e1
 | some i=>
  rw[hi] at e1;exact ab _ _ _ (by simp) e1
end Go.Proofs.YtcefneehgbiebaaGreatDoor
