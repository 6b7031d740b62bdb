/- Own text. -/
import Derived.Test.YtcefneehgbiebaaGreatDoorBCode
import Derived.Test.YtcefneehgbiebaaGreatDoorAbsParts
import Derived.Test.YtcefneehgbiebaaGreatDoorBC5
import Derived.Test.YtcefneehgbiebaaGreatDoorBC10
namespace Go.Proofs.YtcefneehgbiebaaGreatDoor
open Go Go.Abs Go.Abs.E Go.Abs.L
open Nat (reduceMul reduceSub reduceLeDiff reduceEqDiff)
open Int (reduceLE reduceEq reduceToNat reduceNeg)
set_option linter.unusedSimpArgs false
set_option linter.unusedVariables false
set_option maxRecDepth 20000
set_option maxHeartbeats 4000000
def ZaO:List UInt8:=[115,104,101,101,116]
def Zdu:List UInt8:=[102,108,97,119]
def JS:List UInt8:=[111,114,100,101,114]
def ZjW:List UInt8:=[99,117,116]
def JT:List UInt8:=[98,114,101,97,107]
def ZaP:List UInt8:=[115,99,114,97,112]
inductive Ev where
 | sheet (l w h:Nat)
 | flaw (l x y w h:Nat)
 | order (n:Zc)
 | cut (l:Nat) (b:BT)
 | brk (n:Zc)
 | scrap (l:Nat)
deriving DecidableEq
def bx0:Box:=⟨0,0,0,0⟩
def ln0:Zc:=⟨⟨0,0,false,0⟩,0⟩
def Ev.ev:Ev→Zz
 | .sheet l w h=>⟨0,l,⟨0,0,w,h⟩,ln0,BT.waste.plan⟩
 | .flaw l x y w h=>⟨1,l,⟨x,y,w,h⟩,ln0,BT.waste.plan⟩
 | .order n=>⟨2,0,bx0,n,BT.waste.plan⟩
 | .cut l b=>⟨3,l,bx0,ln0,b.plan⟩
 | .brk n=>⟨4,0,bx0,n,BT.waste.plan⟩
 | .scrap l=>⟨5,l,bx0,ln0,BT.waste.plan⟩
def Ev.words:Ev→List (List UInt8)
 | .sheet l w h=>[ZaO,num l,num w,num h]
 | .flaw l x y w h=>[Zdu,num l,num x,num y,num w,num h]
 | .order n=>JS :: X6 n
 | .cut l b=>[ZjW,num l,shw b]
 | .brk n=>JT :: X6 n
 | .scrap l=>[ZaP,num l]
def Ev.text (v:Ev):List UInt8:=VA 32 v.words
def Ztq (b:BT):Prop:=b.cnt≤255∧JZ b=true∧(shw b).length≤1600
instance (b:BT):Decidable (Ztq b):=by unfold Ztq;infer_instance
def Ev.ok:Ev→Prop
 | .sheet l w h=>l≤999999∧w≤999999∧h≤999999
 | .flaw l x y w h=>l≤999999∧x≤999999∧y≤999999∧w≤999999∧h≤999999
 | .order n=>Ztp n
 | .cut l b=>l≤999999∧Ztq b
 | .brk n=>Ztp n
 | .scrap l=>l≤999999
def Ztr (s:List UInt8):Option BT:=if s.length≤1600 then Zlq s else none
theorem ZjX {s:List UInt8} {b:BT}:Ztr s=some b↔s=shw b∧Ztq b:=by
 unfold Ztr;constructor
 ·intro h;split at h
  ·rename_i hl;obtain⟨h1,h2,h3⟩:=Zhd.1 h;exact⟨h1,h2,h3,h1 ▸ hl⟩
  ·cases h
 ·rintro ⟨rfl,h1,h2,h3⟩
  rw[Ki h3];exact Zy8 h1 h2
def ZbG:List (List UInt8)→Option (List Nat)
 | []=>some []
 | w :: r=>(rd w).bind fun n=>(ZbG r).bind fun l=>some (n :: l)
theorem ZgY:∀ {ws:List (List UInt8)} {ns:List Nat},ZbG ws=some ns→ws=ns.map num∧∀ n∈ns,n≤999999
 | [],ns,h=>by simp[ZbG] at h;subst h;simp
 | w :: r,ns,h=>by
  simp only[ZbG,KZ] at h;obtain⟨n,h1,l,h2,h3⟩:=h;cases h3;obtain⟨e1,b1⟩:=Zdx h1;obtain⟨e2,b2⟩:=ZgY h2;refine⟨by rw[e1,e2];rfl,fun x hx=>?_⟩;rcases Kf.1 hx with rfl | hx
  ·exact b1
  ·exact b2 x hx
theorem Zfw:∀ {ns:List Nat},(∀ n∈ns,n≤999999)→ZbG (ns.map num)=some ns
 | [],_=>rfl
 | n :: r,h=>by
  have ih:=Zfw (ns:=r) (fun x hx=>h x (Kz _ hx));simp only[Kj,ZbG,Zha (h n (KX ..)),KI,ih]
def Zfx (w:List UInt8):List Nat→Option Ev
 | [l]=>if w=ZaP then some (.scrap l) else none
 | [l,a,b]=>if w=ZaO then some (.sheet l a b) else none
 | [l,x,y,a,b]=>if w=Zdu then some (.flaw l x y a b) else none
 | _=>none
def ZxP:List (List UInt8)→Option Ev
 | [a,p]=>(rd a).bind fun l=>(Ztr p).bind fun b=>some (.cut l b)
 | _=>none
def W5:List (List UInt8)→Option Ev
 | []=>none
 | w :: r=>if w=JS then (Zgh r).bind fun n=>some (.order n) else if w=JT then (Zgh r).bind fun n=>some (.brk n) else if w=ZjW then ZxP r else (ZbG r).bind (Zfx w)
theorem Zts {ws:List (List UInt8)} {v:Ev} (h:W5 ws=some v):ws=v.words∧v.ok:=by
 cases ws with
 | nil=>simp[W5] at h
 | cons w r=>
  simp only[W5] at h;split at h
  ·rename_i hw;simp only[KZ] at h;obtain⟨n,h1,h2⟩:=h;cases h2;obtain⟨e,s⟩:=Zsg h1;exact⟨by rw[hw,e];rfl,s⟩
  ·split at h
   ·rename_i hw;simp only[KZ] at h;obtain⟨n,h1,h2⟩:=h;cases h2;obtain⟨e,s⟩:=Zsg h1;exact⟨by rw[hw,e];rfl,s⟩
   ·split at h
    ·rename_i hw;unfold ZxP at h;split at h
     ·simp only[KZ] at h;obtain⟨n,h1,b,h2,h3⟩:=h;cases h3;obtain⟨e1,b1⟩:=Zdx h1;obtain⟨e2,b2⟩:=ZjX.1 h2;exact⟨by rw[hw,e1,e2];rfl,b1,b2⟩
     ·cases h
    ·simp only[KZ] at h;obtain⟨ns,h1,h2⟩:=h;obtain⟨e1,b1⟩:=ZgY h1;unfold Zfx at h2;split at h2
     ·split at h2
      ·rename_i hw;cases h2;exact⟨by rw[hw,e1];rfl,b1 _ (by simp)⟩
      ·cases h2
     ·split at h2
      ·rename_i hw;cases h2;exact⟨by rw[hw,e1];rfl,b1 _ (by simp),b1 _ (by simp),b1 _ (by simp)⟩
      ·cases h2
     ·split at h2
      ·rename_i hw;cases h2;exact⟨by rw[hw,e1];rfl,b1 _ (by simp),b1 _ (by simp),b1 _ (by simp),b1 _ (by simp),b1 _ (by simp)⟩
      ·cases h2
     ·cases h2
theorem Zqn {v:Ev} (h:v.ok):W5 v.words=some v:=by
 have d1:¬ZaO=JS:=by decide
 have d2:¬ZaO=JT:=by decide
 have d3:¬ZaO=ZjW:=by decide
 have d4:¬Zdu=JS:=by decide
 have d5:¬Zdu=JT:=by decide
 have d6:¬Zdu=ZjW:=by decide
 have d7:¬ZaP=JS:=by decide
 have d8:¬ZaP=JT:=by decide
 have d9:¬ZaP=ZjW:=by decide
 have aa:¬ZjW=JS:=by decide
 have ab:¬ZjW=JT:=by decide
 have ad:¬JT=JS:=by decide
 cases v with
 | sheet l w h' =>
  obtain⟨h1,h2,h3⟩:=h;have e:=Zfw (ns:=[l,w,h']) (by simp;omega);simp only[Kj,Ku] at e;simp only[Ev.words,W5,Kd d1,Kd d2,Kd d3,e,KI,Zfx,Km]
 | flaw l x y w h' =>
  obtain⟨h1,h2,h3,h4,h5⟩:=h;have e:=Zfw (ns:=[l,x,y,w,h']) (by simp;omega);simp only[Kj,Ku] at e;simp only[Ev.words,W5,Kd d4,Kd d5,Kd d6,e,KI,Zfx,Km]
 | order n=>simp only[Ev.words,W5,Km,ZoU (l:=n) h,KI]
 | brk n=>simp only[Ev.words,W5,Kd ad,Km,ZoU (l:=n) h,KI]
 | cut l b=>
  obtain⟨h1,h2⟩:=h;simp only[Ev.words,W5,Kd aa,Kd ab,Km,ZxP,Zha h1,ZjX.2 ⟨rfl,h2⟩,KI]
 | scrap l=>
  have h1:l≤999999:=h;have e:=Zfw (ns:=[l]) (by simp;omega);simp only[Kj,Ku] at e;simp only[Ev.words,W5,Kd d7,Kd d8,Kd d9,e,KI,Zfx,Km]
theorem Ztt {c:UInt8} (hd:isD c=false) (h:c≠119∧c≠112∧c≠116∧c≠100∧c≠97∧c≠40∧c≠44∧c≠41):∀ b:BT,c∉shw b
 | .waste=>by simp[shw,h]
 | .pane i t=>by
  simp only[shw,Kf,not_or];exact⟨by cases t<;>simp[h],ZdR hd _⟩
 | .cut d a l r=>by
  simp only[shw,Kf,Kg,not_or,Ky,not_false_eq_true,and_true];exact⟨by cases d<;>simp[h],ZdR hd _,h.2.2.2.2.2.1,Ztt hd h l,h.2.2.2.2.2.2.1,Ztt hd h r,h.2.2.2.2.2.2.2⟩
theorem ZBr (v:Ev):∀ w∈v.words,(32:UInt8)∉w:=by
 intro w hw;cases v with
 | order n=>
  rcases Kf.1 hw with rfl | hw
  ·decide
  ·exact ZoT n w hw
 | brk n=>
  rcases Kf.1 hw with rfl | hw
  ·decide
  ·exact ZoT n w hw
 | cut l b=>
  simp only[Ev.words,Kf,Ky,or_false] at hw;rcases hw with rfl | rfl | rfl
  ·decide
  ·exact ZdR rfl _
  ·exact Ztt rfl (by decide) b
 | sheet l a b=>
  simp only[Ev.words,Kf,Ky,or_false] at hw;rcases hw with rfl | rfl | rfl | rfl<;>first | decide | exact ZdR rfl _
 | flaw l x y a b=>
  simp only[Ev.words,Kf,Ky,or_false] at hw;rcases hw with rfl | rfl | rfl | rfl | rfl | rfl<;>first | decide | exact ZdR rfl _
 | scrap l=>
  simp only[Ev.words,Kf,Ky,or_false] at hw;rcases hw with rfl | rfl<;>first | decide | exact ZdR rfl _
def ZwQ (s:List UInt8):Option Ev:=W5 (Qn 32 s)
theorem ZAd (v:Ev):v.words≠[]:=by cases v<;>simp[Ev.words]
theorem Zsj {s:List UInt8} {v:Ev}:ZwQ s=some v↔s=v.text∧v.ok:=by
 unfold ZwQ;constructor
 ·intro h;obtain⟨h1,h2⟩:=Zts h;exact⟨by rw[Ev.text,← h1,Zpu],h2⟩
 ·rintro ⟨rfl,h⟩
  rw[Ev.text,Zpv (ZAd v) (ZBr v),Zqn h]
theorem Zk5 (c:UInt8) (m:Nat):∀ ws:List (List UInt8),(∀ w∈ws,w.length≤m)→(VA c ws).length≤ws.length*(m+1)
 | [],_=>by simp[VA]
 | [x],h=>by have:=h x (by simp);simp[VA];omega
 | x :: y :: r,h=>by
  have ih:=Zk5 c m (y :: r) (fun w hw=>h w (by simp[hw]));have hx:=h x (by simp);simp only[VA,Kt,Ks] at ih ⊢;rw[KE _ 1];omega
theorem Zu9 (n:Int) (h:six n):(num n.toNat).length≤6:=Za8 5 n.toNat (by have:=h.1;have:=h.2;omega)
theorem W6 (w:List UInt8) (ns:List Int) (hl:ns.length≤10) (h6:∀ n∈ns,six n) (hw:w.length≤10):Ze Xs Ms Xj [.d (.str w),.d (.sl (ns.map Ys))] []=some (.d (.str (VA 32 (w :: ns.map fun n=>num n.toNat))),[]):=by
 have ae:(VA 32 (w :: ns.map fun n=>num n.toNat)).length≤1000:=by
  have:=Zk5 32 10 (w :: ns.map fun n=>num n.toNat) (by
   intro x hx;rcases Kf.1 hx with rfl | hx
   ·exact hw
   ·obtain⟨n,hn,rfl⟩:=K5.1 hx;have:=Zu9 n (h6 n hn);omega)
  simp only[Ks,KL] at this;omega
 have hj:=Zf5 (w :: ns.map fun n=>num n.toNat) 32 (by simp) (by simp;omega) (by omega);simp only[Kj] at hj;refine cE ?_;simp +contextual -implicitDefEqProofs (maxSteps:=10^7) only[go_sem,seval,↓gZ,ZbL];refine LO (α:=Nat) (fun k=>[(12,.d (J (k:Int)))]) (fun k=>[(0,.row 1 ((w :: (ns.take k).map fun n=>num n.toNat).map .str) true false)]) (fun k=>k≤ns.length) (fun k=>ns.length-k) 0 (by simp) ?_;intro k hk ih;by_cases ad:k<ns.length
 ·obtain⟨x,hx⟩:=Zr ad;have ab : (k:Int)<(ns.length:Int):=by omega
  have af:=Zj (k:=k) (by omega);have hs:=h6 x (Kc hx);have e1:=X2 x hs.1 (by have:=hs.2;omega);have aa:((ns.take k).length+1+1)*16≤140737488355328∧(ns.take k).length≤140737488355326:=by simp;omega
  have ht:ns.take (k+1)=ns.take k++[x]:=by rw[KU,hx];rfl
  simp +contextual -implicitDefEqProofs (maxSteps:=10^7) only[go_sem,seval,↓gZ,ab,ad,hx,af,e1,aa,Ys];refine ih (k+1) _ (by omega) (by omega) ?_;simp +contextual -implicitDefEqProofs (maxSteps:=10^7) only[go_sem,seval,↓gZ,ht,K9,Kj,Ku,KF]
 ·have:k=ns.length:=by omega
  subst this;simp +contextual -implicitDefEqProofs (maxSteps:=10^7) only[go_sem,seval,↓gZ,La,hj]
def ZcQ (e:Zz):List Int:=[e.kind,e.label,e.box.X,e.box.Y,e.box.W,e.box.H,e.line.Pane.W,e.line.Pane.H,e.line.Pane.Kind,e.line.Count]
theorem Zqo (eK eL eX eY eW eH ae af:Int) (ai:Bool) (ag eC eo ea ep:Int) (et:Bool) (ek:List Zf):Ze Xs Ms J1 [(.d (.agg [J eK,J eL,J eX,J eY,J eW,J eH,J ae,J af,.bool ai,J ag,J eC,J eo,J ea,J ep,.bool et,.sl (ek.map Zf.enc)]))] []=some ((.d (.bool (decide (∀ n∈ZcQ (Zz.mk eK eL (Box.mk eX eY eW eH) (Zc.mk (Pane.mk ae af ai ag) eC) (Zf.mk eo ea ep et ek)),six n)))),[]):=by
 obtain⟨xs,aj⟩:∃ xs,xs=ZcQ (Zz.mk eK eL (Box.mk eX eY eW eH) (Zc.mk (Pane.mk ae af ai ag) eC) (Zf.mk eo ea ep et ek)):=⟨_,rfl⟩
 have ab:xs.length=10:=by rw[aj];rfl
 rw[← aj];refine cE ?_;simp +contextual -implicitDefEqProofs (maxSteps:=10^7) only[go_sem,seval,↓gZ,ZfG];have ak:([J eK,J eL,J eX,J eY,J eW,J eH,J ae,J af,J ag,J eC]:List D)=xs.map Ys:=by rw[aj];rfl
 rw[ak];refine LO (α:=Nat) (fun k=>[(38,.d (J (k:Int)))]) (fun _=>[]) (fun k=>k≤10∧∀ n∈xs.take k,six n) (fun k=>10-k) 0 (by simp) ?_;intro k ⟨hk,hp⟩ ih;by_cases ah:k<xs.length
 ·obtain⟨x,hx⟩:=Zr ah;have ad : (k:Int)<10:=by omega
  have aa:k<10:=by omega
  have al:=Zj (k:=k) (by omega);by_cases hs:six x
  ·have n1:¬x<0:=by have:=hs.1;omega
   have n2:¬999999<x:=by have:=hs.2;omega
   simp +contextual -implicitDefEqProofs (maxSteps:=10^7) only[go_sem,seval,↓gZ,ad,ah,aa,hx,al,Ys,n1,n2,ab];refine ih (k+1) _ ⟨by omega,?_⟩ (by omega) ?_
   ·intro n hn;rw[KU,hx] at hn;rcases Kg.1 hn with hn | hn
    ·exact hp n hn
    ·simp only[L6,KA] at hn;rw[hn];exact hs
   ·simp +contextual -implicitDefEqProofs (maxSteps:=10^7) only[go_sem,seval,↓gZ]
  ·have an:decide (∀ n∈xs,six n)=false:=Kk fun h=>hs (h x (Kc hx));rw[an];by_cases n1:x<0
   ·simp +contextual -implicitDefEqProofs (maxSteps:=10^7) only[go_sem,seval,↓gZ,ad,ah,aa,hx,al,Ys,n1,ab]
   ·have n2:999999<x:=by
     rcases Int.lt_or_le 999999 x with h | h
     ·exact h
     ·exact absurd ⟨by omega,h⟩ hs
    simp +contextual -implicitDefEqProofs (maxSteps:=10^7) only[go_sem,seval,↓gZ,ad,ah,aa,hx,al,Ys,n1,n2,ab]
 ·have ao:k=10:=by omega
  subst ao;have am:decide (∀ n∈xs,six n)=true:=by
   refine Kh fun n hn=>hp n ?_;rw[KH (by omega)];exact hn
  rw[am];simp +contextual -implicitDefEqProofs (maxSteps:=10^7) only[go_sem,seval,↓gZ,ab]
def ZoW (e:Zz) (b:BT):Option Ev:=
 if e.kind=0 then (if e.box.X=0∧e.box.Y=0 then some (.sheet e.label.toNat e.box.W.toNat e.box.H.toNat) else none)
 else if e.kind=1 then some (.flaw e.label.toNat e.box.X.toNat e.box.Y.toNat e.box.W.toNat e.box.H.toNat)
 else if e.kind=2 then some (.order e.line)
 else if e.kind=3 then some (.cut e.label.toNat b)
 else if e.kind=4 then some (.brk e.line)
 else if e.kind=5 then some (.scrap e.label.toNat)
 else none
def ZiV (e:Zz):Option Ev:=if ∀ n∈ZcQ e,six n then
  match Q6 e.plan with
  | some b=>if Ztq b then ZoW e b else none
  | none=>none
 else none
def fmtE (e:Zz):List UInt8:=match ZiV e with
 | some v=>v.text
 | none=>[]
theorem Zcj {e:Zz} (h:ZiV e=none):fmtE e=[]:=by unfold fmtE;rw[h]
theorem ZaQ {e:Zz} {v:Ev} (h:ZiV e=some v):fmtE e=v.text:=by unfold fmtE;rw[h]
theorem ZoX {e:Zz} (h:¬∀ n∈ZcQ e,six n):ZiV e=none:=by unfold ZiV;rw[Kd h]
theorem ZjY {e:Zz} (h:∀ b,Q6 e.plan=some b→¬Ztq b):ZiV e=none:=by
 unfold ZiV;split
 ·cases hb:Q6 e.plan with
  | none=>rfl
  | some b=>simp only;rw[Kd (h b hb)]
 ·rfl
theorem Zk6 {e:Zz} {b:BT} (h:∀ n∈ZcQ e,six n) (hb:Q6 e.plan=some b) (hp:Ztq b):ZiV e=ZoW e b:=by
 unfold ZiV;rw[Ki h,hb];simp only;rw[Ki hp]
theorem Zk7 (eK eL eX eY eW eH ab ad:Int) (ae:Bool) (af eC eo ea ep:Int) (et:Bool) (ek:List Zf):Ze Xs Ms Yw [(.d (.agg [J eK,J eL,J eX,J eY,J eW,J eH,J ab,J ad,.bool ae,J af,J eC,J eo,J ea,J ep,.bool et,.sl (ek.map Zf.enc)]))] []=some (.d (.str (fmtE (Zz.mk eK eL (Box.mk eX eY eW eH) (Zc.mk (Pane.mk ab ad ae af) eC) (Zf.mk eo ea ep et ek)))),[]):=by
 have e1:=ZmO (.mk eo ea ep et ek);rw[Zf.enc_mk] at e1;have e2:=Zqo eK eL eX eY eW eH ab ad ae af eC eo ea ep et ek;by_cases hw:∀ n∈ZcQ (Zz.mk eK eL (Box.mk eX eY eW eH) (Zc.mk (Pane.mk ab ad ae af) eC) (Zf.mk eo ea ep et ek)),six n
 ·rw[Kh hw] at e2;rcases ZwN (.mk eo ea ep et ek) with hf | ⟨b,hb,am,an,hf⟩
  ·rw[hf] at e1;have ai:ZiV (Zz.mk eK eL (Box.mk eX eY eW eH) (Zc.mk (Pane.mk ab ad ae af) eC) (Zf.mk eo ea ep et ek))=none:=by
    refine ZjY fun b hb hp=>?_;have:=Zlr hb;rw[hf,Ki ⟨hp.1,hp.2.1⟩] at this;cases b<;>cases this
   rw[Zcj ai];refine cE ?_;simp +contextual -implicitDefEqProofs (maxSteps:=10^7) only[go_sem,seval,↓gZ,Z1,e1,e2]
  ·rw[hf] at e1;have aa:(shw b==[])=false:=by cases b<;>rfl
   have aj:Q6 (.mk eo ea ep et ek)=some b:=by rw[hb];exact ZhB b
   by_cases hl:(shw b).length≤1600
   ·have ag : ¬(1600:Int)<((shw b).length:Int):=by omega
    have hk:=Zk6 (e:=(Zz.mk eK eL (Box.mk eX eY eW eH) (Zc.mk (Pane.mk ab ad ae af) eC) (Zf.mk eo ea ep et ek))) hw aj ⟨am,an,hl⟩;simp only[ZcQ,Kf,Ky,or_false,forall_eq_or_imp,forall_eq] at hw;obtain⟨n1,n2,n3,n4,n5,n6,n7,n8,n9,ao⟩:=hw;simp only[ZoW] at hk;by_cases k0:eK=0
    ·rw[Ki k0] at hk;by_cases ah:eX=0∧eY=0
     ·rw[Ki ah] at hk;rw[ZaQ hk];obtain⟨hx,hy⟩:=ah;subst k0 hx hy;have e3:=W6 ZaO [eL,eW,eH] (by simp) (by simp[n2,n5,n6]) (by decide);simp only[Kj,Ku,Ys,ZaO] at e3;simp only[Ev.text,Ev.words,ZaO];refine cE ?_;simp +contextual -implicitDefEqProofs (maxSteps:=10^7) only[go_sem,seval,↓gZ,Z1,e1,e2,aa,ag,e3]
     ·rw[Kd ah] at hk;rw[Zcj hk];by_cases hx:eX=0
      ·have hy:¬eY=0:=fun h=>ah ⟨hx,h⟩;subst k0 hx;refine cE ?_;simp +contextual -implicitDefEqProofs (maxSteps:=10^7) only[go_sem,seval,↓gZ,Z1,e1,e2,aa,ag,hy]
      ·subst k0;refine cE ?_;simp +contextual -implicitDefEqProofs (maxSteps:=10^7) only[go_sem,seval,↓gZ,Z1,e1,e2,aa,ag,hx]
    rw[Kd k0] at hk;by_cases k1:eK=1
    ·rw[Ki k1] at hk;rw[ZaQ hk];subst k1;have e3:=W6 Zdu [eL,eX,eY,eW,eH] (by simp) (by simp[n2,n3,n4,n5,n6]) (by decide);simp only[Kj,Ku,Ys,Zdu] at e3;simp only[Ev.text,Ev.words,Zdu];refine cE ?_;simp +contextual -implicitDefEqProofs (maxSteps:=10^7) only[go_sem,seval,↓gZ,Z1,e1,e2,aa,ag,e3]
    rw[Kd k1] at hk;have ak:Ztp ⟨⟨ab,ad,ae,af⟩,eC⟩:=⟨ao,n7,n8,n9⟩
    have e4:=Zqm ab ad ae af eC ak;have ap:=Zma ⟨⟨ab,ad,ae,af⟩,eC⟩ ak;have bl:6+(Zk1 ⟨⟨ab,ad,ae,af⟩,eC⟩).length≤1152921504606846976:=by unfold Zk1;omega
    by_cases k2:eK=2
    ·rw[Ki k2] at hk;rw[ZaQ hk];subst k2;have ht:Ev.text (.order ⟨⟨ab,ad,ae,af⟩,eC⟩)=[111,114,100,101,114,32]++Zk1 ⟨⟨ab,ad,ae,af⟩,eC⟩:=rfl;rw[ht];refine cE ?_;simp +contextual -implicitDefEqProofs (maxSteps:=10^7) only[go_sem,seval,↓gZ,Z1,e1,e2,aa,ag,e4,bl]
    rw[Kd k2] at hk;by_cases k3:eK=3
    ·rw[Ki k3] at hk;rw[ZaQ hk];subst k3;have e3:=W6 ZjW [eL] (by simp) (by simp[n2]) (by decide);simp only[Kj,Ku,Ys,ZjW] at e3;have aq:=Zu9 eL n2;have ht:Ev.text (.cut eL.toNat b)=VA 32 [[99,117,116],num eL.toNat]++[32]++shw b:=by simp[Ev.text,Ev.words,VA,ZjW]
     have ar:(VA 32 [[99,117,116],num eL.toNat]).length≤20:=by simp[VA];omega
     rw[ht];generalize VA 32 [[99,117,116],num eL.toNat]=jt at *;have b1:jt.length+1≤1152921504606846976:=by omega
     have b2:jt.length+1+(shw b).length≤1152921504606846976:=by omega
     refine cE ?_;simp +contextual -implicitDefEqProofs (maxSteps:=10^7) only[go_sem,seval,↓gZ,Z1,e1,e2,aa,ag,e3,b1,b2]
    rw[Kd k3] at hk;by_cases k4:eK=4
    ·rw[Ki k4] at hk;rw[ZaQ hk];subst k4;have ht:Ev.text (.brk ⟨⟨ab,ad,ae,af⟩,eC⟩)=[98,114,101,97,107,32]++Zk1 ⟨⟨ab,ad,ae,af⟩,eC⟩:=rfl;rw[ht];refine cE ?_;simp +contextual -implicitDefEqProofs (maxSteps:=10^7) only[go_sem,seval,↓gZ,Z1,e1,e2,aa,ag,e4,bl]
    rw[Kd k4] at hk;by_cases k5:eK=5
    ·rw[Ki k5] at hk;rw[ZaQ hk];subst k5;have e3:=W6 ZaP [eL] (by simp) (by simp[n2]) (by decide);simp only[Kj,Ku,Ys,ZaP] at e3;simp only[Ev.text,Ev.words,ZaP];refine cE ?_;simp +contextual -implicitDefEqProofs (maxSteps:=10^7) only[go_sem,seval,↓gZ,Z1,e1,e2,aa,ag,e3]
    ·rw[Kd k5] at hk;rw[Zcj hk];refine cE ?_;simp +contextual -implicitDefEqProofs (maxSteps:=10^7) only[go_sem,seval,↓gZ,Z1,e1,e2,aa,ag,k0,k1,k2,k3,k4,k5]
   ·have ag : (1600:Int)<((shw b).length:Int):=by omega
    have ai:ZiV (Zz.mk eK eL (Box.mk eX eY eW eH) (Zc.mk (Pane.mk ab ad ae af) eC) (Zf.mk eo ea ep et ek))=none:=by
     refine ZjY fun b' al hp=>?_;rw[show Q6 (Zz.plan (Zz.mk eK eL (Box.mk eX eY eW eH) (Zc.mk (Pane.mk ab ad ae af) eC) (Zf.mk eo ea ep et ek)))=Q6 (.mk eo ea ep et ek) from rfl,aj] at al;cases al;exact hl hp.2.2
    rw[Zcj ai];refine cE ?_;simp +contextual -implicitDefEqProofs (maxSteps:=10^7) only[go_sem,seval,↓gZ,Z1,e1,e2,aa,ag]
 ·rw[Kk hw] at e2;rw[Zcj (ZoX hw)];refine cE ?_;simp +contextual -implicitDefEqProofs (maxSteps:=10^7) only[go_sem,seval,↓gZ,Z1,e1,e2]
def evZ:Zz:=⟨0,0,bx0,ln0,BT.waste.plan⟩
def evM (m:Option Ev):Zz:=match m with
 | some v=>v.ev
 | none=>evZ
def PeR (res:Option (AV×List Zl)) (m:Option Ev):Prop:=∃ (K L X Y W H pW pH:Int) (pT:Bool) (pK C o a q:Int) (t:Bool) (ks:List Zf),
 res=some (.tup [.agg [(.d (J K)),(.d (J L)),(.d (J X)),(.d (J Y)),(.d (J W)),(.d (J H)),(.d (J pW)),(.d (J pH)),(.d (.bool pT)),(.d (J pK)),(.d (J C)),(.d (J o)),(.d (J a)),(.d (J q)),(.d (.bool t)),.own 0],(.d (.bool (m.isSome)))],[.row 5 (ks.map Zf.enc) true false]) ∧
 Zz.mk K L ⟨X,Y,W,H⟩ ⟨⟨pW,pH,pT,pK⟩,C⟩ (.mk o a q t ks)=evM m
theorem ZiW {res:Option (AV×List Zl)} (h:res=some (.tup [.agg [(.d (J 0)),(.d (J 0)),(.d (J 0)),(.d (J 0)),(.d (J 0)),(.d (J 0)),(.d (J 0)),(.d (J 0)),(.d (.bool false)),(.d (J 0)),(.d (J 0)),(.d (J 0)),(.d (J 0)),(.d (J 0)),(.d (.bool false)),.own 0],(.d (.bool false))],[.row 5 [] true false])):PeR res none:=
 ⟨0,0,0,0,0,0,0,0,false,0,0,0,0,0,false,[],h,rfl⟩
def rcM (s:List UInt8):Option Ev:=match XM 32 s with
 | none=>none
 | some i=>(rd (s.take i)).bind fun l=>(ZtK (s.drop (i+1))).bind fun b=>some (.cut l b)
theorem ZAe:ZtK []=none:=rfl
theorem Ztu (s:List UInt8) (hs:s.length≤1000000):PeR (Ze Xs Ms Zbo [.d (.str s)] []) (rcM s):=by
 have e1:=ZgX s 32 hs;unfold rcM;cases hi:XM 32 s with
 | none=>
  rw[hi] at e1;simp only at e1 ⊢;have e2:=U4 s;obtain⟨o,a,q,t,ks,e3,h3⟩:=Zhe [] (by simp);rw[ZAe] at e3;simp only[Lh] at e3;refine ZiW ?_;cases hr:rd s with
  | none=>
   rw[hr] at e2;simp only[ZfD] at e2;refine cE ?_;simp +contextual -implicitDefEqProofs (maxSteps:=10^7) only[go_sem,seval,↓gZ,WW,e1,e2,e3]
  | some v=>
   rw[hr] at e2;simp only[ZfD] at e2;refine cE ?_;simp +contextual -implicitDefEqProofs (maxSteps:=10^7) only[go_sem,seval,↓gZ,WW,e1,e2,e3]
 | some i=>
  rw[hi] at e1;simp only at e1 ⊢;have e2:=U4 (s.take i);obtain⟨o,a,q,t,ks,e3,h3⟩:=Zhe (s.drop (i+1)) (by simp;omega);cases hr:rd (s.take i) with
  | none=>
   rw[hr] at e2;simp only[ZfD] at e2;refine ZiW ?_;refine cE ?_;simp +contextual -implicitDefEqProofs (maxSteps:=10^7) only[go_sem,seval,↓gZ,WW,e1,e2,e3]
  | some v=>
   rw[hr] at e2;simp only[ZfD] at e2;cases hp:ZtK (s.drop (i+1)) with
   | none=>
    rw[hp] at e3;simp only[Lh] at e3;refine ZiW ?_;refine cE ?_;simp +contextual -implicitDefEqProofs (maxSteps:=10^7) only[go_sem,seval,↓gZ,WW,e1,e2,e3]
   | some b=>
    rw[hp] at e3 h3;simp only[Lx] at e3;refine⟨3,v,0,0,0,0,0,0,false,0,0,o,a,q,t,ks,?_,?_⟩
    ·refine cE ?_;simp +contextual -implicitDefEqProofs (maxSteps:=10^7) only[go_sem,seval,↓gZ,WW,e1,e2,e3]
     all_goals rfl
    ·rw[h3];rfl
theorem ZjZ (w:List UInt8) (vs:List Nat) (hl:vs.length≤2000000):PeR (Ze Xs Ms Vj [.d (.str w),.d (.sl ((vs.map fun n:Nat=>(n:Int)).map Ys))] []) (Zfx w vs):=by
 by_cases h3:w=ZaO∧vs.length=3
 ·obtain⟨rfl,h⟩:=h3;obtain⟨a,b,c,rfl⟩:∃ a b c,vs=[a,b,c]:=by
   match vs,h with
   | [a,b,c],_=>exact⟨a,b,c,rfl⟩
  refine⟨0,a,0,0,b,c,0,0,false,0,0,0,0,0,false,[],?_,rfl⟩;simp only[Kj,Ku,Ys,ZaO];refine cE ?_;simp +contextual -implicitDefEqProofs (maxSteps:=10^7) only[go_sem,seval,↓gZ,QI]
  all_goals rfl
 by_cases h5:w=Zdu∧vs.length=5
 ·obtain⟨rfl,h⟩:=h5;obtain⟨a,b,c,d,f,rfl⟩:∃ a b c d f,vs=[a,b,c,d,f]:=by
   match vs,h with
   | [a,b,c,d,f],_=>exact⟨a,b,c,d,f,rfl⟩
  refine⟨1,a,b,c,d,f,0,0,false,0,0,0,0,0,false,[],?_,rfl⟩;have q1:(Zdu==[115,104,101,101,116])=false:=rfl;have q2:(Zdu==[102,108,97,119])=true:=rfl;simp only[Kj,Ku,Ys];refine cE ?_;simp +contextual -implicitDefEqProofs (maxSteps:=10^7) only[go_sem,seval,↓gZ,QI,q1,q2]
  all_goals rfl
 by_cases h1:w=ZaP∧vs.length=1
 ·obtain⟨rfl,h⟩:=h1;obtain⟨a,rfl⟩:∃ a,vs=[a]:=by
   match vs,h with
   | [a],_=>exact⟨a,rfl⟩
  refine⟨5,a,0,0,0,0,0,0,false,0,0,0,0,0,false,[],?_,rfl⟩;have q1:(ZaP==[115,104,101,101,116])=false:=rfl;have q2:(ZaP==[102,108,97,119])=false:=rfl;have q3:(ZaP==[115,99,114,97,112])=true:=rfl;simp only[Kj,Ku,Ys];refine cE ?_;simp +contextual -implicitDefEqProofs (maxSteps:=10^7) only[go_sem,seval,↓gZ,QI,q1,q2,q3]
  all_goals rfl
 ·have aa:Zfx w vs=none:=by
   unfold Zfx;split
   ·rw[Kd (fun e=>h1 ⟨e,rfl⟩)]
   ·rw[Kd (fun e=>h3 ⟨e,rfl⟩)]
   ·rw[Kd (fun e=>h5 ⟨e,rfl⟩)]
   ·rfl
  rw[aa];refine ZiW ?_;have p1:(w==[115,104,101,101,116])=true→¬(vs.length:Int)=3:=fun h e=>h3 ⟨by simpa [ZaO] using h,by omega⟩;have p2:(w==[102,108,97,119])=true→¬(vs.length:Int)=5:=fun h e=>h5 ⟨by simpa [Zdu] using h,by omega⟩;have p3:(w==[115,99,114,97,112])=true→¬(vs.length:Int)=1:=fun h e=>h1 ⟨by simpa [ZaP] using h,by omega⟩;cases q1:(w==[115,104,101,101,116]) with
  | true=>
   have e:w=ZaO:=by simpa [ZaO] using q1
   have q2:(w==[102,108,97,119])=false:=by rw[e];rfl
   have q3:(w==[115,99,114,97,112])=false:=by rw[e];rfl
   have p1:=p1 q1;refine cE ?_;simp +contextual -implicitDefEqProofs (maxSteps:=10^7) only[go_sem,seval,↓gZ,QI,q1,q2,q3,p1,KL]
  | false=>
   cases q2:(w==[102,108,97,119]) with
   | true=>
    have e:w=Zdu:=by simpa [Zdu] using q2
    have q3:(w==[115,99,114,97,112])=false:=by rw[e];rfl
    have p2:=p2 q2;refine cE ?_;simp +contextual -implicitDefEqProofs (maxSteps:=10^7) only[go_sem,seval,↓gZ,QI,q1,q2,q3,p2,KL]
   | false=>
    cases q3:(w==[115,99,114,97,112]) with
    | true=>
     have p3:=p3 q3;refine cE ?_;simp +contextual -implicitDefEqProofs (maxSteps:=10^7) only[go_sem,seval,↓gZ,QI,q1,q2,q3,p3,KL]
    | false=>
     refine cE ?_;simp +contextual -implicitDefEqProofs (maxSteps:=10^7) only[go_sem,seval,↓gZ,QI,q1,q2,q3]
theorem ZoY:∀ ws:List (List UInt8),ZbW ws=(ZbG ws).map fun ns=>ns.map fun n:Nat=>(n:Int)
 | []=>rfl
 | w :: r=>by
  simp only[ZbW,ZbG,ZoY r];cases rd w with
  | none=>rfl
  | some v=>cases ZbG r<;>rfl
theorem Zva (s:List UInt8):ZxP (Qn 32 s)=rcM s:=by
 rw[ZhV];unfold rcM;cases hi:XM 32 s with
 | none=>rfl
 | some i=>
  simp only;rw[ZhV 32 (s.drop (i+1))];cases hj:XM 32 (s.drop (i+1)) with
  | none=>rfl
  | some j=>
   simp only;have aa:ZtK (s.drop (i+1))=none:=by
    cases hp:ZtK (s.drop (i+1)) with
    | none=>rfl
    | some b=>
     obtain⟨_,h2,_⟩:=ZyZ.1 hp;obtain⟨h3,_⟩:=ZeT hj;have h4:(32:UInt8)∉shw b:=Ztt rfl (by decide) b;rw[← h2] at h4;exact absurd (by rw[h3];simp) h4
   rw[aa];have ab:=ZhU 32 ((s.drop (i+1)).drop (j+1));cases hs:Qn 32 ((s.drop (i+1)).drop (j+1)) with
   | nil=>exact absurd hs ab
   | cons x r=>cases rd (s.take i)<;>rfl
def ZoZ (w rest:List UInt8):Option Ev:=if w=JS then (Zgh (Qn 32 rest)).bind fun n=>some (.order n)
 else if w=JT then (Zgh (Qn 32 rest)).bind fun n=>some (.brk n)
 else if w=ZjW then rcM rest else (ZbG (Qn 32 rest)).bind (Zfx w)
theorem ZAf (s:List UInt8):ZwQ s=match XM 32 s with
  | none=>ZoZ s []
  | some i=>ZoZ (s.take i) (s.drop (i+1)):=by
 unfold ZwQ ZoZ;rw[ZhV];cases hi:XM 32 s with
 | none=>
  simp only[W5];by_cases h1:s=JS
  ·rw[Ki h1,Ki h1];rfl
  rw[Kd h1,Kd h1];by_cases h2:s=JT
  ·rw[Ki h2,Ki h2];rfl
  rw[Kd h2,Kd h2];by_cases h3:s=ZjW
  ·rw[Ki h3,Ki h3];rfl
  rw[Kd h3,Kd h3];rfl
 | some i=>
  simp only[W5,Zva]
theorem Zf6 (s:List UInt8) (hs:s.length≤1000000):PeR (Ze Xs Ms Vh [.d (.str s)] []) (ZwQ s):=by
 have e1:=ZgX s 32 hs;have ab:∀ (w aa:List UInt8) (f:Bool),aa.length≤s.length→Ze Xs Ms YR [.d (.str s),.d (.str [32])] []=some (.tup [.d (.str w),.d (.str aa),(.d (.bool f))],[])→PeR (Ze Xs Ms Vh [.d (.str s)] []) (ZoZ w aa):=by
  intro w aa f hr e1;have e2:=Zql aa (by omega);unfold ZoZ;by_cases h1:w=JS∨w=JT
  ·rcases h1 with rfl | rfl
   ·rw[Ki rfl];have q1:(JS==[111,114,100,101,114])=true:=rfl;have q2:(JS==[98,114,101,97,107])=false:=rfl;cases hl:Zgh (Qn 32 aa) with
    | none=>
     rw[hl] at e2;simp only[rlV] at e2;refine ZiW ?_;refine cE ?_;simp +contextual -implicitDefEqProofs (maxSteps:=10^7) only[go_sem,seval,↓gZ,Xd,e1,q1,q2,e2]
    | some l=>
     obtain⟨⟨W,H,T,K⟩,C⟩:=l;rw[hl] at e2;simp only[rlV,Zc.enc] at e2;refine⟨2,0,0,0,0,0,W,H,T,K,C,0,0,0,false,[],?_,rfl⟩;refine cE ?_;simp +contextual -implicitDefEqProofs (maxSteps:=10^7) only[go_sem,seval,↓gZ,Xd,e1,q1,q2,e2]
     all_goals rfl
   ·rw[Kd (by decide),Ki rfl];have q1:(JT==[111,114,100,101,114])=false:=rfl;have q2:(JT==[98,114,101,97,107])=true:=rfl;cases hl:Zgh (Qn 32 aa) with
    | none=>
     rw[hl] at e2;simp only[rlV] at e2;refine ZiW ?_;refine cE ?_;simp +contextual -implicitDefEqProofs (maxSteps:=10^7) only[go_sem,seval,↓gZ,Xd,e1,q1,q2,e2]
    | some l=>
     obtain⟨⟨W,H,T,K⟩,C⟩:=l;rw[hl] at e2;simp only[rlV,Zc.enc] at e2;refine⟨4,0,0,0,0,0,W,H,T,K,C,0,0,0,false,[],?_,rfl⟩;refine cE ?_;simp +contextual -implicitDefEqProofs (maxSteps:=10^7) only[go_sem,seval,↓gZ,Xd,e1,q1,q2,e2]
     all_goals rfl
  have n1:¬w=JS:=fun h=>h1 (.inl h);have n2:¬w=JT:=fun h=>h1 (.inr h);have q1:(w==[111,114,100,101,114])=false:=by simpa [JS] using n1
  have q2:(w==[98,114,101,97,107])=false:=by simpa [JT] using n2
  rw[Kd n1,Kd n2];by_cases h3:w=ZjW
  ·rw[Ki h3];have q3:(w==[99,117,116])=true:=by rw[h3];rfl
   obtain⟨K,L,X,Y,W,H,pW,pH,pT,pK,C,o,a,q,t,ks,e3,h⟩:=Ztu aa (by omega);refine⟨K,L,X,Y,W,H,pW,pH,pT,pK,C,o,a,q,t,ks,?_,h⟩;refine cE ?_;simp +contextual -implicitDefEqProofs (maxSteps:=10^7) only[go_sem,seval,↓gZ,Xd,e1,q1,q2,q3,e3]
  ·rw[Kd h3];have q3:(w==[99,117,116])=false:=by simpa [ZjW] using h3
   have e3:=ZeJ aa 32 (by omega);have hc:(Qn 32 aa).length≤1000001:=by rw[Zk2];have:aa.count 32≤aa.length:=List.count_le_length;omega
   generalize Qn 32 aa=ws at e3 hc;have e4:=ZeK ws (by omega);have ad:List.take ws.length (List.map D.str ws)=List.map D.str ws:=KH (by simp);rw[ZoY] at e4;cases hn:ZbG ws with
   | none=>
    rw[hn] at e4;simp only[Option.map_none,rnV] at e4;refine ZiW ?_;refine cE ?_;simp +contextual -implicitDefEqProofs (maxSteps:=10^7) only[go_sem,seval,↓gZ,Xd,e1,q1,q2,q3,e3,e4,ad,List.drop_zero]
   | some ns=>
    rw[hn] at e4;simp only[KJ,rnV] at e4;have ae:ns.length≤1000001:=by
     have:=(ZgY hn).1;rw[this,KL] at hc;exact hc
    simp only[KI];obtain⟨K,L,X,Y,W,H,pW,pH,pT,pK,C,o,a,q,t,ks,e5,h⟩:=ZjZ w ns (by omega);refine⟨K,L,X,Y,W,H,pW,pH,pT,pK,C,o,a,q,t,ks,?_,h⟩;refine cE ?_;simp +contextual -implicitDefEqProofs (maxSteps:=10^7) only[go_sem,seval,↓gZ,Xd,e1,q1,q2,q3,e3,e4,ad,List.drop_zero,e5]
 rw[ZAf];cases hi:XM 32 s with
 | none=>
  rw[hi] at e1;exact ab _ _ _ (by simp) e1
 | some i=>
  rw[hi] at e1;exact ab _ _ _ (by simp) e1
end Go.Proofs.YtcefneehgbiebaaGreatDoor
