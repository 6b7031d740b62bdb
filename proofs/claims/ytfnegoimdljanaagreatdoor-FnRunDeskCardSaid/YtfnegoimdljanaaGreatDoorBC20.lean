import Derived.Test.YtfnegoimdljanaaGreatDoorBC5
import Derived.Test.YtfnegoimdljanaaGreatDoorBC18
set_option linter.unusedSimpArgs false
set_option linter.unusedVariables false
namespace Go.Proofs.YtfnegoimdljanaaGreatDoor
open Go Go.Abs Go.Abs.E Go.Abs.L
set_option maxRecDepth 20000
set_option maxHeartbeats 4000000
def QP:List UInt8:=[115,104,101,101,116]
def Xq:List UInt8:=[102,108,97,119]
def Yf:List UInt8:=[111,114,100,101,114]
def ZaP:List UInt8:=[99,117,116]
def Yg:List UInt8:=[98,114,101,97,107]
def Xg:List UInt8:=[115,99,114,97,112]
inductive Ev where
 | sheet (l w h:Nat)
 | flaw (l x y w h:Nat)
 | order (n:Zc)
 | cut (l:Nat) (b:BT)
 | brk (n:Zc)
 | scrap (l:Nat)
deriving DecidableEq
def bx0:Box:=⟨0,0,0,0⟩
def ln0:Zc:=⟨⟨0,0,false,0⟩,0⟩
def Ev.ev:Ev→Zl
 | .sheet l w h=>⟨0,l,⟨0,0,w,h⟩,ln0,BT.waste.plan⟩
 | .flaw l x y w h=>⟨1,l,⟨x,y,w,h⟩,ln0,BT.waste.plan⟩
 | .order n=>⟨2,0,bx0,n,BT.waste.plan⟩
 | .cut l b=>⟨3,l,bx0,ln0,b.plan⟩
 | .brk n=>⟨4,0,bx0,n,BT.waste.plan⟩
 | .scrap l=>⟨5,l,bx0,ln0,BT.waste.plan⟩
def Ev.words:Ev→List (List UInt8)
 | .sheet l w h=>[QP,num l,num w,num h]
 | .flaw l x y w h=>[Xq,num l,num x,num y,num w,num h]
 | .order n=>Yf :: Xe n
 | .cut l b=>[ZaP,num l,shw b]
 | .brk n=>Yg :: Xe n
 | .scrap l=>[Xg,num l]
def Ev.text (v:Ev):List UInt8:=Yc 32 v.words
def ZmA (b:BT):Prop:=b.cnt≤255∧YO b=true∧(shw b).length≤1600
instance (b:BT):Decidable (ZmA b):=by unfold ZmA;infer_instance
def Ev.ok:Ev→Prop
 | .sheet l w h=>l≤999999∧w≤999999∧h≤999999
 | .flaw l x y w h=>l≤999999∧x≤999999∧y≤999999∧w≤999999∧h≤999999
 | .order n=>Zsv n
 | .cut l b=>l≤999999∧ZmA b
 | .brk n=>Zsv n
 | .scrap l=>l≤999999
def Zwk (s:List UInt8):Option BT:=if s.length≤1600 then Zn2 s else none
theorem ZmB {s:List UInt8} {b:BT}:Zwk s=some b↔s=shw b∧ZmA b:=by
 unfold Zwk;constructor
 ·intro h;split at h
  ·rename_i hl;obtain⟨h1,h2,h3⟩:=Zh5.1 h;exact⟨h1,h2,h3,h1 ▸ hl⟩
  ·cases h
 ·rintro ⟨rfl,h1,h2,h3⟩
  rw[Kg h3];exact ZCh h1 h2
def Za7:List (List UInt8)→Option (List Nat)
 | []=>some []
 | w :: r=>(rd w).bind fun n=>(Za7 r).bind fun l=>some (n :: l)
theorem Zh9:∀ {ws:List (List UInt8)} {ns:List Nat},Za7 ws=some ns→ws=ns.map num∧∀ n∈ns,n≤999999
 | [],ns,h=>by simp[Za7] at h;subst h;simp
 | w :: r,ns,h=>by
  simp only[Za7,KZ] at h;obtain⟨n,h1,l,h2,h3⟩:=h;cases h3;obtain⟨e1,b1⟩:=Uy h1;obtain⟨e2,b2⟩:=Zh9 h2;refine⟨by rw[e1,e2];rfl,fun x hx=>?_⟩;rcases Ke.1 hx with rfl | hx
  ·exact b1
  ·exact b2 x hx
theorem ZcA:∀ {ns:List Nat},(∀ n∈ns,n≤999999)→Za7 (ns.map num)=some ns
 | [],_=>rfl
 | n :: r,h=>by
  have ih:=ZcA (ns:=r) (fun x hx=>h x (KA _ hx));simp only[Kh,Za7,Zcv (h n (Lm ..)),KS,ih]
def Zgb (w:List UInt8):List Nat→Option Ev
 | [l]=>if w=Xg then some (.scrap l) else none
 | [l,a,b]=>if w=QP then some (.sheet l a b) else none
 | [l,x,y,a,b]=>if w=Xq then some (.flaw l x y a b) else none
 | _=>none
def ZA5:List (List UInt8)→Option Ev
 | [a,p]=>(rd a).bind fun l=>(Zwk p).bind fun b=>some (.cut l b)
 | _=>none
def WS:List (List UInt8)→Option Ev
 | []=>none
 | w :: r=>if w=Yf then (Zfc r).bind fun n=>some (.order n) else if w=Yg then (Zfc r).bind fun n=>some (.brk n) else if w=ZaP then ZA5 r else (Za7 r).bind (Zgb w)
theorem Zwl {ws:List (List UInt8)} {v:Ev} (h:WS ws=some v):ws=v.words∧v.ok:=by
 cases ws with
 | nil=>simp[WS] at h
 | cons w r=>
  simp only[WS] at h;split at h
  ·rename_i hw;simp only[KZ] at h;obtain⟨n,h1,h2⟩:=h;cases h2;obtain⟨e,s⟩:=Zu2 h1;exact⟨by rw[hw,e];rfl,s⟩
  ·split at h
   ·rename_i hw;simp only[KZ] at h;obtain⟨n,h1,h2⟩:=h;cases h2;obtain⟨e,s⟩:=Zu2 h1;exact⟨by rw[hw,e];rfl,s⟩
   ·split at h
    ·rename_i hw;unfold ZA5 at h;split at h
     ·simp only[KZ] at h;obtain⟨n,h1,b,h2,h3⟩:=h;cases h3;obtain⟨e1,b1⟩:=Uy h1;obtain⟨e2,b2⟩:=ZmB.1 h2;exact⟨by rw[hw,e1,e2];rfl,b1,b2⟩
     ·cases h
    ·simp only[KZ] at h;obtain⟨ns,h1,h2⟩:=h;obtain⟨e1,b1⟩:=Zh9 h1;unfold Zgb at h2;split at h2
     ·split at h2
      ·rename_i hw;cases h2;exact⟨by rw[hw,e1];rfl,b1 _ (by simp)⟩
      ·cases h2
     ·split at h2
      ·rename_i hw;cases h2;exact⟨by rw[hw,e1];rfl,b1 _ (by simp),b1 _ (by simp),b1 _ (by simp)⟩
      ·cases h2
     ·split at h2
      ·rename_i hw;cases h2;exact⟨by rw[hw,e1];rfl,b1 _ (by simp),b1 _ (by simp),b1 _ (by simp),b1 _ (by simp),b1 _ (by simp)⟩
      ·cases h2
     ·cases h2
theorem ZtG {v:Ev} (h:v.ok):WS v.words=some v:=by
 have d1:¬QP=Yf:=by decide
 have d2:¬QP=Yg:=by decide
 have d3:¬QP=ZaP:=by decide
 have d4:¬Xq=Yf:=by decide
 have d5:¬Xq=Yg:=by decide
 have d6:¬Xq=ZaP:=by decide
 have d7:¬Xg=Yf:=by decide
 have d8:¬Xg=Yg:=by decide
 have d9:¬Xg=ZaP:=by decide
 have aa:¬ZaP=Yf:=by decide
 have ab:¬ZaP=Yg:=by decide
 have ad:¬Yg=Yf:=by decide
 cases v with
 | sheet l w h' =>
  obtain⟨h1,h2,h3⟩:=h;have e:=ZcA (ns:=[l,w,h']) (by simp;omega);simp only[Kh,Kp] at e;simp only[Ev.words,WS,Kd d1,Kd d2,Kd d3,e,KS,Zgb,Km]
 | flaw l x y w h' =>
  obtain⟨h1,h2,h3,h4,h5⟩:=h;have e:=ZcA (ns:=[l,x,y,w,h']) (by simp;omega);simp only[Kh,Kp] at e;simp only[Ev.words,WS,Kd d4,Kd d5,Kd d6,e,KS,Zgb,Km]
 | order n=>simp only[Ev.words,WS,Km,Zga (l:=n) h,KS]
 | brk n=>simp only[Ev.words,WS,Kd ad,Km,Zga (l:=n) h,KS]
 | cut l b=>
  obtain⟨h1,h2⟩:=h;simp only[Ev.words,WS,Kd aa,Kd ab,Km,ZA5,Zcv h1,ZmB.2 ⟨rfl,h2⟩,KS]
 | scrap l=>
  have h1:l≤999999:=h;have e:=ZcA (ns:=[l]) (by simp;omega);simp only[Kh,Kp] at e;simp only[Ev.words,WS,Kd d7,Kd d8,Kd d9,e,KS,Zgb,Km]
theorem ZsC {c:UInt8} (hd:isD c=false) (h:c≠119∧c≠112∧c≠116∧c≠100∧c≠97∧c≠40∧c≠44∧c≠41):∀ b:BT,c∉shw b
 | .waste=>by simp[shw,h]
 | .pane i t=>by
  simp only[shw,Ke,not_or];exact⟨by cases t<;>simp[h],W8 hd _⟩
 | .cut d a l r=>by
  simp only[shw,Ke,Kj,not_or,Kx,not_false_eq_true,and_true];exact⟨by cases d<;>simp[h],W8 hd _,h.2.2.2.2.2.1,ZsC hd h l,h.2.2.2.2.2.2.1,ZsC hd h r,h.2.2.2.2.2.2.2⟩
theorem ZA6 (v:Ev):∀ w∈v.words,(32:UInt8)∉w:=by
 intro w hw;cases v with
 | order n=>
  rcases Ke.1 hw with rfl | hw
  ·decide
  ·exact Zsx n w hw
 | brk n=>
  rcases Ke.1 hw with rfl | hw
  ·decide
  ·exact Zsx n w hw
 | cut l b=>
  simp only[Ev.words,Ke,Kx,or_false] at hw;rcases hw with rfl | rfl | rfl
  ·decide
  ·exact W8 rfl _
  ·exact ZsC rfl (by decide) b
 | sheet l a b=>
  simp only[Ev.words,Ke,Kx,or_false] at hw;rcases hw with rfl | rfl | rfl | rfl<;>first | decide | exact W8 rfl _
 | flaw l x y a b=>
  simp only[Ev.words,Ke,Kx,or_false] at hw;rcases hw with rfl | rfl | rfl | rfl | rfl | rfl<;>first | decide | exact W8 rfl _
 | scrap l=>
  simp only[Ev.words,Ke,Kx,or_false] at hw;rcases hw with rfl | rfl<;>first | decide | exact W8 rfl _
theorem ZEX (v:Ev):(10:UInt8)∉v.text:=by
 refine Zx4 (by decide) fun w hw=>?_;have ln:∀ n:Zc,∀ w∈Xe n,(10:UInt8)∉w:=by
  intro n w hw;simp only[Xe,Ke,Kx,or_false] at hw;rcases hw with rfl | rfl | rfl | rfl | rfl<;>first | exact W8 rfl _ | exact ZzU _
 cases v with
 | order n=>
  rcases Ke.1 hw with rfl | hw
  ·decide
  ·exact ln n w hw
 | brk n=>
  rcases Ke.1 hw with rfl | hw
  ·decide
  ·exact ln n w hw
 | cut l b=>
  simp only[Ev.words,Ke,Kx,or_false] at hw;rcases hw with rfl | rfl | rfl
  ·decide
  ·exact W8 rfl _
  ·exact ZsC rfl (by decide) b
 | sheet l a b=>
  simp only[Ev.words,Ke,Kx,or_false] at hw;rcases hw with rfl | rfl | rfl | rfl<;>first | decide | exact W8 rfl _
 | flaw l x y a b=>
  simp only[Ev.words,Ke,Kx,or_false] at hw;rcases hw with rfl | rfl | rfl | rfl | rfl | rfl<;>first | decide | exact W8 rfl _
 | scrap l=>
  simp only[Ev.words,Ke,Kx,or_false] at hw;rcases hw with rfl | rfl<;>first | decide | exact W8 rfl _
def Zhl (s:List UInt8):Option Ev:=WS (ZL 32 s)
theorem Zyb (v:Ev):v.words≠[]:=by cases v<;>simp[Ev.words]
theorem ZjB {s:List UInt8} {v:Ev}:Zhl s=some v↔s=v.text∧v.ok:=by
 unfold Zhl;constructor
 ·intro h;obtain⟨h1,h2⟩:=Zwl h;exact⟨by rw[Ev.text,← h1,Zsp],h2⟩
 ·rintro ⟨rfl,h⟩
  rw[Ev.text,Zk0 (Zyb v) (ZA6 v),ZtG h]
def ZsD:Nat→Nat→List UInt8→List Ev
 | 0,_,_=>[]
 | n+1,k,s=>if 40≤k then [] else match Xp 10 s with
  | none=>[]
  | some i=>match Zhl (s.take i) with
   | none=>[]
   | some v=>v :: ZsD n (k+1) (s.drop (i+1))
def Jw (l:List Ev):List UInt8:=QL Ev.text l
theorem Zu5:∀ {n k:Nat} {s:List UInt8},∃ r,s=Jw (ZsD n k s)++r∧(ZsD n k s).length+k≤max k 40∧(∀ v∈ZsD n k s,v.ok)
 | 0,k,s=>⟨s,by simp[ZsD,Jw,QL],by simp[ZsD];omega,by simp[ZsD]⟩
 | n+1,k,s=>by
  rw[ZsD];split
  ·exact⟨s,by simp[Jw,QL],by simp;omega,by simp⟩
  ·split
   ·exact⟨s,by simp[Jw,QL],by simp;omega,by simp⟩
   ·rename_i i hi;split
    ·exact⟨s,by simp[Jw,QL],by simp;omega,by simp⟩
    ·rename_i v hv;obtain⟨h1,h2,h3⟩:=Jv hi;obtain⟨e1,e2⟩:=ZjB.1 hv;obtain⟨r,g1,g2,g3⟩:=Zu5 (n:=n) (k:=k+1) (s:=s.drop (i+1));refine⟨r,?_,by simp only[Kl];omega,fun x hx=>?_⟩
     ·rw[Jw,ZdD,← Jw,KM,KF,← g1,← e1];exact h1
     ·rcases Ke.1 hx with rfl | hx
      ·exact e2
      ·exact g3 x hx
theorem Zn9 (c:UInt8) (m:Nat):∀ ws:List (List UInt8),(∀ w∈ws,w.length≤m)→(Yc c ws).length≤ws.length*(m+1)
 | [],_=>by simp[Yc]
 | [x],h=>by have:=h x (by simp);simp[Yc];omega
 | x :: y :: r,h=>by
  have ih:=Zn9 c m (y :: r) (fun w hw=>h w (by simp[hw]));have hx:=h x (by simp);simp only[Yc,Kq,Kl] at ih ⊢;rw[KU _ 1];omega
theorem ZcB (n:Int) (h:six n):(num n.toNat).length≤6:=Ye 5 n.toNat (by have:=h.1;have:=h.2;omega)
theorem WT (w:List UInt8) (ns:List Int) (hl:ns.length≤10) (h6:∀ n∈ns,six n) (hw:w.length≤10):v_ 44 [.d (.str w),.d (.sl (ns.map XA))] []=some (.d (.str (Yc 32 (w :: ns.map fun n=>num n.toNat))),[]):=by
 have ae:(Yc 32 (w :: ns.map fun n=>num n.toNat)).length≤1000:=by
  have:=Zn9 32 10 (w :: ns.map fun n=>num n.toNat) (by
   intro x hx;rcases Ke.1 hx with rfl | hx
   ·exact hw
   ·obtain⟨n,hn,rfl⟩:=Ll.1 hx;have:=ZcB n (h6 n hn);omega)
  simp only[Kl,KG] at this;omega
 have hj:=Zg5 (w :: ns.map fun n=>num n.toNat) 32 (by simp) (by simp;omega) o_;simp only[Kh] at hj;refine cE ?_;simp (maxSteps:=10^7) +contextual -implicitDefEqProofs only[go_sem,seval,Zhf];refine LO (α:=Nat) (fun k=>[(12,.d (J (k:Int)))]) (fun k=>[(0,.row 1 ((w :: (ns.take k).map fun n=>num n.toNat).map .str) true false)]) (fun k=>k≤ns.length) (fun k=>ns.length-k) 0 (by simp) ?_;intro k hk ih;by_cases ad:k<ns.length
 ·obtain⟨x,hx⟩:=Zn ad;have ab : (k:Int)<(ns.length:Int):=o_
  have af:=Zg (k:=k) o_;have hs:=h6 x (Kb hx);have e1:=Qg x hs.1 (by have:=hs.2;omega);have aa:((ns.take k).length+1+1)*16≤140737488355328∧(ns.take k).length≤140737488355326:=by simp;omega
  have ht:ns.take (k+1)=ns.take k++[x]:=by rw[KB,hx];rfl
  simp +contextual -implicitDefEqProofs only[go_sem,seval,ab,ad,hx,af,e1,aa,XA];refine ih (k+1) _ o_ o_ ?_;simp +contextual -implicitDefEqProofs only[go_sem,seval,ht,KJ,Kh,Kp,KF]
 ·have:k=ns.length:=o_
  subst this;simp +contextual -implicitDefEqProofs only[go_sem,seval,KI,hj]
def Yw (e:Zl):List Int:=[e.kind,e.label,e.box.X,e.box.Y,e.box.W,e.box.H,e.line.Pane.W,e.line.Pane.H,e.line.Pane.Kind,e.line.Count]
theorem ZtH (eK eL eX eY eW eH ae af:Int) (ai:Bool) (ag eC eo ea ep:Int) (et:Bool) (ek:List Ze):v_ 43 [(.d (.agg [J eK,J eL,J eX,J eY,J eW,J eH,J ae,J af,.bool ai,J ag,J eC,J eo,J ea,J ep,.bool et,.sl (ek.map Ze.enc)]))] []=some ((.d (.bool (decide (∀ n∈Yw (Zl.mk eK eL (Box.mk eX eY eW eH) (Zc.mk (Pane.mk ae af ai ag) eC) (Ze.mk eo ea ep et ek)),six n)))),[]):=by
 obtain⟨xs,aj⟩:∃ xs,xs=Yw (Zl.mk eK eL (Box.mk eX eY eW eH) (Zc.mk (Pane.mk ae af ai ag) eC) (Ze.mk eo ea ep et ek)):=⟨_,rfl⟩
 have ab:xs.length=10:=by rw[aj];rfl
 rw[← aj];refine cE ?_;simp (maxSteps:=10^7) +contextual -implicitDefEqProofs only[go_sem,seval,Zm1];have ak:([J eK,J eL,J eX,J eY,J eW,J eH,J ae,J af,J ag,J eC]:List D)=xs.map XA:=by rw[aj];rfl
 rw[ak];refine LO (α:=Nat) (fun k=>[(38,.d (J (k:Int)))]) (fun _=>[]) (fun k=>k≤10∧∀ n∈xs.take k,six n) (fun k=>10-k) 0 (by simp) ?_;intro k ⟨hk,hp⟩ ih;by_cases ah:k<xs.length
 ·obtain⟨x,hx⟩:=Zn ah;have ad : (k:Int)<10:=o_
  have aa:k<10:=o_
  have al:=Zg (k:=k) o_;by_cases hs:six x
  ·have n1:¬x<0:=by have:=hs.1;omega
   have n2:¬999999<x:=by have:=hs.2;omega
   simp +contextual -implicitDefEqProofs only[go_sem,seval,ad,ah,aa,hx,al,XA,n1,n2,ab];refine ih (k+1) _ ⟨o_,?_⟩ o_ ?_
   ·intro n hn;rw[KB,hx] at hn;rcases Kj.1 hn with hn | hn
    ·exact hp n hn
    ·simp only[LS,KD] at hn;rw[hn];exact hs
   ·simp +contextual -implicitDefEqProofs only[go_sem,seval]
  ·have an:decide (∀ n∈xs,six n)=false:=Kk fun h=>hs (h x (Kb hx));rw[an];by_cases n1:x<0
   ·simp +contextual -implicitDefEqProofs only[go_sem,seval,ad,ah,aa,hx,al,XA,n1,ab]
   ·have n2:999999<x:=by
     rcases Int.lt_or_le 999999 x with h | h
     ·exact h
     ·exact absurd ⟨o_,h⟩ hs
    simp +contextual -implicitDefEqProofs only[go_sem,seval,ad,ah,aa,hx,al,XA,n1,n2,ab]
 ·have ao:k=10:=o_
  subst ao;have am:decide (∀ n∈xs,six n)=true:=by
   refine Ki fun n hn=>hp n ?_;rw[KH o_];exact hn
  rw[am];simp +contextual -implicitDefEqProofs only[go_sem,seval,ab]
def Yx (e:Zl) (b:BT):Option Ev:=
 if e.kind=0 then (if e.box.X=0∧e.box.Y=0 then some (.sheet e.label.toNat e.box.W.toNat e.box.H.toNat) else none)
 else if e.kind=1 then some (.flaw e.label.toNat e.box.X.toNat e.box.Y.toNat e.box.W.toNat e.box.H.toNat)
 else if e.kind=2 then some (.order e.line)
 else if e.kind=3 then some (.cut e.label.toNat b)
 else if e.kind=4 then some (.brk e.line)
 else if e.kind=5 then some (.scrap e.label.toNat)
 else none
def Wg (e:Zl):Option Ev:=if ∀ n∈Yw e,six n then
  match QS e.plan with
  | some b=>if ZmA b then Yx e b else none
  | none=>none
 else none
def ZtI (e:Zl):List UInt8:=match Wg e with
 | some v=>v.text
 | none=>[]
theorem Zfg {e:Zl} (h:Wg e=none):ZtI e=[]:=by unfold ZtI;rw[h]
theorem WU {e:Zl} {v:Ev} (h:Wg e=some v):ZtI e=v.text:=by unfold ZtI;rw[h]
theorem Zia {e:Zl} (h:¬∀ n∈Yw e,six n):Wg e=none:=by unfold Wg;rw[Kd h]
theorem ZcC {e:Zl} (h:∀ b,QS e.plan=some b→¬ZmA b):Wg e=none:=by
 unfold Wg;split
 ·cases hb:QS e.plan with
  | none=>rfl
  | some b=>simp only;rw[Kd (h b hb)]
 ·rfl
theorem YG {e:Zl} {b:BT} (h:∀ n∈Yw e,six n) (hb:QS e.plan=some b) (hp:ZmA b):Wg e=Yx e b:=by
 unfold Wg;rw[Kg h,hb];simp only;rw[Kg hp]
theorem Zfh (eK eL eX eY eW eH ab ad:Int) (ae:Bool) (af eC eo ea ep:Int) (et:Bool) (ek:List Ze):v_ 16 [(.d (.agg [J eK,J eL,J eX,J eY,J eW,J eH,J ab,J ad,.bool ae,J af,J eC,J eo,J ea,J ep,.bool et,.sl (ek.map Ze.enc)]))] []=some (.d (.str (ZtI (Zl.mk eK eL (Box.mk eX eY eW eH) (Zc.mk (Pane.mk ab ad ae af) eC) (Ze.mk eo ea ep et ek)))),[]):=by
 have e1:=ZpT (.mk eo ea ep et ek);rw[Ze.enc_mk] at e1;have e2:=ZtH eK eL eX eY eW eH ab ad ae af eC eo ea ep et ek;by_cases hw:∀ n∈Yw (Zl.mk eK eL (Box.mk eX eY eW eH) (Zc.mk (Pane.mk ab ad ae af) eC) (Ze.mk eo ea ep et ek)),six n
 ·rw[Ki hw] at e2;rcases ZzQ (.mk eo ea ep et ek) with hf | ⟨b,hb,hb1,hb2,hf⟩
  ·rw[hf] at e1;have ai:Wg (Zl.mk eK eL (Box.mk eX eY eW eH) (Zc.mk (Pane.mk ab ad ae af) eC) (Ze.mk eo ea ep et ek))=none:=by
    refine ZcC fun b hb hp=>?_;have:=Zn3 hb;rw[hf,Kg ⟨hp.1,hp.2.1⟩] at this;cases b<;>cases this
   rw[Zfg ai];refine cE ?_;simp (maxSteps:=10^7) +contextual -implicitDefEqProofs only[go_sem,seval,Z7,e1,e2]
  ·rw[hf] at e1;have aa:(shw b==[])=false:=by cases b<;>rfl
   have aj:QS (.mk eo ea ep et ek)=some b:=by rw[hb];exact XG b
   by_cases hl:(shw b).length≤1600
   ·have ag : ¬(1600:Int)<((shw b).length:Int):=o_
    have hk:=YG (e:=(Zl.mk eK eL (Box.mk eX eY eW eH) (Zc.mk (Pane.mk ab ad ae af) eC) (Ze.mk eo ea ep et ek))) hw aj ⟨hb1,hb2,hl⟩;simp only[Yw,Ke,Kx,or_false,forall_eq_or_imp,forall_eq] at hw;obtain⟨n1,n2,n3,n4,n5,n6,n7,n8,n9,am⟩:=hw;simp only[Yx] at hk;by_cases k0:eK=0
    ·rw[Kg k0] at hk;by_cases ah:eX=0∧eY=0
     ·rw[Kg ah] at hk;rw[WU hk];obtain⟨hx,hy⟩:=ah;subst k0 hx hy;have e3:=WT QP [eL,eW,eH] (by simp) (by simp[n2,n5,n6]) (by decide);simp only[Kh,Kp,XA,QP] at e3;simp only[Ev.text,Ev.words,QP];refine cE ?_;simp (maxSteps:=10^7) +contextual -implicitDefEqProofs only[go_sem,seval,Z7,e1,e2,aa,ag,e3]
     ·rw[Kd ah] at hk;rw[Zfg hk];by_cases hx:eX=0
      ·have hy:¬eY=0:=fun h=>ah ⟨hx,h⟩;subst k0 hx;refine cE ?_;simp (maxSteps:=10^7) +contextual -implicitDefEqProofs only[go_sem,seval,Z7,e1,e2,aa,ag,hy]
      ·subst k0;refine cE ?_;simp (maxSteps:=10^7) +contextual -implicitDefEqProofs only[go_sem,seval,Z7,e1,e2,aa,ag,hx]
    rw[Kd k0] at hk;by_cases k1:eK=1
    ·rw[Kg k1] at hk;rw[WU hk];subst k1;have e3:=WT Xq [eL,eX,eY,eW,eH] (by simp) (by simp[n2,n3,n4,n5,n6]) (by decide);simp only[Kh,Kp,XA,Xq] at e3;simp only[Ev.text,Ev.words,Xq];refine cE ?_;simp (maxSteps:=10^7) +contextual -implicitDefEqProofs only[go_sem,seval,Z7,e1,e2,aa,ag,e3]
    rw[Kd k1] at hk;have ak:Zsv ⟨⟨ab,ad,ae,af⟩,eC⟩:=⟨am,n7,n8,n9⟩
    have e4:=Ztz ab ad ae af eC ak;have an:=ZdE ⟨⟨ab,ad,ae,af⟩,eC⟩ ak;have bl:6+(Zal ⟨⟨ab,ad,ae,af⟩,eC⟩).length≤1152921504606846976:=by unfold Zal;omega
    by_cases k2:eK=2
    ·rw[Kg k2] at hk;rw[WU hk];subst k2;have ht:Ev.text (.order ⟨⟨ab,ad,ae,af⟩,eC⟩)=[111,114,100,101,114,32]++Zal ⟨⟨ab,ad,ae,af⟩,eC⟩:=rfl;rw[ht];refine cE ?_;simp (maxSteps:=10^7) +contextual -implicitDefEqProofs only[go_sem,seval,Z7,e1,e2,aa,ag,e4,bl]
    rw[Kd k2] at hk;by_cases k3:eK=3
    ·rw[Kg k3] at hk;rw[WU hk];subst k3;have e3:=WT ZaP [eL] (by simp) (by simp[n2]) (by decide);simp only[Kh,Kp,XA,ZaP] at e3;have ao:=ZcB eL n2;have ht:Ev.text (.cut eL.toNat b)=Yc 32 [[99,117,116],num eL.toNat]++[32]++shw b:=by simp[Ev.text,Ev.words,Yc,ZaP]
     have ap:(Yc 32 [[99,117,116],num eL.toNat]).length≤20:=by simp[Yc];omega
     rw[ht];generalize Yc 32 [[99,117,116],num eL.toNat]=jt at *;have b1:jt.length+1≤1152921504606846976:=o_
     have b2:jt.length+1+(shw b).length≤1152921504606846976:=o_
     refine cE ?_;simp (maxSteps:=10^7) +contextual -implicitDefEqProofs only[go_sem,seval,Z7,e1,e2,aa,ag,e3,b1,b2]
    rw[Kd k3] at hk;by_cases k4:eK=4
    ·rw[Kg k4] at hk;rw[WU hk];subst k4;have ht:Ev.text (.brk ⟨⟨ab,ad,ae,af⟩,eC⟩)=[98,114,101,97,107,32]++Zal ⟨⟨ab,ad,ae,af⟩,eC⟩:=rfl;rw[ht];refine cE ?_;simp (maxSteps:=10^7) +contextual -implicitDefEqProofs only[go_sem,seval,Z7,e1,e2,aa,ag,e4,bl]
    rw[Kd k4] at hk;by_cases k5:eK=5
    ·rw[Kg k5] at hk;rw[WU hk];subst k5;have e3:=WT Xg [eL] (by simp) (by simp[n2]) (by decide);simp only[Kh,Kp,XA,Xg] at e3;simp only[Ev.text,Ev.words,Xg];refine cE ?_;simp (maxSteps:=10^7) +contextual -implicitDefEqProofs only[go_sem,seval,Z7,e1,e2,aa,ag,e3]
    ·rw[Kd k5] at hk;rw[Zfg hk];refine cE ?_;simp (maxSteps:=10^7) +contextual -implicitDefEqProofs only[go_sem,seval,Z7,e1,e2,aa,ag,k0,k1,k2,k3,k4,k5]
   ·have ag : (1600:Int)<((shw b).length:Int):=o_
    have ai:Wg (Zl.mk eK eL (Box.mk eX eY eW eH) (Zc.mk (Pane.mk ab ad ae af) eC) (Ze.mk eo ea ep et ek))=none:=by
     refine ZcC fun b' al hp=>?_;rw[show QS (Zl.plan (Zl.mk eK eL (Box.mk eX eY eW eH) (Zc.mk (Pane.mk ab ad ae af) eC) (Ze.mk eo ea ep et ek)))=QS (.mk eo ea ep et ek) from rfl,aj] at al;cases al;exact hl hp.2.2
    rw[Zfg ai];refine cE ?_;simp (maxSteps:=10^7) +contextual -implicitDefEqProofs only[go_sem,seval,Z7,e1,e2,aa,ag]
 ·rw[Kk hw] at e2;rw[Zfg (Zia hw)];refine cE ?_;simp (maxSteps:=10^7) +contextual -implicitDefEqProofs only[go_sem,seval,Z7,e1,e2]
theorem Zg8:v_ 113 [] []=some (.own 0,[.row 1 [.str QP,.str Xq,.str Yf,.str ZaP,.str Yg,.str Xg] true false]):=by
 refine cE ?_;simp (maxSteps:=10^7) +contextual -implicitDefEqProofs only[go_sem,seval,ZiX]
 all_goals rfl
def Zoa (e:Zl):List Int:=[e.label,e.box.X,e.box.Y,e.box.W,e.box.H,e.line.Count,e.line.Pane.W,e.line.Pane.H,e.line.Pane.Kind]
theorem ZCm {e:Zl} (h:¬∀ n∈Zoa e,six n):Wg e=none:=by
 refine Zia fun h'=>h fun n hn=>h' n ?_;simp only[Zoa,Yw,Ke,Kx,or_false] at hn ⊢;rcases hn with h | h | h | h | h | h | h | h | h<;>simp[h]
theorem ZCn {e:Zl} (h:∀ n∈Zoa e,six n) (hk:0≤e.kind∧e.kind≤5):∀ n∈Yw e,six n:=by
 intro n hn;simp only[Yw,Ke,Kx,or_false] at hn;rcases hn with rfl | hn
 ·exact⟨hk.1,o_⟩
 ·refine h n ?_;simp only[Zoa,Ke,Kx,or_false];rcases hn with h | h | h | h | h | h | h | h | h<;>simp[h]
theorem Zyc {e:Zl} {b:BT} (hk:0≤e.kind∧e.kind≤5) (h0:e.kind=0→e.box.X=0∧e.box.Y=0):(Yx e b).isSome=true:=by
 unfold Yx;by_cases k0:e.kind=0
 ·rw[Kg k0,Kg (h0 k0)];rfl
 rw[Kd k0];by_cases k1:e.kind=1
 ·rw[Kg k1];rfl
 rw[Kd k1];by_cases k2:e.kind=2
 ·rw[Kg k2];rfl
 rw[Kd k2];by_cases k3:e.kind=3
 ·rw[Kg k3];rfl
 rw[Kd k3];by_cases k4:e.kind=4
 ·rw[Kg k4];rfl
 rw[Kd k4,Kg o_];rfl
theorem Zyd {e:Zl} {b:BT} (hk:¬(0≤e.kind∧e.kind≤5)):Yx e b=none:=by
 unfold Yx;rw[Kd o_,Kd o_,Kd o_,Kd o_,Kd o_,Kd o_]
theorem Zpb {e:Zl} (h:∀ b,Yx e b=none):Wg e=none:=by
 unfold Wg;split
 ·split
  ·split
   ·exact h _
   ·rfl
  ·rfl
 ·rfl
theorem Zbp (eK eL eX eY eW eH aa ab:Int) (ae:Bool) (ad eC eo ea ep:Int) (et:Bool) (ek:List Ze):v_ 112 [(.d (.agg [J eK,J eL,J eX,J eY,J eW,J eH,J aa,J ab,.bool ae,J ad,J eC,J eo,J ea,J ep,.bool et,.sl (ek.map Ze.enc)]))] []=some ((.d (.bool ((Wg (Zl.mk eK eL (Box.mk eX eY eW eH) (Zc.mk (Pane.mk aa ab ae ad) eC) (Ze.mk eo ea ep et ek))).isSome))),[]):=by
 obtain⟨xs,aq⟩:∃ xs,xs=Zoa (Zl.mk eK eL (Box.mk eX eY eW eH) (Zc.mk (Pane.mk aa ab ae ad) eC) (Ze.mk eo ea ep et ek)):=⟨_,rfl⟩
 have a1:xs.length=9:=by rw[aq];rfl
 refine cE ?_;simp (maxSteps:=10^7) +contextual -implicitDefEqProofs only[go_sem,seval,Zdb];have au:([J eL,J eX,J eY,J eW,J eH,J eC,J aa,J ab,J ad]:List D)=xs.map XA:=by rw[aq];rfl
 rw[au];refine LO (α:=Nat) (fun k=>[(4,.d (J (k:Int)))]) (fun _=>[]) (fun k=>k≤9∧∀ n∈xs.take k,six n) (fun k=>9-k) 0 (by simp) ?_;intro k ⟨hk,hp⟩ ih;by_cases av:k<xs.length
 ·obtain⟨x,hx⟩:=Zn av;have al : (k:Int)<9:=o_
  have ah:k<9:=o_
  have am:(k:Int)<(xs.length:Int):=o_
  have az:=Zg (k:=k) o_;have e1:=Zu x 0 999999;by_cases hs:six x
  ·rw[Ki (show 0≤x∧x≤999999 from hs)] at e1;simp +contextual -implicitDefEqProofs only[go_sem,seval,al,av,ah,am,hx,az,XA,e1];refine ih (k+1) _ ⟨o_,?_⟩ o_ ?_
   ·intro n hn;rw[KB,hx] at hn;rcases Kj.1 hn with hn | hn
    ·exact hp n hn
    ·simp only[LS,KD] at hn;rw[hn];exact hs
   ·simp +contextual -implicitDefEqProofs only[go_sem,seval]
  ·rw[Kk (show ¬(0≤x∧x≤999999) from hs)] at e1;have ag:Wg (Zl.mk eK eL (Box.mk eX eY eW eH) (Zc.mk (Pane.mk aa ab ae ad) eC) (Ze.mk eo ea ep et ek))=none:=ZCm fun h=>hs (h x (by rw[← aq];exact Kb hx));rw[ag];simp +contextual -implicitDefEqProofs only[go_sem,seval,al,av,ah,am,hx,az,XA,e1,Kv]
 ·have a2:k=9:=o_
  subst a2;have aw:∀ n∈Zoa (Zl.mk eK eL (Box.mk eX eY eW eH) (Zc.mk (Pane.mk aa ab ae ad) eC) (Ze.mk eo ea ep et ek)),six n:=by
   intro n hn;rw[← aq] at hn;refine hp n ?_;rw[KH o_];exact hn
  have af:¬(9:Int)<(xs.length:Int):=o_
  have e1:=Zu eK 0 5;have e2:=Zd1 (.mk eo ea ep et ek);rw[Ze.enc_mk] at e2;by_cases an:eK=0∧¬(eX=0∧eY=0)
  ·obtain⟨k0,a0⟩:=an;have ag:Wg (Zl.mk eK eL (Box.mk eX eY eW eH) (Zc.mk (Pane.mk aa ab ae ad) eC) (Ze.mk eo ea ep et ek))=none:=Zpb fun b=>by unfold Yx;rw[Kg k0,Kd a0]
   rw[ag];subst k0;by_cases hX:eX=0
   ·have hY:¬eY=0:=fun h=>a0 ⟨hX,h⟩;simp +contextual -implicitDefEqProofs only[go_sem,seval,af,hX,hY,Kv]
   ·simp +contextual -implicitDefEqProofs only[go_sem,seval,af,hX,Kv]
  have aj:eK=0→eX=0∧eY=0:=fun h=>Classical.byContradiction fun h'=>an ⟨h,h'⟩;have a3:∀ R:Prop,R→R:=fun _ h=>h;by_cases ak:0≤eK∧eK≤5
  ·rw[Ki ak] at e1;have ao:=ZCn (e:=(Zl.mk eK eL (Box.mk eX eY eW eH) (Zc.mk (Pane.mk aa ab ae ad) eC) (Ze.mk eo ea ep et ek))) aw ak;cases hT:QS (.mk eo ea ep et ek) with
   | none=>
    rw[hT,show Zt 255 none=-1 from rfl] at e2;have ag:Wg (Zl.mk eK eL (Box.mk eX eY eW eH) (Zc.mk (Pane.mk aa ab ae ad) eC) (Ze.mk eo ea ep et ek))=none:=ZcC fun b hb=>by rw[show QS (Zl.plan (Zl.mk eK eL (Box.mk eX eY eW eH) (Zc.mk (Pane.mk aa ab ae ad) eC) (Ze.mk eo ea ep et ek)))=QS (.mk eo ea ep et ek) from rfl,hT] at hb;cases hb
    rw[ag];by_cases k0:eK=0
    ·obtain⟨hX,hY⟩:=aj k0;subst k0 hX hY;simp +contextual -implicitDefEqProofs only[go_sem,seval,af,e1,e2,Kv]
    ·simp +contextual -implicitDefEqProofs only[go_sem,seval,af,k0,e1,e2,Kv]
   | some b=>
    have ax:=WP hT;rw[hT] at e2;by_cases ai:ZmA b
    ·have hz:0<Zt 255 (some b):=by
      have:=b.cnt_pos;have:=ai.1;rcases QV 255 b with ⟨_,h⟩ | ⟨h,_⟩
      ·rw[h];omega
      ·omega
     have e3:=Wx b;have e4:=VT b ai.2.1 (by have:=ai.1;omega);rw[← ax,Ze.enc_mk] at e3 e4;rw[ai.2.1] at e3;have hl:=ai.2.2;have ap : ((shw b).length:Int)≤1600:=o_
     have ay:(Wg (Zl.mk eK eL (Box.mk eX eY eW eH) (Zc.mk (Pane.mk aa ab ae ad) eC) (Ze.mk eo ea ep et ek))).isSome=true:=by
      rw[YG ao hT ai];exact Zyc ak aj
     rw[ay];by_cases k0:eK=0
     ·obtain⟨hX,hY⟩:=aj k0;subst k0 hX hY;simp +contextual -implicitDefEqProofs only[go_sem,seval,af,e1,e2,hz,e3,e4,ap]
     ·simp +contextual -implicitDefEqProofs only[go_sem,seval,af,k0,e1,e2,hz,e3,e4,ap]
    ·have ag:Wg (Zl.mk eK eL (Box.mk eX eY eW eH) (Zc.mk (Pane.mk aa ab ae ad) eC) (Ze.mk eo ea ep et ek))=none:=ZcC fun b' hb=>by
      rw[show QS (Zl.plan (Zl.mk eK eL (Box.mk eX eY eW eH) (Zc.mk (Pane.mk aa ab ae ad) eC) (Ze.mk eo ea ep et ek)))=QS (.mk eo ea ep et ek) from rfl,hT] at hb;cases hb;exact ai
     rw[ag];have e3:=Wx b;rw[← ax,Ze.enc_mk] at e3;rcases QV 255 b with ⟨hc,hz⟩ | ⟨hc,hz⟩
     ·rw[hz] at e2;have ar : (0:Int)<b.cnt:=by have:=b.cnt_pos;omega
      cases hcb:YO b with
      | false=>
       rw[hcb] at e3;by_cases k0:eK=0
       ·obtain⟨hX,hY⟩:=aj k0;subst k0 hX hY;simp +contextual -implicitDefEqProofs only[go_sem,seval,af,e1,e2,ar,e3,Kv]
       ·simp +contextual -implicitDefEqProofs only[go_sem,seval,af,k0,e1,e2,ar,e3,Kv]
      | true=>
       rw[hcb] at e3;have e4:=VT b hcb o_;rw[← ax,Ze.enc_mk] at e4;have ap : ¬((shw b).length:Int)≤1600:=fun h=>ai ⟨o_,hcb,o_⟩;by_cases k0:eK=0
       ·obtain⟨hX,hY⟩:=aj k0;subst k0 hX hY;simp +contextual -implicitDefEqProofs only[go_sem,seval,af,e1,e2,ar,e3,e4,ap,Kv]
       ·simp +contextual -implicitDefEqProofs only[go_sem,seval,af,k0,e1,e2,ar,e3,e4,ap,Kv]
     ·rw[hz] at e2;by_cases k0:eK=0
      ·obtain⟨hX,hY⟩:=aj k0;subst k0 hX hY;simp +contextual -implicitDefEqProofs only[go_sem,seval,af,e1,e2,Kv]
      ·simp +contextual -implicitDefEqProofs only[go_sem,seval,af,k0,e1,e2,Kv]
  ·rw[Kk ak] at e1;have ag:Wg (Zl.mk eK eL (Box.mk eX eY eW eH) (Zc.mk (Pane.mk aa ab ae ad) eC) (Ze.mk eo ea ep et ek))=none:=Zpb fun b=>Zyd ak;rw[ag];have k0:¬eK=0:=fun h=>ak ⟨o_,o_⟩;simp +contextual -implicitDefEqProofs only[go_sem,seval,af,k0,e1,Kv]
theorem Zib (n:Int) (h:six n):v_ 59 [(.d (J n))] []=some (.d (.str (num n.toNat)),[]):=by
 have e:=Xb n.toNat (by have:=h.2;have:=h.1;omega);rw[KR h.1] at e;exact e
theorem ZcD (eK eL eX eY eW eH aa ab:Int) (ad:Bool) (ae eC eo ea ep:Int) (et:Bool) (ek:List Ze) (v:Ev) (hv:Wg (Zl.mk eK eL (Box.mk eX eY eW eH) (Zc.mk (Pane.mk aa ab ad ae) eC) (Ze.mk eo ea ep et ek))=some v):v_ 61 [(.d (.agg [J eK,J eL,J eX,J eY,J eW,J eH,J aa,J ab,.bool ad,J ae,J eC,J eo,J ea,J ep,.bool et,.sl (ek.map Ze.enc)]))] []=some (.d (.str v.text),[]):=by
 have af:∀ n∈Yw (Zl.mk eK eL (Box.mk eX eY eW eH) (Zc.mk (Pane.mk aa ab ad ae) eC) (Ze.mk eo ea ep et ek)),six n:=Classical.byContradiction fun h=>by rw[Zia h] at hv;cases hv
 obtain⟨b,hb,ah⟩:∃ b,QS (.mk eo ea ep et ek)=some b∧ZmA b:=Classical.byContradiction fun h=>by
  rw[ZcC (e:=(Zl.mk eK eL (Box.mk eX eY eW eH) (Zc.mk (Pane.mk aa ab ad ae) eC) (Ze.mk eo ea ep et ek))) fun b hb hp=>h ⟨b,hb,hp⟩] at hv;cases hv
 have am:=WP hb;rw[YG af hb ah] at hv;have e0:=Zg8;simp only[Yw,Ke,Kx,or_false,forall_eq_or_imp,forall_eq] at af;obtain⟨n1,n2,n3,n4,n5,n6,n7,n8,n9,an⟩:=af;have ai:=Zib eL n2;have ao:=Zib eX n3;have ap:=Zib eY n4;have aj:=Zib eW n5;have ak:=Zib eH n6;have lL:=ZcB eL n2;have lX:=ZcB eX n3;have lY:=ZcB eY n4;have lW:=ZcB eW n5;have lH:=ZcB eH n6;have al:Zsv ⟨⟨aa,ab,ad,ae⟩,eC⟩:=⟨an,n7,n8,n9⟩
 have e4:=ZtA aa ab ad ae eC al;have aq:=ZdE ⟨⟨aa,ab,ad,ae⟩,eC⟩ al;have e5:=VT b ah.2.1 (by have:=ah.1;omega);rw[← am,Ze.enc_mk] at e5;have ar:=ah.2.2;have au:(Zal ⟨⟨aa,ab,ad,ae⟩,eC⟩).length≤40:=aq;unfold Yx at hv;simp only at hv;by_cases k0:eK=0
 ·rw[Kg k0] at hv;split at hv
  ·cases hv;subst k0;have ht:Ev.text (.sheet eL.toNat eW.toNat eH.toNat)=QP++[32]++num eL.toNat++[32]++num eW.toNat++[32]++num eH.toNat:=by simp[Ev.text,Ev.words,Yc]
   rw[ht];generalize num eL.toNat=a at *;generalize num eW.toNat=c at *;generalize num eH.toNat=d at *;have ag:QP.length=5:=rfl;have b0:QP.length+1≤1152921504606846976:=o_
   have b1:QP.length+1+a.length≤1152921504606846976:=o_
   have b2:QP.length+1+a.length+1≤1152921504606846976:=o_
   have b3:QP.length+1+a.length+1+c.length≤1152921504606846976:=o_
   have b4:QP.length+1+a.length+1+c.length+1≤1152921504606846976:=o_
   have b5:QP.length+1+a.length+1+c.length+1+d.length≤1152921504606846976:=o_
   refine cE ?_;simp (maxSteps:=10^7) +contextual -implicitDefEqProofs only[go_sem,seval,Y0,e0,ai,aj,ak,b0,b1,b2,b3,b4,b5]
  ·cases hv
 rw[Kd k0] at hv;by_cases k1:eK=1
 ·rw[Kg k1] at hv;cases hv;subst k1;have ht:Ev.text (.flaw eL.toNat eX.toNat eY.toNat eW.toNat eH.toNat)=Xq++[32]++num eL.toNat++[32]++num eX.toNat++[32]++num eY.toNat++[32]++num eW.toNat++[32]++num eH.toNat:=by simp[Ev.text,Ev.words,Yc]
  rw[ht];generalize num eL.toNat=a at *;generalize num eX.toNat=x at *;generalize num eY.toNat=y at *;generalize num eW.toNat=c at *;generalize num eH.toNat=d at *;have ag:Xq.length=4:=rfl;have b0:Xq.length+1≤1152921504606846976:=o_
  have b1:Xq.length+1+a.length≤1152921504606846976:=o_
  have b2:Xq.length+1+a.length+1≤1152921504606846976:=o_
  have b3:Xq.length+1+a.length+1+x.length≤1152921504606846976:=o_
  have b4:Xq.length+1+a.length+1+x.length+1≤1152921504606846976:=o_
  have b5:Xq.length+1+a.length+1+x.length+1+y.length≤1152921504606846976:=o_
  have b6:Xq.length+1+a.length+1+x.length+1+y.length+1≤1152921504606846976:=o_
  have b7:Xq.length+1+a.length+1+x.length+1+y.length+1+c.length≤1152921504606846976:=o_
  have b8:Xq.length+1+a.length+1+x.length+1+y.length+1+c.length+1≤1152921504606846976:=o_
  have b9:Xq.length+1+a.length+1+x.length+1+y.length+1+c.length+1+d.length≤1152921504606846976:=o_
  refine cE ?_;simp (maxSteps:=10^7) +contextual -implicitDefEqProofs only[go_sem,seval,Y0,e0,ai,ao,ap,aj,ak,b0,b1,b2,b3,b4,b5,b6,b7,b8,b9]
 rw[Kd k1] at hv;by_cases k2:eK=2
 ·rw[Kg k2] at hv;cases hv;subst k2;have ht:Ev.text (.order ⟨⟨aa,ab,ad,ae⟩,eC⟩)=Yf++[32]++Zal ⟨⟨aa,ab,ad,ae⟩,eC⟩:=rfl;rw[ht];generalize Zal ⟨⟨aa,ab,ad,ae⟩,eC⟩=a at *;have ag:Yf.length=5:=rfl;have b0:Yf.length+1≤1152921504606846976:=o_
  have b1:Yf.length+1+a.length≤1152921504606846976:=o_
  refine cE ?_;simp (maxSteps:=10^7) +contextual -implicitDefEqProofs only[go_sem,seval,Y0,e0,e4,b0,b1]
 rw[Kd k2] at hv;by_cases k3:eK=3
 ·rw[Kg k3] at hv;cases hv;subst k3;have ht:Ev.text (.cut eL.toNat b)=ZaP++[32]++num eL.toNat++[32]++shw b:=by simp[Ev.text,Ev.words,Yc]
  rw[ht];generalize num eL.toNat=a at *;generalize shw b=c at *;have ag:ZaP.length=3:=rfl;have b0:ZaP.length+1≤1152921504606846976:=o_
  have b1:ZaP.length+1+a.length≤1152921504606846976:=o_
  have b2:ZaP.length+1+a.length+1≤1152921504606846976:=o_
  have b3:ZaP.length+1+a.length+1+c.length≤1152921504606846976:=o_
  refine cE ?_;simp (maxSteps:=10^7) +contextual -implicitDefEqProofs only[go_sem,seval,Y0,e0,ai,e5,b0,b1,b2,b3]
 rw[Kd k3] at hv;by_cases k4:eK=4
 ·rw[Kg k4] at hv;cases hv;subst k4;have ht:Ev.text (.brk ⟨⟨aa,ab,ad,ae⟩,eC⟩)=Yg++[32]++Zal ⟨⟨aa,ab,ad,ae⟩,eC⟩:=rfl;rw[ht];generalize Zal ⟨⟨aa,ab,ad,ae⟩,eC⟩=a at *;have ag:Yg.length=5:=rfl;have b0:Yg.length+1≤1152921504606846976:=o_
  have b1:Yg.length+1+a.length≤1152921504606846976:=o_
  refine cE ?_;simp (maxSteps:=10^7) +contextual -implicitDefEqProofs only[go_sem,seval,Y0,e0,e4,b0,b1]
 rw[Kd k4] at hv;by_cases k5:eK=5
 ·rw[Kg k5] at hv;cases hv;subst k5;have ht:Ev.text (.scrap eL.toNat)=Xg++[32]++num eL.toNat:=rfl;rw[ht];generalize num eL.toNat=a at *;have ag:Xg.length=5:=rfl;have b0:Xg.length+1≤1152921504606846976:=o_
  have b1:Xg.length+1+a.length≤1152921504606846976:=o_
  refine cE ?_;simp (maxSteps:=10^7) +contextual -implicitDefEqProofs only[go_sem,seval,Y0,e0,ai,b0,b1]
 ·rw[Kd k5] at hv;cases hv
end Go.Proofs.YtfnegoimdljanaaGreatDoor
namespace Go.Proofs.YtfnegoimdljanaaGreatDoor
open Go Go.Abs Go.Abs.E Go.Abs.L
set_option maxRecDepth 20000
set_option maxHeartbeats 4000000
def evZ:Zl:=⟨0,0,bx0,ln0,BT.waste.plan⟩
def evM (m:Option Ev):Zl:=match m with
 | some v=>v.ev
 | none=>evZ
def PeR (res:Option (AV×List Zm)) (m:Option Ev):Prop:=∃ (K L X Y W H pW pH:Int) (pT:Bool) (pK C o a q:Int) (t:Bool) (ks:List Ze),
 res=some (.tup [.agg [(.d (J K)),(.d (J L)),(.d (J X)),(.d (J Y)),(.d (J W)),(.d (J H)),(.d (J pW)),(.d (J pH)),(.d (.bool pT)),(.d (J pK)),(.d (J C)),(.d (J o)),(.d (J a)),(.d (J q)),(.d (.bool t)),.own 0],(.d (.bool (m.isSome)))],[.row 5 (ks.map Ze.enc) true false]) ∧
 Zl.mk K L ⟨X,Y,W,H⟩ ⟨⟨pW,pH,pT,pK⟩,C⟩ (.mk o a q t ks)=evM m
theorem ZzX {res:Option (AV×List Zm)} (h:res=some (.tup [.agg [(.d (J 0)),(.d (J 0)),(.d (J 0)),(.d (J 0)),(.d (J 0)),(.d (J 0)),(.d (J 0)),(.d (J 0)),(.d (.bool false)),(.d (J 0)),(.d (J 0)),(.d (J 0)),(.d (J 0)),(.d (J 0)),(.d (.bool false)),.own 0],(.d (.bool false))],[.row 5 [] true false])):PeR res none:=
 ⟨0,0,0,0,0,0,0,0,false,0,0,0,0,0,false,[],h,rfl⟩
def PeT (res:Option (AV×List Zm)) (m:Option Ev):Prop:=∃ (K L X Y W H pW pH:Int) (pT:Bool) (pK C o a q:Int) (t:Bool) (ks:List Ze),
 res=some (.tup [.agg [(.d (J K)),(.d (J L)),(.d (J X)),(.d (J Y)),(.d (J W)),(.d (J H)),(.d (J pW)),(.d (J pH)),(.d (.bool pT)),(.d (J pK)),(.d (J C)),(.d (J o)),(.d (J a)),(.d (J q)),(.d (.bool t)),.own 0],(.d (.bool (m.isSome)))],[plO ks]) ∧
 Zl.mk K L ⟨X,Y,W,H⟩ ⟨⟨pW,pH,pT,pK⟩,C⟩ (.mk o a q t ks)=evM m
theorem Zk3 {res:Option (AV×List Zm)} (h:res=some (.tup [.agg [(.d (J 0)),(.d (J 0)),(.d (J 0)),(.d (J 0)),(.d (J 0)),(.d (J 0)),(.d (J 0)),(.d (J 0)),(.d (.bool false)),(.d (J 0)),(.d (J 0)),(.d (J 0)),(.d (J 0)),(.d (J 0)),(.d (.bool false)),.own 0],(.d (.bool false))],[.row 5 [] true false])):PeT res none:=
 ⟨0,0,0,0,0,0,0,0,false,0,0,0,0,0,false,[],h,rfl⟩
def rcM (s:List UInt8):Option Ev:=match Xp 32 s with
 | none=>none
 | some i=>(rd (s.take i)).bind fun l=>(Ze9 (s.drop (i+1))).bind fun b=>some (.cut l b)
theorem ZDP:Ze9 []=none:=rfl
theorem Zwm (s:List UInt8) (hs:s.length≤1048576):PeT (v_ 71 [.d (.str s)] []) (rcM s):=by
 have e1:=Zcy s 32 hs;unfold rcM;cases hi:Xp 32 s with
 | none=>
  rw[hi] at e1;simp only at e1 ⊢;have e2:=UA s;obtain⟨o,a,q,t,ks,e3,h3⟩:=Zh6 [] (by simp);rw[ZDP] at e3;simp only[Kv] at e3;refine Zk3 ?_;cases hr:rd s with
  | none=>
   rw[hr] at e2;simp only[Zf8] at e2;refine cE ?_;cases ks<;>simp +contextual -implicitDefEqProofs only[go_sem,seval,U3,e1,e2,e3]
  | some v=>
   rw[hr] at e2;simp only[Zf8] at e2;refine cE ?_;cases ks<;>simp +contextual -implicitDefEqProofs only[go_sem,seval,U3,e1,e2,e3]
 | some i=>
  rw[hi] at e1;simp only at e1 ⊢;have e2:=UA (s.take i);obtain⟨o,a,q,t,ks,e3,h3⟩:=Zh6 (s.drop (i+1)) (by simp;omega);cases hr:rd (s.take i) with
  | none=>
   rw[hr] at e2;simp only[Zf8] at e2;refine Zk3 ?_;refine cE ?_;cases ks<;>simp +contextual -implicitDefEqProofs only[go_sem,seval,U3,e1,e2,e3]
  | some v=>
   rw[hr] at e2;simp only[Zf8] at e2;cases hp:Ze9 (s.drop (i+1)) with
   | none=>
    rw[hp] at e3;simp only[Kv] at e3;refine Zk3 ?_;refine cE ?_;cases ks<;>simp +contextual -implicitDefEqProofs only[go_sem,seval,U3,e1,e2,e3]
   | some b=>
    rw[hp] at e3 h3;simp only[KV] at e3;refine⟨3,v,0,0,0,0,0,0,false,0,0,o,a,q,t,ks,?_,?_⟩
    ·refine cE ?_;cases ks<;>simp +contextual -implicitDefEqProofs only[go_sem,seval,U3,e1,e2,e3]
     all_goals rfl
    ·rw[h3];rfl
theorem ZmC (w:List UInt8) (vs:List Nat) (hl:vs.length≤2000000):PeT (v_ 74 [.d (.str w),.d (.sl ((vs.map fun n:Nat=>(n:Int)).map XA))] []) (Zgb w vs):=by
 by_cases h3:w=QP∧vs.length=3
 ·obtain⟨rfl,h⟩:=h3;obtain⟨a,b,c,rfl⟩:∃ a b c,vs=[a,b,c]:=by
   match vs,h with
   | [a,b,c],_=>exact⟨a,b,c,rfl⟩
  refine⟨0,a,0,0,b,c,0,0,false,0,0,0,0,0,false,[],?_,rfl⟩;simp only[Kh,Kp,XA,QP];refine cE ?_;simp (maxSteps:=10^7) +contextual -implicitDefEqProofs only[go_sem,seval,Xc]
  all_goals rfl
 by_cases h5:w=Xq∧vs.length=5
 ·obtain⟨rfl,h⟩:=h5;obtain⟨a,b,c,d,f,rfl⟩:∃ a b c d f,vs=[a,b,c,d,f]:=by
   match vs,h with
   | [a,b,c,d,f],_=>exact⟨a,b,c,d,f,rfl⟩
  refine⟨1,a,b,c,d,f,0,0,false,0,0,0,0,0,false,[],?_,rfl⟩;have q1:(Xq==[115,104,101,101,116])=false:=rfl;have q2:(Xq==[102,108,97,119])=true:=rfl;simp only[Kh,Kp,XA];refine cE ?_;simp (maxSteps:=10^7) +contextual -implicitDefEqProofs only[go_sem,seval,Xc,q1,q2]
  all_goals rfl
 by_cases h1:w=Xg∧vs.length=1
 ·obtain⟨rfl,h⟩:=h1;obtain⟨a,rfl⟩:∃ a,vs=[a]:=by
   match vs,h with
   | [a],_=>exact⟨a,rfl⟩
  refine⟨5,a,0,0,0,0,0,0,false,0,0,0,0,0,false,[],?_,rfl⟩;have q1:(Xg==[115,104,101,101,116])=false:=rfl;have q2:(Xg==[102,108,97,119])=false:=rfl;have q3:(Xg==[115,99,114,97,112])=true:=rfl;simp only[Kh,Kp,XA];refine cE ?_;simp (maxSteps:=10^7) +contextual -implicitDefEqProofs only[go_sem,seval,Xc,q1,q2,q3]
  all_goals rfl
 ·have aa:Zgb w vs=none:=by
   unfold Zgb;split
   ·rw[Kd (fun e=>h1 ⟨e,rfl⟩)]
   ·rw[Kd (fun e=>h3 ⟨e,rfl⟩)]
   ·rw[Kd (fun e=>h5 ⟨e,rfl⟩)]
   ·rfl
  rw[aa];refine Zk3 ?_;have p1:(w==[115,104,101,101,116])=true→¬(vs.length:Int)=3:=fun h e=>h3 ⟨by simpa [QP] using h,o_⟩;have p2:(w==[102,108,97,119])=true→¬(vs.length:Int)=5:=fun h e=>h5 ⟨by simpa [Xq] using h,o_⟩;have p3:(w==[115,99,114,97,112])=true→¬(vs.length:Int)=1:=fun h e=>h1 ⟨by simpa [Xg] using h,o_⟩;cases q1:(w==[115,104,101,101,116]) with
  | true=>
   have e:w=QP:=by simpa [QP] using q1
   have q2:(w==[102,108,97,119])=false:=by rw[e];rfl
   have q3:(w==[115,99,114,97,112])=false:=by rw[e];rfl
   have p1:=p1 q1;refine cE ?_;simp (maxSteps:=10^7) +contextual -implicitDefEqProofs only[go_sem,seval,Xc,q1,q2,q3,p1,KG]
  | false=>
   cases q2:(w==[102,108,97,119]) with
   | true=>
    have e:w=Xq:=by simpa [Xq] using q2
    have q3:(w==[115,99,114,97,112])=false:=by rw[e];rfl
    have p2:=p2 q2;refine cE ?_;simp (maxSteps:=10^7) +contextual -implicitDefEqProofs only[go_sem,seval,Xc,q1,q2,q3,p2,KG]
   | false=>
    cases q3:(w==[115,99,114,97,112]) with
    | true=>
     have p3:=p3 q3;refine cE ?_;simp (maxSteps:=10^7) +contextual -implicitDefEqProofs only[go_sem,seval,Xc,q1,q2,q3,p3,KG]
    | false=>
     refine cE ?_;simp (maxSteps:=10^7) +contextual -implicitDefEqProofs only[go_sem,seval,Xc,q1,q2,q3]
theorem Zk4:∀ ws:List (List UInt8),Yv ws=(Za7 ws).map fun ns=>ns.map fun n:Nat=>(n:Int)
 | []=>rfl
 | w :: r=>by
  simp only[Yv,Za7,Zk4 r];cases rd w with
  | none=>rfl
  | some v=>cases Za7 r<;>rfl
theorem Zye (s:List UInt8):ZA5 (ZL 32 s)=rcM s:=by
 rw[ZbV];unfold rcM;cases hi:Xp 32 s with
 | none=>rfl
 | some i=>
  simp only;rw[ZbV 32 (s.drop (i+1))];cases hj:Xp 32 (s.drop (i+1)) with
  | none=>rfl
  | some j=>
   simp only;have aa:Ze9 (s.drop (i+1))=none:=by
    cases hp:Ze9 (s.drop (i+1)) with
    | none=>rfl
    | some b=>
     obtain⟨_,h2,_⟩:=ZjA.1 hp;obtain⟨h3,_⟩:=Jv hj;have h4:(32:UInt8)∉shw b:=ZsC rfl (by decide) b;rw[← h2] at h4;exact absurd (by rw[h3];simp) h4
   rw[aa];have ab:=WR 32 ((s.drop (i+1)).drop (j+1));cases hs:ZL 32 ((s.drop (i+1)).drop (j+1)) with
   | nil=>exact absurd hs ab
   | cons x r=>cases rd (s.take i)<;>rfl
def ZsE (w rest:List UInt8):Option Ev:=if w=Yf then (Zfc (ZL 32 rest)).bind fun n=>some (.order n)
 else if w=Yg then (Zfc (ZL 32 rest)).bind fun n=>some (.brk n)
 else if w=ZaP then rcM rest else (Za7 (ZL 32 rest)).bind (Zgb w)
theorem ZDQ (s:List UInt8):Zhl s=match Xp 32 s with
  | none=>ZsE s []
  | some i=>ZsE (s.take i) (s.drop (i+1)):=by
 unfold Zhl ZsE;rw[ZbV];cases hi:Xp 32 s with
 | none=>
  simp only[WS];by_cases h1:s=Yf
  ·rw[Kg h1,Kg h1];rfl
  rw[Kd h1,Kd h1];by_cases h2:s=Yg
  ·rw[Kg h2,Kg h2];rfl
  rw[Kd h2,Kd h2];by_cases h3:s=ZaP
  ·rw[Kg h3,Kg h3];rfl
  rw[Kd h3,Kd h3];rfl
 | some i=>
  simp only[WS,Zye]
theorem ZpW (s:List UInt8) (hs:s.length≤1048576):PeT (v_ 37 [.d (.str s)] []) (Zhl s):=by
 have e1:=Zcy s 32 hs;have ab:∀ (w aa:List UInt8) (f:Bool),aa.length≤s.length→v_ 36 [.d (.str s),.d (.str [32])] []=some (.tup [.d (.str w),.d (.str aa),(.d (.bool f))],[])→PeT (v_ 37 [.d (.str s)] []) (ZsE w aa):=by
  intro w aa f hr e1;have e2:=Zty aa o_;unfold ZsE;by_cases h1:w=Yf∨w=Yg
  ·rcases h1 with rfl | rfl
   ·rw[Kg rfl];have q1:(Yf==[111,114,100,101,114])=true:=rfl;have q2:(Yf==[98,114,101,97,107])=false:=rfl;cases hl:Zfc (ZL 32 aa) with
    | none=>
     rw[hl] at e2;simp only[rlV] at e2;refine Zk3 ?_;refine cE ?_;simp (maxSteps:=10^7) +contextual -implicitDefEqProofs only[go_sem,seval,XY,e1,q1,q2,e2]
    | some l=>
     obtain⟨⟨W,H,T,K⟩,C⟩:=l;rw[hl] at e2;simp only[rlV,Zc.enc] at e2;refine⟨2,0,0,0,0,0,W,H,T,K,C,0,0,0,false,[],?_,rfl⟩;refine cE ?_;simp (maxSteps:=10^7) +contextual -implicitDefEqProofs only[go_sem,seval,XY,e1,q1,q2,e2]
     all_goals rfl
   ·rw[Kd (by decide),Kg rfl];have q1:(Yg==[111,114,100,101,114])=false:=rfl;have q2:(Yg==[98,114,101,97,107])=true:=rfl;cases hl:Zfc (ZL 32 aa) with
    | none=>
     rw[hl] at e2;simp only[rlV] at e2;refine Zk3 ?_;refine cE ?_;simp (maxSteps:=10^7) +contextual -implicitDefEqProofs only[go_sem,seval,XY,e1,q1,q2,e2]
    | some l=>
     obtain⟨⟨W,H,T,K⟩,C⟩:=l;rw[hl] at e2;simp only[rlV,Zc.enc] at e2;refine⟨4,0,0,0,0,0,W,H,T,K,C,0,0,0,false,[],?_,rfl⟩;refine cE ?_;simp (maxSteps:=10^7) +contextual -implicitDefEqProofs only[go_sem,seval,XY,e1,q1,q2,e2]
     all_goals rfl
  have n1:¬w=Yf:=fun h=>h1 (.inl h);have n2:¬w=Yg:=fun h=>h1 (.inr h);have q1:(w==[111,114,100,101,114])=false:=by simpa [Yf] using n1
  have q2:(w==[98,114,101,97,107])=false:=by simpa [Yg] using n2
  rw[Kd n1,Kd n2];by_cases h3:w=ZaP
  ·rw[Kg h3];have q3:(w==[99,117,116])=true:=by rw[h3];rfl
   obtain⟨K,L,X,Y,W,H,pW,pH,pT,pK,C,o,a,q,t,ks,e3,h⟩:=Zwm aa o_;refine⟨K,L,X,Y,W,H,pW,pH,pT,pK,C,o,a,q,t,ks,?_,h⟩;refine cE ?_;cases ks<;>simp +contextual -implicitDefEqProofs only[go_sem,seval,XY,e1,q1,q2,q3,e3]
  ·rw[Kd h3];have q3:(w==[99,117,116])=false:=by simpa [ZaP] using h3
   have e3:=Zfe aa 32 o_;have hc:(ZL 32 aa).length≤1048577:=by rw[Zfd];have:aa.count 32≤aa.length:=Kav;omega
   generalize ZL 32 aa=ws at e3 hc;have e4:=Zff ws o_;have ad:List.take ws.length (List.map D.str ws)=List.map D.str ws:=KH (by simp);rw[Zk4] at e4;cases hn:Za7 ws with
   | none=>
    rw[hn] at e4;simp only[Option.map_none,rnV] at e4;refine Zk3 ?_;refine cE ?_;simp (maxSteps:=10^7) +contextual -implicitDefEqProofs only[go_sem,seval,XY,e1,q1,q2,q3,e3,e4,ad,List.drop_zero]
   | some ns=>
    rw[hn] at e4;simp only[Ld,rnV] at e4;have ae:ns.length≤1048577:=by
     have:=(Zh9 hn).1;rw[this,KG] at hc;exact hc
    simp only[KS];obtain⟨K,L,X,Y,W,H,pW,pH,pT,pK,C,o,a,q,t,ks,e5,h⟩:=ZmC w ns o_;refine⟨K,L,X,Y,W,H,pW,pH,pT,pK,C,o,a,q,t,ks,?_,h⟩;refine cE ?_;cases ks<;>simp +contextual -implicitDefEqProofs only[go_sem,seval,XY,e1,q1,q2,q3,e3,e4,ad,List.drop_zero,e5]
 rw[ZDQ];cases hi:Xp 32 s with
 | none=>
  rw[hi] at e1;exact ab _ _ _ (by simp) e1
 | some i=>
  rw[hi] at e1;exact ab _ _ _ (by simp) e1
theorem ZcE:ZmA .waste:=⟨by decide,rfl,by decide⟩
theorem ZEY {v:Ev} (h:v.ok):Wg v.ev=some v:=by
 cases v with
 | sheet l w g=>
  obtain⟨h1,h2,h3⟩:=h;rw[YG (b:=.waste) (by simp[Yw,Ev.ev,six,ln0];omega) (XG .waste) ZcE];simp[Yx,Ev.ev]
 | flaw l x y w g=>
  obtain⟨h1,h2,h3,h4,h5⟩:=h;rw[YG (b:=.waste) (by simp[Yw,Ev.ev,six,ln0];omega) (XG .waste) ZcE];simp[Yx,Ev.ev]
 | order n=>
  obtain⟨h1,h2,h3,h4⟩:=h;simp only[six] at h1 h2 h3 h4;rw[YG (b:=.waste) (by simp[Yw,Ev.ev,six,bx0];omega) (XG .waste) ZcE];simp[Yx,Ev.ev]
 | cut l b=>
  obtain⟨h1,h2⟩:=h;rw[YG (b:=b) (by simp[Yw,Ev.ev,six,bx0,ln0];omega) (XG b) h2];simp[Yx,Ev.ev]
 | brk n=>
  obtain⟨h1,h2,h3,h4⟩:=h;simp only[six] at h1 h2 h3 h4;rw[YG (b:=.waste) (by simp[Yw,Ev.ev,six,bx0];omega) (XG .waste) ZcE];simp[Yx,Ev.ev]
 | scrap l=>
  have h1:l≤999999:=h;rw[YG (b:=.waste) (by simp[Yw,Ev.ev,six,bx0,ln0];omega) (XG .waste) ZcE];simp[Yx,Ev.ev]
theorem Zwn {e:Zl} {v:Ev} (hv:Wg e=some v):v.ok∧v.ev.kind=e.kind:=by
 have aa:∀ n∈Yw e,six n:=Classical.byContradiction fun h=>by rw[Zia h] at hv;cases hv
 obtain⟨b,hb,ab⟩:∃ b,QS e.plan=some b∧ZmA b:=Classical.byContradiction fun h=>by
  rw[ZcC (e:=e) fun b hb hp=>h ⟨b,hb,hp⟩] at hv;cases hv
 rw[YG aa hb ab] at hv;simp only[Yw,Ke,Kx,or_false,forall_eq_or_imp,forall_eq] at aa;obtain⟨n1,n2,n3,n4,n5,n6,n7,n8,n9,ae⟩:=aa;have ad:Zsv e.line:=⟨ae,n7,n8,n9⟩
 simp only[six] at n2 n3 n4 n5 n6;unfold Yx at hv;by_cases k0:e.kind=0
 ·rw[Kg k0] at hv;split at hv
  ·cases hv;exact⟨⟨o_,o_,o_⟩,k0.symm⟩
  ·cases hv
 rw[Kd k0] at hv;by_cases k1:e.kind=1
 ·rw[Kg k1] at hv;cases hv;exact⟨⟨o_,o_,o_,o_,o_⟩,k1.symm⟩
 rw[Kd k1] at hv;by_cases k2:e.kind=2
 ·rw[Kg k2] at hv;cases hv;exact⟨ad,k2.symm⟩
 rw[Kd k2] at hv;by_cases k3:e.kind=3
 ·rw[Kg k3] at hv;cases hv;exact⟨⟨o_,ab⟩,k3.symm⟩
 rw[Kd k3] at hv;by_cases k4:e.kind=4
 ·rw[Kg k4] at hv;cases hv;exact⟨ad,k4.symm⟩
 rw[Kd k4] at hv;by_cases k5:e.kind=5
 ·rw[Kg k5] at hv;cases hv;exact⟨by show e.label.toNat≤999999;omega,k5.symm⟩
 ·rw[Kd k5] at hv;cases hv
theorem ZCo {v:Ev} (h:v.ok):v.words.length≤6∧∀ w∈v.words,w.length≤1600:=by
 have nl:∀ n:Nat,n≤999999→(num n).length≤1600:=fun n hn=>by have:=Ye 5 n o_;omega
 have ln:∀ l:Zc,Zsv l→(Xe l).length=5∧∀ w∈Xe l,w.length≤1600:=by
  intro l hl;obtain⟨h1,h2,h3,h4⟩:=hl;simp only[six] at h1 h2 h3 h4;refine⟨rfl,fun w hw=>?_⟩;simp only[Xe,Ke,Kx,or_false] at hw;rcases hw with rfl | rfl | rfl | rfl | rfl
  ·exact nl _ o_
  ·exact nl _ o_
  ·exact nl _ o_
  ·cases l.Pane.Turns<;>decide
  ·exact nl _ o_
 cases v with
 | sheet l w g=>
  obtain⟨h1,h2,h3⟩:=h;refine⟨by simp[Ev.words],fun x hx=>?_⟩;simp only[Ev.words,Ke,Kx,or_false] at hx;rcases hx with rfl | rfl | rfl | rfl
  ·decide
  ·exact nl _ h1
  ·exact nl _ h2
  ·exact nl _ h3
 | flaw l a b w g=>
  obtain⟨h1,h2,h3,h4,h5⟩:=h;refine⟨by simp[Ev.words],fun x hx=>?_⟩;simp only[Ev.words,Ke,Kx,or_false] at hx;rcases hx with rfl | rfl | rfl | rfl | rfl | rfl
  ·decide
  ·exact nl _ h1
  ·exact nl _ h2
  ·exact nl _ h3
  ·exact nl _ h4
  ·exact nl _ h5
 | order n=>
  obtain⟨g1,g2⟩:=ln n h;refine⟨by simp only[Ev.words,Kl];omega,fun x hx=>?_⟩;rcases Ke.1 hx with rfl | hx
  ·decide
  ·exact g2 x hx
 | cut l b=>
  obtain⟨h1,h2⟩:=h;refine⟨by simp[Ev.words],fun x hx=>?_⟩;simp only[Ev.words,Ke,Kx,or_false] at hx;rcases hx with rfl | rfl | rfl
  ·decide
  ·exact nl _ h1
  ·exact h2.2.2
 | brk n=>
  obtain⟨g1,g2⟩:=ln n h;refine⟨by simp only[Ev.words,Kl];omega,fun x hx=>?_⟩;rcases Ke.1 hx with rfl | hx
  ·decide
  ·exact g2 x hx
 | scrap l=>
  refine⟨by simp[Ev.words],fun x hx=>?_⟩;simp only[Ev.words,Ke,Kx,or_false] at hx;rcases hx with rfl | rfl
  ·decide
  ·exact nl _ h
theorem ZsF {v:Ev} (h:v.ok):v.text.length≤20000:=by
 obtain⟨h1,h2⟩:=ZCo h;have h3:=Zn9 32 1600 v.words h2;have:v.words.length*1601≤6*1601:=KQ _ h1;unfold Ev.text;omega
theorem ZEZ (v:Ev):(v.text==[])=false:=by cases v<;>rfl
theorem ZsG (ws:List (List UInt8)) (hw:ws.length≤2000000) (hl:∀ w∈ws,w.length≤1048576):v_ 163 [.d (.sl (ws.map .str))] []=some (rnV (Yv ws)):=by
 refine cE ?_;simp (maxSteps:=10^7) +contextual -implicitDefEqProofs only[go_sem,seval,Zkt];refine LO (α:=Nat×List Int) (fun a=>[(5,.d (J (a.1:Int)))]) (fun a=>[(0,.row 1 (a.2.map XA) true false)]) (fun a=>a.1≤ws.length∧a.2.length≤a.1∧Yv ws=(Yv (ws.drop a.1)).map fun r=>a.2++r) (fun a=>ws.length-a.1) (0,[]) ⟨by simp,by simp,by simp⟩ ?_;intro⟨k,vs⟩ ⟨hk,hv,hp⟩ ih;simp only at hk hv hp ih ⊢;by_cases ad:k<ws.length
 ·obtain⟨x,hx⟩:=Zn ad;have aa : (k:Int)<(ws.length:Int):=o_
  have w:=Zg (k:=k) o_;have e1:=X9 x (hl x (Kb hx));rw[Zx7 hx] at hp;have ab:(vs.length+1)*8≤140737488355328∧vs.length+1≤140737488355328:=o_
  have ae:(ws.map D.str)[k]?=some (.str x):=by rw[La,hx];rfl
  cases hr:rd x with
  | none=>
   rw[hr] at hp;rw[Zms hr] at e1;simp only[L4,Option.map_none] at hp;rw[hp];simp +contextual -implicitDefEqProofs only[go_sem,seval,aa,ad,ae,hx,w,e1,rnV]
  | some v=>
   rw[hr] at hp;rw[ZaN hr] at e1;have af:¬(v:Int)<0:=o_
   simp +contextual -implicitDefEqProofs only[go_sem,seval,aa,ad,ae,hx,w,e1,ab,af];refine ih (k+1,vs++[(v:Int)]) _ ⟨o_,by simp;omega,?_⟩ o_ ?_
   ·rw[hp];cases Yv (ws.drop (k+1))<;>simp
   ·simp +contextual -implicitDefEqProofs only[go_sem,seval,XA,KJ,Kh,Kp]
 ·have:k=ws.length:=o_
  subst this;simp only[List.drop_length,Yv,Ld,KE] at hp;rw[hp];simp +contextual -implicitDefEqProofs only[go_sem,seval,rnV]
def ZjJ:List (List UInt8):=[QP,Xq,Yf,ZaP,Yg,Xg]
theorem XU:ZjJ.length=6:=rfl
def Vl (w:List UInt8):List Int→Zl×Bool
 | [l]=>if w=Xg then (⟨5,l,bx0,ln0,BT.waste.plan⟩,true) else (evZ,false)
 | [l,a,b]=>if w=QP then (⟨0,l,⟨0,0,a,b⟩,ln0,BT.waste.plan⟩,true) else (evZ,false)
 | [l,x,y,a,b]=>if w=Xq then (⟨1,l,⟨x,y,a,b⟩,ln0,BT.waste.plan⟩,true) else (evZ,false)
 | _=>(evZ,false)
def Zk5:List (List UInt8)→Zl×Bool
 | [a,p]=>(⟨3,ZbF a,bx0,ln0,((Ze9 p).getD .waste).plan⟩,(Ze9 p).isSome)
 | _=>(evZ,false)
def lnE (k:Int) (r:List (List UInt8)):Zl×Bool:=match lnS r with
 | some n=>(⟨k,0,bx0,n,BT.waste.plan⟩,true)
 | none=>(⟨k,0,bx0,ln0,BT.waste.plan⟩,false)
def rdE (w:List UInt8) (r:List (List UInt8)):Zl×Bool:=
 if r=[] then (evZ,false) else if w=Yf then lnE 2 r else if w=Yg then lnE 4 r else if w=ZaP then Zk5 r
 else if w=QP∨w=Xq∨w=Xg then (match Yv r with
  | none=>(evZ,false)
  | some ns=>Vl w ns) else (evZ,false)
theorem ZpX:v_ 113 [] []=some (.own 0,[.row 1 (ZjJ.map .str) true false]):=Zg8
theorem ZE0 {w:List UInt8} {k:Nat} (h:∀ j x,j<k→ZjJ[j]?=some x→x≠w) (hk:k≤6):∀ j,j<k→∃ x,ZjJ[j]?=some x∧(x==w)=false∧(x != w)=true:=by
 intro j hj;obtain⟨x,hx⟩:∃ x,ZjJ[j]?=some x:=⟨_,Kw (by show j<6;omega)⟩
 have:=h j x hj hx;exact⟨x,hx,by simpa using this,by simpa using this⟩
theorem ev_ix (w:List UInt8):∃ k:Nat,k≤6∧(∀ j,j<k→∃ x,ZjJ[j]?=some x∧(x==w)=false∧(x != w)=true)∧(k<6→ZjJ[k]?=some w):=by
 have hk:ZjJ.findIdx (fun x=>x==w)≤6:=List.findIdx_le_length;refine⟨ZjJ.findIdx fun x=>x==w,hk,ZE0 (fun j x hj hx=>?_) hk,fun h=>?_⟩
 ·have:=List.not_of_lt_findIdx hj;obtain⟨h1,h2⟩:=Kc.1 hx;rw[h2] at this;simpa using this
 ·have:=List.findIdx_getElem (w:=h);rw[Kw h];simpa using this
theorem Zu6 (r:List (List UInt8)) (h:r≠[]):rdE QP r=match Yv r with
  | none=>(evZ,false)
  | some ns=>Vl QP ns:=by
 unfold rdE;rw[Kd h,Kd (by decide),Kd (by decide),Kd (by decide),Kg (.inl rfl)]
theorem Zyf (r:List (List UInt8)) (h:r≠[]):rdE Xq r=match Yv r with
  | none=>(evZ,false)
  | some ns=>Vl Xq ns:=by
 unfold rdE;rw[Kd h,Kd (by decide),Kd (by decide),Kd (by decide),Kg (.inr (.inl rfl))]
theorem Zu7 (r:List (List UInt8)) (h:r≠[]):rdE Xg r=match Yv r with
  | none=>(evZ,false)
  | some ns=>Vl Xg ns:=by
 unfold rdE;rw[Kd h,Kd (by decide),Kd (by decide),Kd (by decide),Kg (.inr (.inr rfl))]
theorem Zu8 (r:List (List UInt8)) (h:r≠[]):rdE Yf r=lnE 2 r:=by
 unfold rdE;rw[Kd h,Kg rfl]
theorem ZA7 (r:List (List UInt8)) (h:r≠[]):rdE Yg r=lnE 4 r:=by
 unfold rdE;rw[Kd h,Kd (by decide),Kg rfl]
theorem ZA8 (r:List (List UInt8)) (h:r≠[]):rdE ZaP r=Zk5 r:=by
 unfold rdE;rw[Kd h,Kd (by decide),Kd (by decide),Kg rfl]
theorem rdE_no (w:List UInt8) (r:List (List UInt8)) (h:∀ x∈ZjJ,x≠w):rdE w r=(evZ,false):=by
 have h0:=h QP (by simp[ZjJ]);have h1:=h Xq (by simp[ZjJ]);have h2:=h Yf (by simp[ZjJ]);have h3:=h ZaP (by simp[ZjJ]);have h4:=h Yg (by simp[ZjJ]);have h5:=h Xg (by simp[ZjJ]);unfold rdE;rw[Kd (Ne.symm h2),Kd (Ne.symm h4),Kd (Ne.symm h3),Kd (show ¬(w=QP∨w=Xq∨w=Xg) from fun e=>e.elim (fun e=>h0 e.symm) fun e=>e.elim (fun e=>h1 e.symm) fun e=>h5 e.symm),ite_self]
theorem Zyg {ns:List Int} (h:ns.length≠3):Vl QP ns=(evZ,false):=by
 unfold Vl;split
 ·exact Kd (by decide)
 ·exact absurd rfl h
 ·exact Kd (by decide)
 ·rfl
theorem ZzY {ns:List Int} (h:ns.length≠5):Vl Xq ns=(evZ,false):=by
 unfold Vl;split
 ·exact Kd (by decide)
 ·exact Kd (by decide)
 ·exact absurd rfl h
 ·rfl
theorem Zyh {ns:List Int} (h:ns.length≠1):Vl Xg ns=(evZ,false):=by
 unfold Vl;split
 ·exact absurd rfl h
 ·exact Kd (by decide)
 ·exact Kd (by decide)
 ·rfl
theorem ZjC:∀ {ws:List (List UInt8)} {ns:List Int},Yv ws=some ns→ns.length=ws.length
 | [],ns,h=>by cases h;rfl
 | w :: r,ns,h=>by
  simp only[Yv,KZ] at h;obtain⟨v,_,vs,h2,h3⟩:=h;cases h3;simp[ZjC h2]
theorem ZsH (w:List UInt8) (r:List (List UInt8)) (hl:r.length≤1048576) (hw:∀ x∈r,x.length≤1048576) (eK eL eX eY eW eH am an:Int) (ao:Bool) (ap eC eo ea ep:Int) (et:Bool) (ek:List Ze) (ok:Bool) (hE:rdE w r=((Zl.mk eK eL (Box.mk eX eY eW eH) (Zc.mk (Pane.mk am an ao ap) eC) (Ze.mk eo ea ep et ek)),ok)):v_ 111 [.d (.sl (.str w :: r.map .str))] []=some (.tup [.agg [(.d (J eK)),(.d (J eL)),(.d (J eX)),(.d (J eY)),(.d (J eW)),(.d (J eH)),(.d (J am)),(.d (J an)),(.d (.bool ao)),(.d (J ap)),(.d (J eC)),(.d (J eo)),(.d (J ea)),(.d (J ep)),(.d (.bool et)),.own 0],(.d (.bool ok))],[.row 5 (ek.map Ze.enc) true false]):=by
 have e0:=ZpX;obtain⟨K,hK,aq,ar⟩:=ev_ix w;refine cE ?_;simp (maxSteps:=10^7) +contextual -implicitDefEqProofs only[go_sem,seval,Zke];refine LO (α:=Nat) (fun _=>[]) (fun j=>[(0,.box [(.d (J j)),(.d (J 0)),(.d (J 0)),(.d (J 0)),(.d (J 0)),(.d (J 0)),(.d (J 0)),(.d (J 0)),(.d (.bool false)),(.d (J 0)),(.d (J 0)),(.d (J 0)),(.d (J 0)),(.d (J 0)),(.d (.bool false)),.own 2])]) (fun j=>j≤K) (fun j=>K-j) 0 o_ ?_;intro j hj ih;by_cases au:j<K
 ·obtain⟨x,hx,hq,av⟩:=aq j au;have ak:(j:Int)<6:=o_
  have ag : j<6:=o_
  have w1:=Zg (k:=j) o_;simp +contextual -implicitDefEqProofs only[go_sem,seval,e0,XU,ak,ag,hx,hq,av,w1];refine ih (j+1) _ o_ o_ ?_;simp +contextual -implicitDefEqProofs only[go_sem,seval]
 ·have aw:j=K:=o_
  subst aw;clear ih;have ab:(w==w)=true:=by simp
  have aa : (w != w)=false:=by simp
  by_cases h6:j=6
  ·subst h6;rw[rdE_no w r fun x hx=>?_] at hE
   ·cases hE;simp +contextual -implicitDefEqProofs only[go_sem,seval,evZ]
   ·obtain⟨i,hi⟩:=List.mem_iff_getElem?.1 hx;obtain⟨ax,_⟩:=Kc.1 hi;obtain⟨y,hy,hq,_⟩:=aq i ax;rw[hi] at hy;cases hy;simpa using hq
  ·have hx:=ar o_;have ak:(j:Int)<6:=o_
   have ag : j<6:=o_
   have ay:¬(j:Int)=6:=o_
   by_cases hr:r=[]
   ·subst hr;rw[show rdE w []=(evZ,false) from rfl] at hE;cases hE;simp only[Kp];simp +contextual -implicitDefEqProofs only[go_sem,seval,e0,XU,ak,ag,hx,ab,aa,ay]
   ·have h2:1≤r.length:=by
     cases r with
     | nil=>exact absurd rfl hr
     | cons _ _=>simp
    have ad:¬((r.length+1:Nat):Int)<2:=o_
    have ae:(1:Int)≤((r.length+1:Nat):Int):=o_
    have hc:j=0∨j=1∨j=2∨j=3∨j=4∨j=5:=o_
    have e1:=ZsG r o_ hw;have e2:=ZtC r hw;have hu:∀ x:List UInt8,uni 1 (.str x :: r.map D.str):=fun x y hy=>by
     rcases Ke.1 hy with rfl | hy
     ·rfl
     ·obtain⟨z,_,rfl⟩:=Ll.1 hy;rfl
    have af:List.take r.length r=r:=KI;rcases hc with rfl | rfl | rfl | rfl | rfl | rfl
    ·obtain rfl:QP=w:=Option.some.inj hx;rw[Zu6 r hr] at hE;cases hn:Yv r with
     | none=>
      rw[hn] at hE e1;simp only[rnV] at e1;cases hE;simp +contextual -implicitDefEqProofs only[go_sem,seval,e0,XU,hx,ab,aa,ad,ae,hu,af,e1]
     | some ns=>
      have aj:=ZjC hn;rw[hn] at hE e1;replace hE:Vl QP ns=_:=hE;simp only[rnV] at e1;by_cases h3:ns.length=3
      ·obtain⟨l,a,b,rfl⟩:∃ l a b,ns=[l,a,b]:=by
        match ns,h3 with
        | [l,a,b],_=>exact⟨l,a,b,rfl⟩
       rw[show Vl QP [l,a,b]=(⟨0,l,⟨0,0,a,b⟩,ln0,BT.waste.plan⟩,true) from by simp[Vl]] at hE;cases hE;simp only[Kh,Kp,XA] at e1;simp +contextual -implicitDefEqProofs only[go_sem,seval,e0,XU,hx,ab,aa,ad,ae,hu,af,e1]
       all_goals rfl
      ·rw[show Vl QP ns=_ from Zyg h3] at hE;cases hE;obtain⟨v,vs,rfl⟩:∃ v vs,ns=v :: vs:=by
        cases ns with
        | nil=>simp at aj;omega
        | cons v vs=>exact⟨v,vs,rfl⟩
       have ah : ¬((vs.length+1:Nat):Int)=3:=by simp only[Kl] at h3;omega
       have hz:0<vs.length+1:=o_
       have ai:¬vs.length+1=3:=by simp only[Kl] at h3;omega
       simp +contextual -implicitDefEqProofs only[go_sem,seval,e0,XU,hx,ab,aa,ad,ae,hu,af,e1,ah,ai,hz,Kh,XA,Kl]
    ·obtain rfl:Xq=w:=Option.some.inj hx;rw[Zyf r hr] at hE;cases hn:Yv r with
     | none=>
      rw[hn] at hE e1;simp only[rnV] at e1;cases hE;simp +contextual -implicitDefEqProofs only[go_sem,seval,e0,XU,hx,ab,aa,ad,ae,hu,af,e1]
     | some ns=>
      have aj:=ZjC hn;rw[hn] at hE e1;replace hE:Vl Xq ns=_:=hE;simp only[rnV] at e1;by_cases h3:ns.length=5
      ·obtain⟨l,a,b,c,d,rfl⟩:∃ l a b c d,ns=[l,a,b,c,d]:=by
        match ns,h3 with
        | [l,a,b,c,d],_=>exact⟨l,a,b,c,d,rfl⟩
       rw[show Vl Xq [l,a,b,c,d]=(⟨1,l,⟨a,b,c,d⟩,ln0,BT.waste.plan⟩,true) from by simp[Vl]] at hE;cases hE;simp only[Kh,Kp,XA] at e1;simp +contextual -implicitDefEqProofs only[go_sem,seval,e0,XU,hx,ab,aa,ad,ae,hu,af,e1]
       all_goals rfl
      ·rw[show Vl Xq ns=_ from ZzY h3] at hE;cases hE;obtain⟨v,vs,rfl⟩:∃ v vs,ns=v :: vs:=by
        cases ns with
        | nil=>simp at aj;omega
        | cons v vs=>exact⟨v,vs,rfl⟩
       have ah : ¬((vs.length+1:Nat):Int)=5:=by simp only[Kl] at h3;omega
       have hz:0<vs.length+1:=o_
       have ai:¬vs.length+1=5:=by simp only[Kl] at h3;omega
       simp +contextual -implicitDefEqProofs only[go_sem,seval,e0,XU,hx,ab,aa,ad,ae,hu,af,e1,ah,ai,hz,Kh,XA,Kl]
    ·obtain rfl:Yf=w:=Option.some.inj hx;rw[Zu8 r hr] at hE;unfold lnE at hE;cases hn:lnS r with
     | none=>
      rw[hn] at hE e2;simp only[rlV] at e2;cases hE;simp +contextual -implicitDefEqProofs only[go_sem,seval,e0,XU,hx,ab,aa,ad,ae,hu,af,e2]
     | some n=>
      obtain⟨⟨nW,nH,nT,nK⟩,nC⟩:=n;rw[hn] at hE e2;simp only[rlV,Zc.enc] at e2;cases hE;simp +contextual -implicitDefEqProofs only[go_sem,seval,e0,XU,hx,ab,aa,ad,ae,hu,af,e2]
      all_goals rfl
    ·obtain rfl:ZaP=w:=Option.some.inj hx;rw[ZA8 r hr] at hE;obtain⟨a,r,rfl⟩:∃ a r',r=a :: r':=by
      cases r with
      | nil=>exact absurd rfl hr
      | cons a r=>exact⟨a,r,rfl⟩
     have e3:=X9 a (hw a (by simp));by_cases h3:r.length=1
     ·obtain⟨b,rfl⟩:∃ b,r=[b]:=by
       match r,h3 with
       | [b],_=>exact⟨b,rfl⟩
      obtain⟨o,a',q,t,ks,e4,h4⟩:=Zsu b (hw b (by simp));simp only[Zk5,← h4] at hE;cases hE;simp only[Kh,Kp];simp +contextual -implicitDefEqProofs only[go_sem,seval,e0,XU,hx,ab,aa,e3,e4]
      all_goals rfl
     ·rw[show Zk5 (a :: r)=(evZ,false) from ?_] at hE
      ·cases hE;have ah : ¬((r.length+1+1:Nat):Int)=3:=o_
       have ai:¬r.length+1+1=3:=o_
       have al : ¬((r.length+1+1:Nat):Int)<2:=o_
       simp only[Kh];simp +contextual -implicitDefEqProofs only[go_sem,seval,e0,XU,hx,ab,aa,al,e3,ah,ai,Kl]
      ·unfold Zk5;split
       ·rename_i az;cases az;exact absurd rfl h3
       ·rfl
    ·obtain rfl:Yg=w:=Option.some.inj hx;rw[ZA7 r hr] at hE;unfold lnE at hE;cases hn:lnS r with
     | none=>
      rw[hn] at hE e2;simp only[rlV] at e2;cases hE;simp +contextual -implicitDefEqProofs only[go_sem,seval,e0,XU,hx,ab,aa,ad,ae,hu,af,e2]
     | some n=>
      obtain⟨⟨nW,nH,nT,nK⟩,nC⟩:=n;rw[hn] at hE e2;simp only[rlV,Zc.enc] at e2;cases hE;simp +contextual -implicitDefEqProofs only[go_sem,seval,e0,XU,hx,ab,aa,ad,ae,hu,af,e2]
      all_goals rfl
    ·obtain rfl:Xg=w:=Option.some.inj hx;rw[Zu7 r hr] at hE;cases hn:Yv r with
     | none=>
      rw[hn] at hE e1;simp only[rnV] at e1;cases hE;simp +contextual -implicitDefEqProofs only[go_sem,seval,e0,XU,hx,ab,aa,ad,ae,hu,af,e1]
     | some ns=>
      have aj:=ZjC hn;rw[hn] at hE e1;replace hE:Vl Xg ns=_:=hE;simp only[rnV] at e1;by_cases h3:ns.length=1
      ·obtain⟨l,rfl⟩:∃ l,ns=[l]:=by
        match ns,h3 with
        | [l],_=>exact⟨l,rfl⟩
       rw[show Vl Xg [l]=(⟨5,l,bx0,ln0,BT.waste.plan⟩,true) from by simp[Vl]] at hE;cases hE;simp only[Kh,Kp,XA] at e1;simp +contextual -implicitDefEqProofs only[go_sem,seval,e0,XU,hx,ab,aa,ad,ae,hu,af,e1]
       all_goals rfl
      ·rw[show Vl Xg ns=_ from Zyh h3] at hE;cases hE;obtain⟨v,vs,rfl⟩:∃ v vs,ns=v :: vs:=by
        cases ns with
        | nil=>simp at aj;omega
        | cons v vs=>exact⟨v,vs,rfl⟩
       have ah : ¬((vs.length+1:Nat):Int)=1:=by simp only[Kl] at h3;omega
       have hz:0<vs.length+1:=o_
       have ai:¬vs.length+1=1:=by simp only[Kl] at h3;omega
       simp +contextual -implicitDefEqProofs only[go_sem,seval,e0,XU,hx,ab,aa,ad,ae,hu,af,e1,ah,ai,hz,Kh,XA,Kl]
theorem ZDR {w:List UInt8} {r:List (List UInt8)} {e:Zl} {v:Ev} (h:rdE w r=(e,true)) (hv:Wg e=some v):v.ev=e:=by
 have aa:∀ n∈Yw e,six n:=Classical.byContradiction fun h=>by rw[Zia h] at hv;cases hv
 obtain⟨b,hb,ab⟩:∃ b,QS e.plan=some b∧ZmA b:=Classical.byContradiction fun h=>by
  rw[ZcC (e:=e) fun b hb hp=>h ⟨b,hb,hp⟩] at hv;cases hv
 rw[YG aa hb ab] at hv;simp only[Yw,Ke,Kx,or_false,forall_eq_or_imp,forall_eq] at aa;obtain⟨n1,n2,n3,n4,n5,n6,n7,n8,n9,ad⟩:=aa;simp only[six] at n2 n3 n4 n5 n6;unfold rdE at h;split at h
 ·cases h
 split at h
 ·unfold lnE at h;split at h
  ·cases h;simp[Yx] at hv;rw[← hv];rfl
  ·cases h
 split at h
 ·unfold lnE at h;split at h
  ·cases h;simp[Yx] at hv;rw[← hv];rfl
  ·cases h
 split at h
 ·unfold Zk5 at h;split at h
  ·rename_i p;obtain⟨rfl,hs⟩:=Prod.mk.inj h;simp only[XG,Option.some.injEq] at hb;subst hb;simp[Yx] at hv;simp only at n2;rw[← hv];simp only[Ev.ev,KR n2.1]
  ·cases h
 split at h
 ·split at h
  ·cases h
  ·unfold Vl at h;split at h
   ·split at h
    ·cases h;simp[Yx] at hv;simp only at n2;rw[← hv];simp only[Ev.ev,KR n2.1]
    ·cases h
   ·split at h
    ·cases h;simp[Yx] at hv;simp only at n2 n5 n6;rw[← hv];simp only[Ev.ev,KR n2.1,KR n5.1,KR n6.1]
    ·cases h
   ·split at h
    ·cases h;simp[Yx] at hv;simp only at n2 n3 n4 n5 n6;rw[← hv];simp only[Ev.ev,KR n2.1,KR n3.1,KR n4.1,KR n5.1,KR n6.1]
    ·cases h
   ·cases h
 ·cases h
theorem Zob {ns:List Nat} (h:∀ n∈ns,n≤999999):Yv (ns.map num)=some (ns.map fun n:Nat=>(n:Int)):=by
 rw[Zk4,ZcA h];rfl
theorem ZDS {b:BT} (h:ZmA b):Ze9 (shw b)=some b:=ZjA.2 ⟨h.2.2,rfl,h.1,h.2.1⟩
theorem ZCp {v:Ev} (h:v.ok):∃ w r,v.words=w :: r∧rdE w r=(v.ev,true):=by
 cases v with
 | sheet l a b=>
  obtain⟨h1,h2,h3⟩:=h;refine⟨_,_,rfl,?_⟩;rw[Zu6 _ (by simp),show [num l,num a,num b]=[l,a,b].map num from rfl,Zob (by simp[h1,h2,h3])];simp[Vl,Ev.ev]
 | flaw l x y a b=>
  obtain⟨h1,h2,h3,h4,h5⟩:=h;refine⟨_,_,rfl,?_⟩;rw[Zyf _ (by simp),show [num l,num x,num y,num a,num b]=[l,x,y,a,b].map num from rfl,Zob (by simp[h1,h2,h3,h4,h5])];simp[Vl,Ev.ev]
 | order n=>
  refine⟨_,_,rfl,?_⟩;rw[Zu8 _ (by simp[Xe])];unfold lnE;rw[Zx8 (Zga h)];rfl
 | cut l b=>
  obtain⟨h1,h2⟩:=h;refine⟨_,_,rfl,?_⟩;rw[ZA8 _ (by simp)];simp only[Zk5,ZDS h2,ZaN (Zcv h1)];rfl
 | brk n=>
  refine⟨_,_,rfl,?_⟩;rw[ZA7 _ (by simp[Xe])];unfold lnE;rw[Zx8 (Zga h)];rfl
 | scrap l=>
  have h1:l≤999999:=h;refine⟨_,_,rfl,?_⟩;rw[Zu7 _ (by simp),show [num l]=[l].map num from rfl,Zob (by simp[h1])];simp[Vl,Ev.ev]
theorem Zyi {s w:List UInt8} {r:List (List UInt8)} {v:Ev} (hs:ZL 32 s=w :: r) (h:Zhl s=some v):rdE w r=(v.ev,true):=by
 obtain⟨rfl,ho⟩:=ZjB.1 h;obtain⟨w',r',h1,h2⟩:=ZCp ho;rw[Ev.text,Zk0 (Zyb v) (ZA6 v),h1] at hs;obtain⟨rfl,rfl⟩:=List.cons.inj hs;exact h2
theorem ZpY (s:List UInt8) (hs:s.length≤1048576):PeR (v_ 58 [.d (.str s)] []) (Zhl s):=by
 have e1:=Zmv s 32 32 rfl hs;obtain⟨w,r,ad⟩:∃ w r,ZL 32 s=w :: r:=by
  cases h:ZL 32 s with
  | nil=>exact absurd h (WR 32 s)
  | cons w r=>exact⟨w,r,rfl⟩
 have af:=Zk2 32 s;have ag:=Zfd 32 s;have ai:s.count 32≤s.length:=Kav;rw[ad] at e1 af ag;simp only[Kl] at ag;simp only[Kh] at e1;obtain⟨⟨⟨K,L,⟨X,Y,W,H⟩,⟨⟨pW,pH,pT,pK⟩,C⟩,⟨o,a,q,t,ks⟩⟩,ok⟩,hE⟩:∃ x,rdE w r=x:=⟨_,rfl⟩
 have e2:=ZsH w r o_ (fun x hx=>by have:=af x (by simp[hx]);omega) K L X Y W H pW pH pT pK C o a q t ks ok hE;have aa:(∀ v,Zhl s=some v→False)→Zhl s=none:=fun h=>by
  cases hp:Zhl s with
  | none=>rfl
  | some v=>exact absurd (h v hp) id
 cases ok with
 | false=>
  rw[aa fun v h=>by rw[Zyi ad h] at hE;exact absurd (Prod.mk.inj hE).2 (by simp)];refine ZzX ?_;refine cE ?_;simp (maxSteps:=10^7) +contextual -implicitDefEqProofs only[go_sem,seval,WF,e1,e2]
 | true=>
  have e3:=Zbp K L X Y W H pW pH pT pK C o a q t ks;have ab:∀ v,Zhl s=some v→Wg ⟨K,L,⟨X,Y,W,H⟩,⟨⟨pW,pH,pT,pK⟩,C⟩,.mk o a q t ks⟩=some v∧v.text=s:=fun v h=>by
   have h1:=Zyi ad h;rw[hE] at h1;obtain⟨h2,h3⟩:=ZjB.1 h;rw[(Prod.mk.inj h1).1];exact⟨ZEY h3,h2.symm⟩
  cases hv:Wg ⟨K,L,⟨X,Y,W,H⟩,⟨⟨pW,pH,pT,pK⟩,C⟩,.mk o a q t ks⟩ with
  | none=>
   rw[aa fun v h=>by rw[(ab v h).1] at hv;cases hv];rw[hv,Kv] at e3;refine ZzX ?_;refine cE ?_;simp (maxSteps:=10^7) +contextual -implicitDefEqProofs only[go_sem,seval,WF,e1,e2,e3]
  | some v=>
   have e4:=ZcD K L X Y W H pW pH pT pK C o a q t ks v hv;rw[hv,KV] at e3;by_cases ht:v.text=s
   ·have ah:=(Zwn hv).1;rw[ZjB.2 ⟨ht.symm,ah⟩];rw[ht] at e4;have ae:(s != s)=false:=by simp
    refine⟨K,L,X,Y,W,H,pW,pH,pT,pK,C,o,a,q,t,ks,?_,(ZDR hE hv).symm⟩;refine cE ?_;simp (maxSteps:=10^7) +contextual -implicitDefEqProofs only[go_sem,seval,WF,e1,e2,e3,e4,ae]
    all_goals rfl
   ·have ae:(v.text==s)=false:=by simp[ht]
    rw[aa fun v' h=>ht (by obtain⟨h1,h2⟩:=ab v' h;rw[hv] at h1;cases h1;exact h2)];refine ZzX ?_;refine cE ?_;simp (maxSteps:=10^7) +contextual -implicitDefEqProofs only[go_sem,seval,WF,e1,e2,e3,e4,ae]
end Go.Proofs.YtfnegoimdljanaaGreatDoor
