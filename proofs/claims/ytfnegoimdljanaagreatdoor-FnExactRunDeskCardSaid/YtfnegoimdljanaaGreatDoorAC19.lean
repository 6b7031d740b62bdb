/- Own text. -/
import Derived.Test.YtfnegoimdljanaaGreatDoorACode
import Derived.Test.YtfnegoimdljanaaGreatDoorAC1
import Derived.Test.YtfnegoimdljanaaGreatDoorAC5
import Derived.Test.YtfnegoimdljanaaGreatDoorAC18
import Derived.Test.YtfnegoimdljanaaGreatDoorAbsOkD
namespace Go.Proofs.YtfnegoimdljanaaGreatDoor
open Go Go.Abs Go.Abs.E Go.Abs.L
set_option linter.unusedSimpArgs false
set_option linter.unusedVariables false
set_option maxRecDepth 20000
set_option maxHeartbeats 4000000
def QN:List UInt8:=[115,104,101,101,116]
def Xq:List UInt8:=[102,108,97,119]
def Yj:List UInt8:=[111,114,100,101,114]
def ZbT:List UInt8:=[99,117,116]
def Yk:List UInt8:=[98,114,101,97,107]
def Xj:List UInt8:=[115,99,114,97,112]
inductive Ev where
 | sheet (l w h:Nat)
 | flaw (l x y w h:Nat)
 | order (n:Zc)
 | cut (l:Nat) (b:BT)
 | brk (n:Zc)
 | scrap (l:Nat)
deriving DecidableEq
def bx0:Box:=⟨0,0,0,0⟩
def ln0:Zc:=⟨⟨0,0,false,0⟩,0⟩
def Ev.ev:Ev→Zn
 | .sheet l w h=>⟨0,l,⟨0,0,w,h⟩,ln0,BT.waste.plan⟩
 | .flaw l x y w h=>⟨1,l,⟨x,y,w,h⟩,ln0,BT.waste.plan⟩
 | .order n=>⟨2,0,bx0,n,BT.waste.plan⟩
 | .cut l b=>⟨3,l,bx0,ln0,b.plan⟩
 | .brk n=>⟨4,0,bx0,n,BT.waste.plan⟩
 | .scrap l=>⟨5,l,bx0,ln0,BT.waste.plan⟩
def Ev.words:Ev→List (List UInt8)
 | .sheet l w h=>[QN,num l,num w,num h]
 | .flaw l x y w h=>[Xq,num l,num x,num y,num w,num h]
 | .order n=>Yj :: XE n
 | .cut l b=>[ZbT,num l,shw b]
 | .brk n=>Yk :: XE n
 | .scrap l=>[Xj,num l]
def Ev.text (v:Ev):List UInt8:=YL 32 v.words
def Zl8 (b:BT):Prop:=b.cnt≤255∧YS b=true∧(shw b).length≤1600
instance (b:BT):Decidable (Zl8 b):=by unfold Zl8;infer_instance
def Ev.ok:Ev→Prop
 | .sheet l w h=>l≤999999∧w≤999999∧h≤999999
 | .flaw l x y w h=>l≤999999∧x≤999999∧y≤999999∧w≤999999∧h≤999999
 | .order n=>Zro n
 | .cut l b=>l≤999999∧Zl8 b
 | .brk n=>Zro n
 | .scrap l=>l≤999999
def Zxj (s:List UInt8):Option BT:=if s.length≤1600 then Znz s else none
theorem Zl9 {s:List UInt8} {b:BT}:Zxj s=some b↔s=shw b∧Zl8 b:=by
 unfold Zxj;constructor
 ·intro h;split at h
  ·rename_i hl;obtain⟨h1,h2,h3⟩:=Zit.1 h;exact⟨h1,h2,h3,h1 ▸ hl⟩
  ·cases h
 ·rintro ⟨rfl,h1,h2,h3⟩
  rw[Kg h3];exact ZDE h1 h2
def Zcf:List (List UInt8)→Option (List Nat)
 | []=>some []
 | w :: r=>(rd w).bind fun n=>(Zcf r).bind fun l=>some (n :: l)
theorem Ziw:∀ {ws:List (List UInt8)} {ns:List Nat},Zcf ws=some ns→ws=ns.map num∧∀ n∈ns,n≤999999
 | [],ns,h=>by simp[Zcf] at h;subst h;simp
 | w :: r,ns,h=>by
  simp only[Zcf,KZ] at h;obtain⟨n,h1,l,h2,h3⟩:=h;cases h3;obtain⟨e1,b1⟩:=UR h1;obtain⟨e2,b2⟩:=Ziw h2;refine⟨by rw[e1,e2];rfl,fun x hx=>?_⟩;rcases Ke.1 hx with rfl | hx
  ·exact b1
  ·exact b2 x hx
theorem ZdO:∀ {ns:List Nat},(∀ n∈ns,n≤999999)→Zcf (ns.map num)=some ns
 | [],_=>rfl
 | n :: r,h=>by
  have ih:=ZdO (ns:=r) (fun x hx=>h x (Kz _ hx));simp only[Kk,Zcf,ZdK (h n (Lm ..)),KT,ih]
def ZgU (w:List UInt8):List Nat→Option Ev
 | [l]=>if w=Xj then some (.scrap l) else none
 | [l,a,b]=>if w=QN then some (.sheet l a b) else none
 | [l,x,y,a,b]=>if w=Xq then some (.flaw l x y a b) else none
 | _=>none
def ZCH:List (List UInt8)→Option Ev
 | [a,p]=>(rd a).bind fun l=>(Zxj p).bind fun b=>some (.cut l b)
 | _=>none
def Uc:List (List UInt8)→Option Ev
 | []=>none
 | w :: r=>if w=Yj then (Zgj r).bind fun n=>some (.order n) else if w=Yk then (Zgj r).bind fun n=>some (.brk n) else if w=ZbT then ZCH r else (Zcf r).bind (ZgU w)
theorem Zxk {ws:List (List UInt8)} {v:Ev} (h:Uc ws=some v):ws=v.words∧v.ok:=by
 cases ws with
 | nil=>simp[Uc] at h
 | cons w r=>
  simp only[Uc] at h;split at h
  ·rename_i hw;simp only[KZ] at h;obtain⟨n,h1,h2⟩:=h;cases h2;obtain⟨e,s⟩:=ZvG h1;exact⟨by rw[hw,e];rfl,s⟩
  ·split at h
   ·rename_i hw;simp only[KZ] at h;obtain⟨n,h1,h2⟩:=h;cases h2;obtain⟨e,s⟩:=ZvG h1;exact⟨by rw[hw,e];rfl,s⟩
   ·split at h
    ·rename_i hw;unfold ZCH at h;split at h
     ·simp only[KZ] at h;obtain⟨n,h1,b,h2,h3⟩:=h;cases h3;obtain⟨e1,b1⟩:=UR h1;obtain⟨e2,b2⟩:=Zl9.1 h2;exact⟨by rw[hw,e1,e2];rfl,b1,b2⟩
     ·cases h
    ·simp only[KZ] at h;obtain⟨ns,h1,h2⟩:=h;obtain⟨e1,b1⟩:=Ziw h1;unfold ZgU at h2;split at h2
     ·split at h2
      ·rename_i hw;cases h2;exact⟨by rw[hw,e1];rfl,b1 _ (by simp)⟩
      ·cases h2
     ·split at h2
      ·rename_i hw;cases h2;exact⟨by rw[hw,e1];rfl,b1 _ (by simp),b1 _ (by simp),b1 _ (by simp)⟩
      ·cases h2
     ·split at h2
      ·rename_i hw;cases h2;exact⟨by rw[hw,e1];rfl,b1 _ (by simp),b1 _ (by simp),b1 _ (by simp),b1 _ (by simp),b1 _ (by simp)⟩
      ·cases h2
     ·cases h2
theorem Zur {v:Ev} (h:v.ok):Uc v.words=some v:=by
 have d1:¬QN=Yj:=by decide
 have d2:¬QN=Yk:=by decide
 have d3:¬QN=ZbT:=by decide
 have d4:¬Xq=Yj:=by decide
 have d5:¬Xq=Yk:=by decide
 have d6:¬Xq=ZbT:=by decide
 have d7:¬Xj=Yj:=by decide
 have d8:¬Xj=Yk:=by decide
 have d9:¬Xj=ZbT:=by decide
 have aa:¬ZbT=Yj:=by decide
 have ab:¬ZbT=Yk:=by decide
 have ad:¬Yk=Yj:=by decide
 cases v with
 | sheet l w h' =>
  obtain⟨h1,h2,h3⟩:=h;have e:=ZdO (ns:=[l,w,h']) (by simp;omega);simp only[Kk,Ks] at e;simp only[Ev.words,Uc,Kd d1,Kd d2,Kd d3,e,KT,ZgU,Km]
 | flaw l x y w h' =>
  obtain⟨h1,h2,h3,h4,h5⟩:=h;have e:=ZdO (ns:=[l,x,y,w,h']) (by simp;omega);simp only[Kk,Ks] at e;simp only[Ev.words,Uc,Kd d4,Kd d5,Kd d6,e,KT,ZgU,Km]
 | order n=>simp only[Ev.words,Uc,Km,ZgT (l:=n) h,KT]
 | brk n=>simp only[Ev.words,Uc,Kd ad,Km,ZgT (l:=n) h,KT]
 | cut l b=>
  obtain⟨h1,h2⟩:=h;simp only[Ev.words,Uc,Kd aa,Kd ab,Km,ZCH,ZdK h1,Zl9.2 ⟨rfl,h2⟩,KT]
 | scrap l=>
  have h1:l≤999999:=h;have e:=ZdO (ns:=[l]) (by simp;omega);simp only[Kk,Ks] at e;simp only[Ev.words,Uc,Kd d7,Kd d8,Kd d9,e,KT,ZgU,Km]
theorem Zxl {c:UInt8} (hd:isD c=false) (h:c≠119∧c≠112∧c≠116∧c≠100∧c≠97∧c≠40∧c≠44∧c≠41):∀ b:BT,c∉shw b
 | .waste=>by simp[shw,h]
 | .pane i t=>by
  simp only[shw,Ke,not_or];exact⟨by cases t<;>simp[h],Zfv hd _⟩
 | .cut d a l r=>by
  simp only[shw,Ke,Ki,not_or,KL,not_false_eq_true,and_true];exact⟨by cases d<;>simp[h],Zfv hd _,h.2.2.2.2.2.1,Zxl hd h l,h.2.2.2.2.2.2.1,Zxl hd h r,h.2.2.2.2.2.2.2⟩
theorem ZCI (v:Ev):∀ w∈v.words,(32:UInt8)∉w:=by
 intro w hw;cases v with
 | order n=>
  rcases Ke.1 hw with rfl | hw
  ·decide
  ·exact Zrq n w hw
 | brk n=>
  rcases Ke.1 hw with rfl | hw
  ·decide
  ·exact Zrq n w hw
 | cut l b=>
  simp only[Ev.words,Ke,KL,or_false] at hw;rcases hw with rfl | rfl | rfl
  ·decide
  ·exact Zfv rfl _
  ·exact Zxl rfl (by decide) b
 | sheet l a b=>
  simp only[Ev.words,Ke,KL,or_false] at hw;rcases hw with rfl | rfl | rfl | rfl<;>first | decide | exact Zfv rfl _
 | flaw l x y a b=>
  simp only[Ev.words,Ke,KL,or_false] at hw;rcases hw with rfl | rfl | rfl | rfl | rfl | rfl<;>first | decide | exact Zfv rfl _
 | scrap l=>
  simp only[Ev.words,Ke,KL,or_false] at hw;rcases hw with rfl | rfl<;>first | decide | exact Zfv rfl _
def Zik (s:List UInt8):Option Ev:=Uc (ZL 32 s)
theorem Zy1 (v:Ev):v.words≠[]:=by cases v<;>simp[Ev.words]
theorem ZjP {s:List UInt8} {v:Ev}:Zik s=some v↔s=v.text∧v.ok:=by
 unfold Zik;constructor
 ·intro h;obtain⟨h1,h2⟩:=Zxk h;exact⟨by rw[Ev.text,← h1,Zri],h2⟩
 ·rintro ⟨rfl,h⟩
  rw[Ev.text,Zk4 (Zy1 v) (ZCI v),Zur h]
def Zrt:Nat→Nat→List UInt8→List Ev
 | 0,_,_=>[]
 | n+1,k,s=>if 40≤k then [] else match Xp 10 s with
  | none=>[]
  | some i=>match Zik (s.take i) with
   | none=>[]
   | some v=>v :: Zrt n (k+1) (s.drop (i+1))
def ZoT (l:List Ev):List UInt8:=Q4 Ev.text l
theorem ZvJ:∀ {n k:Nat} {s:List UInt8},∃ r,s=ZoT (Zrt n k s)++r∧(Zrt n k s).length+k≤max k 40∧(∀ v∈Zrt n k s,v.ok)
 | 0,k,s=>⟨s,by simp[Zrt,ZoT,Q4],by simp[Zrt];omega,by simp[Zrt]⟩
 | n+1,k,s=>by
  rw[Zrt];split
  ·exact⟨s,by simp[ZoT,Q4],by simp;omega,by simp⟩
  ·split
   ·exact⟨s,by simp[ZoT,Q4],by simp;omega,by simp⟩
   ·rename_i i hi;split
    ·exact⟨s,by simp[ZoT,Q4],by simp;omega,by simp⟩
    ·rename_i v hv;obtain⟨h1,h2,h3⟩:=JD hi;obtain⟨e1,e2⟩:=ZjP.1 hv;obtain⟨r,g1,g2,g3⟩:=ZvJ (n:=n) (k:=k+1) (s:=s.drop (i+1));refine⟨r,?_,by simp only[Kl];omega,fun x hx=>?_⟩
     ·rw[ZoT,ZoR,← ZoT,KK,KD,← g1,← e1];exact h1
     ·rcases Ke.1 hx with rfl | hx
      ·exact e2
      ·exact g3 x hx
theorem ZnF (c:UInt8) (m:Nat):∀ ws:List (List UInt8),(∀ w∈ws,w.length≤m)→(YL c ws).length≤ws.length*(m+1)
 | [],_=>by simp[YL]
 | [x],h=>by have:=h x (by simp);simp[YL];omega
 | x :: y :: r,h=>by
  have ih:=ZnF c m (y :: r) (fun w hw=>h w (by simp[hw]));have hx:=h x (by simp);simp only[YL,Kq,Kl] at ih ⊢;rw[KV _ 1];omega
theorem ZdP (n:Int) (h:six n):(num n.toNat).length≤6:=Yi 5 n.toNat (by have:=h.1;have:=h.2;omega)
theorem Ud (w:List UInt8) (ns:List Int) (hl:ns.length≤10) (h6:∀ n∈ns,six n) (hw:w.length≤10):Zd Xs Ms 44 [.d (.str w),.d (.sl (ns.map X3))] []=some (.d (.str (YL 32 (w :: ns.map fun n=>num n.toNat))),[]):=by
 have ae:(YL 32 (w :: ns.map fun n=>num n.toNat)).length≤1000:=by
  have:=ZnF 32 10 (w :: ns.map fun n=>num n.toNat) (by
   intro x hx;rcases Ke.1 hx with rfl | hx
   ·exact hw
   ·obtain⟨n,hn,rfl⟩:=Li.1 hx;have:=ZdP n (h6 n hn);omega)
  simp only[Kl,KC] at this;omega
 have hj:=Zia (w :: ns.map fun n=>num n.toNat) 32 (by simp) (by simp;omega) (by omega);simp only[Kk] at hj;refine cE ?_;simp +contextual -implicitDefEqProofs (maxSteps:=10^7) only[go_sem,seval,Zcn];refine LO (α:=Nat) (fun k=>[(12,.d (J (k:Int)))]) (fun k=>[(0,.row 1 ((w :: (ns.take k).map fun n=>num n.toNat).map .str) true false)]) (fun k=>k≤ns.length) (fun k=>ns.length-k) 0 (by simp) ?_;intro k hk ih;by_cases ad:k<ns.length
 ·obtain⟨x,hx⟩:=Zp ad;have ab : (k:Int)<(ns.length:Int):=by omega
  have af:=Zg (k:=k) (by omega);have hs:=h6 x (Kc hx);have e1:=Qe x hs.1 (by have:=hs.2;omega);have aa:((ns.take k).length+1+1)*16≤140737488355328∧(ns.take k).length≤140737488355326:=by simp;omega
  have ht:ns.take (k+1)=ns.take k++[x]:=by rw[KB,hx];rfl
  simp +contextual -implicitDefEqProofs only[go_sem,seval,ab,ad,hx,af,e1,aa,X3];refine ih (k+1) _ (by omega) (by omega) ?_;simp +contextual -implicitDefEqProofs only[go_sem,seval,ht,KI,Kk,Ks,KD]
 ·have:k=ns.length:=by omega
  subst this;simp +contextual -implicitDefEqProofs only[go_sem,seval,KN,hj]
def Yy (e:Zn):List Int:=[e.kind,e.label,e.box.X,e.box.Y,e.box.W,e.box.H,e.line.Pane.W,e.line.Pane.H,e.line.Pane.Kind,e.line.Count]
theorem Zus (eK eL eX eY eW eH ae af:Int) (ai:Bool) (ag eC eo ea ep:Int) (et:Bool) (ek:List Ze):Zd Xs Ms 43 [(.d (.agg [J eK,J eL,J eX,J eY,J eW,J eH,J ae,J af,.bool ai,J ag,J eC,J eo,J ea,J ep,.bool et,.sl (ek.map Ze.enc)]))] []=some ((.d (.bool (decide (∀ n∈Yy (Zn.mk eK eL (Box.mk eX eY eW eH) (Zc.mk (Pane.mk ae af ai ag) eC) (Ze.mk eo ea ep et ek)),six n)))),[]):=by
 obtain⟨xs,aj⟩:∃ xs,xs=Yy (Zn.mk eK eL (Box.mk eX eY eW eH) (Zc.mk (Pane.mk ae af ai ag) eC) (Ze.mk eo ea ep et ek)):=⟨_,rfl⟩
 have ab:xs.length=10:=by rw[aj];rfl
 rw[← aj];refine cE ?_;simp +contextual -implicitDefEqProofs (maxSteps:=10^7) only[go_sem,seval,Zhh];have ak:([J eK,J eL,J eX,J eY,J eW,J eH,J ae,J af,J ag,J eC]:List D)=xs.map X3:=by rw[aj];rfl
 rw[ak];refine LO (α:=Nat) (fun k=>[(38,.d (J (k:Int)))]) (fun _=>[]) (fun k=>k≤10∧∀ n∈xs.take k,six n) (fun k=>10-k) 0 (by simp) ?_;intro k ⟨hk,hp⟩ ih;by_cases ah:k<xs.length
 ·obtain⟨x,hx⟩:=Zp ah;have ad : (k:Int)<10:=by omega
  have aa:k<10:=by omega
  have al:=Zg (k:=k) (by omega);by_cases hs:six x
  ·have n1:¬x<0:=by have:=hs.1;omega
   have n2:¬999999<x:=by have:=hs.2;omega
   simp +contextual -implicitDefEqProofs only[go_sem,seval,ad,ah,aa,hx,al,X3,n1,n2,ab];refine ih (k+1) _ ⟨by omega,?_⟩ (by omega) ?_
   ·intro n hn;rw[KB,hx] at hn;rcases Ki.1 hn with hn | hn
    ·exact hp n hn
    ·simp only[L3,KE] at hn;rw[hn];exact hs
   ·simp +contextual -implicitDefEqProofs only[go_sem,seval]
  ·have an:decide (∀ n∈xs,six n)=false:=Kj fun h=>hs (h x (Kc hx));rw[an];by_cases n1:x<0
   ·simp +contextual -implicitDefEqProofs only[go_sem,seval,ad,ah,aa,hx,al,X3,n1,ab]
   ·have n2:999999<x:=by
     rcases Int.lt_or_le 999999 x with h | h
     ·exact h
     ·exact absurd ⟨by omega,h⟩ hs
    simp +contextual -implicitDefEqProofs only[go_sem,seval,ad,ah,aa,hx,al,X3,n1,n2,ab]
 ·have ao:k=10:=by omega
  subst ao;have am:decide (∀ n∈xs,six n)=true:=by
   refine Kh fun n hn=>hp n ?_;rw[KJ (by omega)];exact hn
  rw[am];simp +contextual -implicitDefEqProofs only[go_sem,seval,ab]
def Yz (e:Zn) (b:BT):Option Ev:=
 if e.kind=0 then (if e.box.X=0∧e.box.Y=0 then some (.sheet e.label.toNat e.box.W.toNat e.box.H.toNat) else none)
 else if e.kind=1 then some (.flaw e.label.toNat e.box.X.toNat e.box.Y.toNat e.box.W.toNat e.box.H.toNat)
 else if e.kind=2 then some (.order e.line)
 else if e.kind=3 then some (.cut e.label.toNat b)
 else if e.kind=4 then some (.brk e.line)
 else if e.kind=5 then some (.scrap e.label.toNat)
 else none
def Zay (e:Zn):Option Ev:=if ∀ n∈Yy e,six n then
  match QU e.plan with
  | some b=>if Zl8 b then Yz e b else none
  | none=>none
 else none
def ZDI (e:Zn):List UInt8:=match Zay e with
 | some v=>v.text
 | none=>[]
theorem Zgn {e:Zn} (h:Zay e=none):ZDI e=[]:=by unfold ZDI;rw[h]
theorem Jk {e:Zn} {v:Ev} (h:Zay e=some v):ZDI e=v.text:=by unfold ZDI;rw[h]
theorem Zix {e:Zn} (h:¬∀ n∈Yy e,six n):Zay e=none:=by unfold Zay;rw[Kd h]
theorem ZdQ {e:Zn} (h:∀ b,QU e.plan=some b→¬Zl8 b):Zay e=none:=by
 unfold Zay;split
 ·cases hb:QU e.plan with
  | none=>rfl
  | some b=>simp only;rw[Kd (h b hb)]
 ·rfl
theorem YO {e:Zn} {b:BT} (h:∀ n∈Yy e,six n) (hb:QU e.plan=some b) (hp:Zl8 b):Zay e=Yz e b:=by
 unfold Zay;rw[Kg h,hb];simp only;rw[Kg hp]
theorem ZnG (eK eL eX eY eW eH ab ad:Int) (ae:Bool) (af eC eo ea ep:Int) (et:Bool) (ek:List Ze):Zd Xs Ms 16 [(.d (.agg [J eK,J eL,J eX,J eY,J eW,J eH,J ab,J ad,.bool ae,J af,J eC,J eo,J ea,J ep,.bool et,.sl (ek.map Ze.enc)]))] []=some (.d (.str (ZDI (Zn.mk eK eL (Box.mk eX eY eW eH) (Zc.mk (Pane.mk ab ad ae af) eC) (Ze.mk eo ea ep et ek)))),[]):=by
 have e1:=ZpZ (.mk eo ea ep et ek);rw[Ze.enc_mk] at e1;have e2:=Zus eK eL eX eY eW eH ab ad ae af eC eo ea ep et ek;by_cases hw:∀ n∈Yy (Zn.mk eK eL (Box.mk eX eY eW eH) (Zc.mk (Pane.mk ab ad ae af) eC) (Ze.mk eo ea ep et ek)),six n
 ·rw[Kh hw] at e2;rcases ZA9 (.mk eo ea ep et ek) with hf | ⟨b,hb,hb1,hb2,hf⟩
  ·rw[hf] at e1;have ai:Zay (Zn.mk eK eL (Box.mk eX eY eW eH) (Zc.mk (Pane.mk ab ad ae af) eC) (Ze.mk eo ea ep et ek))=none:=by
    refine ZdQ fun b hb hp=>?_;have:=ZnA hb;rw[hf,Kg ⟨hp.1,hp.2.1⟩] at this;cases b<;>cases this
   rw[Zgn ai];refine cE ?_;simp +contextual -implicitDefEqProofs (maxSteps:=10^7) only[go_sem,seval,Z0,e1,e2]
  ·rw[hf] at e1;have aa:(shw b==[])=false:=by cases b<;>rfl
   have aj:QU (.mk eo ea ep et ek)=some b:=by rw[hb];exact XI b
   by_cases hl:(shw b).length≤1600
   ·have ag : ¬(1600:Int)<((shw b).length:Int):=by omega
    have hk:=YO (e:=(Zn.mk eK eL (Box.mk eX eY eW eH) (Zc.mk (Pane.mk ab ad ae af) eC) (Ze.mk eo ea ep et ek))) hw aj ⟨hb1,hb2,hl⟩;simp only[Yy,Ke,KL,or_false,forall_eq_or_imp,forall_eq] at hw;obtain⟨n1,n2,n3,n4,n5,n6,n7,n8,n9,am⟩:=hw;simp only[Yz] at hk;by_cases k0:eK=0
    ·rw[Kg k0] at hk;by_cases ah:eX=0∧eY=0
     ·rw[Kg ah] at hk;rw[Jk hk];obtain⟨hx,hy⟩:=ah;subst k0 hx hy;have e3:=Ud QN [eL,eW,eH] (by simp) (by simp[n2,n5,n6]) (by decide);simp only[Kk,Ks,X3,QN] at e3;simp only[Ev.text,Ev.words,QN];refine cE ?_;simp +contextual -implicitDefEqProofs (maxSteps:=10^7) only[go_sem,seval,Z0,e1,e2,aa,ag,e3]
     ·rw[Kd ah] at hk;rw[Zgn hk];by_cases hx:eX=0
      ·have hy:¬eY=0:=fun h=>ah ⟨hx,h⟩;subst k0 hx;refine cE ?_;simp +contextual -implicitDefEqProofs (maxSteps:=10^7) only[go_sem,seval,Z0,e1,e2,aa,ag,hy]
      ·subst k0;refine cE ?_;simp +contextual -implicitDefEqProofs (maxSteps:=10^7) only[go_sem,seval,Z0,e1,e2,aa,ag,hx]
    rw[Kd k0] at hk;by_cases k1:eK=1
    ·rw[Kg k1] at hk;rw[Jk hk];subst k1;have e3:=Ud Xq [eL,eX,eY,eW,eH] (by simp) (by simp[n2,n3,n4,n5,n6]) (by decide);simp only[Kk,Ks,X3,Xq] at e3;simp only[Ev.text,Ev.words,Xq];refine cE ?_;simp +contextual -implicitDefEqProofs (maxSteps:=10^7) only[go_sem,seval,Z0,e1,e2,aa,ag,e3]
    rw[Kd k1] at hk;have ak:Zro ⟨⟨ab,ad,ae,af⟩,eC⟩:=⟨am,n7,n8,n9⟩
    have e4:=Zuo ab ad ae af eC ak;have an:=ZeN ⟨⟨ab,ad,ae,af⟩,eC⟩ ak;have bl:6+(ZaI ⟨⟨ab,ad,ae,af⟩,eC⟩).length≤1152921504606846976:=by unfold ZaI;omega
    by_cases k2:eK=2
    ·rw[Kg k2] at hk;rw[Jk hk];subst k2;have ht:Ev.text (.order ⟨⟨ab,ad,ae,af⟩,eC⟩)=[111,114,100,101,114,32]++ZaI ⟨⟨ab,ad,ae,af⟩,eC⟩:=rfl;rw[ht];refine cE ?_;simp +contextual -implicitDefEqProofs (maxSteps:=10^7) only[go_sem,seval,Z0,e1,e2,aa,ag,e4,bl]
    rw[Kd k2] at hk;by_cases k3:eK=3
    ·rw[Kg k3] at hk;rw[Jk hk];subst k3;have e3:=Ud ZbT [eL] (by simp) (by simp[n2]) (by decide);simp only[Kk,Ks,X3,ZbT] at e3;have ao:=ZdP eL n2;have ht:Ev.text (.cut eL.toNat b)=YL 32 [[99,117,116],num eL.toNat]++[32]++shw b:=by simp[Ev.text,Ev.words,YL,ZbT]
     have ap:(YL 32 [[99,117,116],num eL.toNat]).length≤20:=by simp[YL];omega
     rw[ht];generalize YL 32 [[99,117,116],num eL.toNat]=jt at *;have b1:jt.length+1≤1152921504606846976:=by omega
     have b2:jt.length+1+(shw b).length≤1152921504606846976:=by omega
     refine cE ?_;simp +contextual -implicitDefEqProofs (maxSteps:=10^7) only[go_sem,seval,Z0,e1,e2,aa,ag,e3,b1,b2]
    rw[Kd k3] at hk;by_cases k4:eK=4
    ·rw[Kg k4] at hk;rw[Jk hk];subst k4;have ht:Ev.text (.brk ⟨⟨ab,ad,ae,af⟩,eC⟩)=[98,114,101,97,107,32]++ZaI ⟨⟨ab,ad,ae,af⟩,eC⟩:=rfl;rw[ht];refine cE ?_;simp +contextual -implicitDefEqProofs (maxSteps:=10^7) only[go_sem,seval,Z0,e1,e2,aa,ag,e4,bl]
    rw[Kd k4] at hk;by_cases k5:eK=5
    ·rw[Kg k5] at hk;rw[Jk hk];subst k5;have e3:=Ud Xj [eL] (by simp) (by simp[n2]) (by decide);simp only[Kk,Ks,X3,Xj] at e3;simp only[Ev.text,Ev.words,Xj];refine cE ?_;simp +contextual -implicitDefEqProofs (maxSteps:=10^7) only[go_sem,seval,Z0,e1,e2,aa,ag,e3]
    ·rw[Kd k5] at hk;rw[Zgn hk];refine cE ?_;simp +contextual -implicitDefEqProofs (maxSteps:=10^7) only[go_sem,seval,Z0,e1,e2,aa,ag,k0,k1,k2,k3,k4,k5]
   ·have ag : (1600:Int)<((shw b).length:Int):=by omega
    have ai:Zay (Zn.mk eK eL (Box.mk eX eY eW eH) (Zc.mk (Pane.mk ab ad ae af) eC) (Ze.mk eo ea ep et ek))=none:=by
     refine ZdQ fun b' al hp=>?_;rw[show QU (Zn.plan (Zn.mk eK eL (Box.mk eX eY eW eH) (Zc.mk (Pane.mk ab ad ae af) eC) (Ze.mk eo ea ep et ek)))=QU (.mk eo ea ep et ek) from rfl,aj] at al;cases al;exact hl hp.2.2
    rw[Zgn ai];refine cE ?_;simp +contextual -implicitDefEqProofs (maxSteps:=10^7) only[go_sem,seval,Z0,e1,e2,aa,ag]
 ·rw[Kj hw] at e2;rw[Zgn (Zix hw)];refine cE ?_;simp +contextual -implicitDefEqProofs (maxSteps:=10^7) only[go_sem,seval,Z0,e1,e2]
theorem Zib:Zd Xs Ms 113 [] []=some (.own 0,[.row 1 [.str QN,.str Xq,.str Yj,.str ZbT,.str Yk,.str Xj] true false]):=by
 refine cE ?_;simp +contextual -implicitDefEqProofs (maxSteps:=10^7) only[go_sem,seval,Zd9]
 all_goals rfl
def ZnH (e:Zn):List Int:=[e.label,e.box.X,e.box.Y,e.box.W,e.box.H,e.line.Count,e.line.Pane.W,e.line.Pane.H,e.line.Pane.Kind]
theorem ZDJ {e:Zn} (h:¬∀ n∈ZnH e,six n):Zay e=none:=by
 refine Zix fun h'=>h fun n hn=>h' n ?_;simp only[ZnH,Yy,Ke,KL,or_false] at hn ⊢;rcases hn with h | h | h | h | h | h | h | h | h<;>simp[h]
theorem ZDK {e:Zn} (h:∀ n∈ZnH e,six n) (hk:0≤e.kind∧e.kind≤5):∀ n∈Yy e,six n:=by
 intro n hn;simp only[Yy,Ke,KL,or_false] at hn;rcases hn with rfl | hn
 ·exact⟨hk.1,by omega⟩
 ·refine h n ?_;simp only[ZnH,Ke,KL,or_false];rcases hn with h | h | h | h | h | h | h | h | h<;>simp[h]
theorem Zy2 {e:Zn} {b:BT} (hk:0≤e.kind∧e.kind≤5) (h0:e.kind=0→e.box.X=0∧e.box.Y=0):(Yz e b).isSome=true:=by
 unfold Yz;by_cases k0:e.kind=0
 ·rw[Kg k0,Kg (h0 k0)];rfl
 rw[Kd k0];by_cases k1:e.kind=1
 ·rw[Kg k1];rfl
 rw[Kd k1];by_cases k2:e.kind=2
 ·rw[Kg k2];rfl
 rw[Kd k2];by_cases k3:e.kind=3
 ·rw[Kg k3];rfl
 rw[Kd k3];by_cases k4:e.kind=4
 ·rw[Kg k4];rfl
 rw[Kd k4,Kg (by omega)];rfl
theorem Zy3 {e:Zn} {b:BT} (hk:¬(0≤e.kind∧e.kind≤5)):Yz e b=none:=by
 unfold Yz;rw[Kd (by omega),Kd (by omega),Kd (by omega),Kd (by omega),Kd (by omega),Kd (by omega)]
theorem ZoU {e:Zn} (h:∀ b,Yz e b=none):Zay e=none:=by
 unfold Zay;split
 ·split
  ·split
   ·exact h _
   ·rfl
  ·rfl
 ·rfl
theorem Zkp (eK eL eX eY eW eH aa ab:Int) (ae:Bool) (ad eC eo ea ep:Int) (et:Bool) (ek:List Ze):Zd Xs Ms 112 [(.d (.agg [J eK,J eL,J eX,J eY,J eW,J eH,J aa,J ab,.bool ae,J ad,J eC,J eo,J ea,J ep,.bool et,.sl (ek.map Ze.enc)]))] []=some ((.d (.bool ((Zay (Zn.mk eK eL (Box.mk eX eY eW eH) (Zc.mk (Pane.mk aa ab ae ad) eC) (Ze.mk eo ea ep et ek))).isSome))),[]):=by
 obtain⟨xs,aq⟩:∃ xs,xs=ZnH (Zn.mk eK eL (Box.mk eX eY eW eH) (Zc.mk (Pane.mk aa ab ae ad) eC) (Ze.mk eo ea ep et ek)):=⟨_,rfl⟩
 have a1:xs.length=9:=by rw[aq];rfl
 refine cE ?_;simp +contextual -implicitDefEqProofs (maxSteps:=10^7) only[go_sem,seval,Jc];have au:([J eL,J eX,J eY,J eW,J eH,J eC,J aa,J ab,J ad]:List D)=xs.map X3:=by rw[aq];rfl
 rw[au];refine LO (α:=Nat) (fun k=>[(4,.d (J (k:Int)))]) (fun _=>[]) (fun k=>k≤9∧∀ n∈xs.take k,six n) (fun k=>9-k) 0 (by simp) ?_;intro k ⟨hk,hp⟩ ih;by_cases av:k<xs.length
 ·obtain⟨x,hx⟩:=Zp av;have al : (k:Int)<9:=by omega
  have ah:k<9:=by omega
  have am:(k:Int)<(xs.length:Int):=by omega
  have az:=Zg (k:=k) (by omega);have e1:=Zv x 0 999999;by_cases hs:six x
  ·rw[Kh (show 0≤x∧x≤999999 from hs)] at e1;simp +contextual -implicitDefEqProofs only[go_sem,seval,al,av,ah,am,hx,az,X3,e1];refine ih (k+1) _ ⟨by omega,?_⟩ (by omega) ?_
   ·intro n hn;rw[KB,hx] at hn;rcases Ki.1 hn with hn | hn
    ·exact hp n hn
    ·simp only[L3,KE] at hn;rw[hn];exact hs
   ·simp +contextual -implicitDefEqProofs only[go_sem,seval]
  ·rw[Kj (show ¬(0≤x∧x≤999999) from hs)] at e1;have ag:Zay (Zn.mk eK eL (Box.mk eX eY eW eH) (Zc.mk (Pane.mk aa ab ae ad) eC) (Ze.mk eo ea ep et ek))=none:=ZDJ fun h=>hs (h x (by rw[← aq];exact Kc hx));rw[ag];simp +contextual -implicitDefEqProofs only[go_sem,seval,al,av,ah,am,hx,az,X3,e1,Kw]
 ·have a2:k=9:=by omega
  subst a2;have aw:∀ n∈ZnH (Zn.mk eK eL (Box.mk eX eY eW eH) (Zc.mk (Pane.mk aa ab ae ad) eC) (Ze.mk eo ea ep et ek)),six n:=by
   intro n hn;rw[← aq] at hn;refine hp n ?_;rw[KJ (by omega)];exact hn
  have af:¬(9:Int)<(xs.length:Int):=by omega
  have e1:=Zv eK 0 5;have e2:=Zfs (.mk eo ea ep et ek);rw[Ze.enc_mk] at e2;by_cases an:eK=0∧¬(eX=0∧eY=0)
  ·obtain⟨k0,a0⟩:=an;have ag:Zay (Zn.mk eK eL (Box.mk eX eY eW eH) (Zc.mk (Pane.mk aa ab ae ad) eC) (Ze.mk eo ea ep et ek))=none:=ZoU fun b=>by unfold Yz;rw[Kg k0,Kd a0]
   rw[ag];subst k0;by_cases hX:eX=0
   ·have hY:¬eY=0:=fun h=>a0 ⟨hX,h⟩;simp +contextual -implicitDefEqProofs only[go_sem,seval,af,hX,hY,Kw]
   ·simp +contextual -implicitDefEqProofs only[go_sem,seval,af,hX,Kw]
  have aj:eK=0→eX=0∧eY=0:=fun h=>Classical.byContradiction fun h'=>an ⟨h,h'⟩;have a3:∀ R:Prop,R→R:=fun _ h=>h;by_cases ak:0≤eK∧eK≤5
  ·rw[Kh ak] at e1;have ao:=ZDK (e:=(Zn.mk eK eL (Box.mk eX eY eW eH) (Zc.mk (Pane.mk aa ab ae ad) eC) (Ze.mk eo ea ep et ek))) aw ak;cases hT:QU (.mk eo ea ep et ek) with
   | none=>
    rw[hT,show Zu 255 none=-1 from rfl] at e2;have ag:Zay (Zn.mk eK eL (Box.mk eX eY eW eH) (Zc.mk (Pane.mk aa ab ae ad) eC) (Ze.mk eo ea ep et ek))=none:=ZdQ fun b hb=>by rw[show QU (Zn.plan (Zn.mk eK eL (Box.mk eX eY eW eH) (Zc.mk (Pane.mk aa ab ae ad) eC) (Ze.mk eo ea ep et ek)))=QU (.mk eo ea ep et ek) from rfl,hT] at hb;cases hb
    rw[ag];by_cases k0:eK=0
    ·obtain⟨hX,hY⟩:=aj k0;subst k0 hX hY;simp +contextual -implicitDefEqProofs only[go_sem,seval,af,e1,e2,Kw]
    ·simp +contextual -implicitDefEqProofs only[go_sem,seval,af,k0,e1,e2,Kw]
   | some b=>
    have ax:=Ua hT;rw[hT] at e2;by_cases ai:Zl8 b
    ·have hz:0<Zu 255 (some b):=by
      have:=b.cnt_pos;have:=ai.1;rcases QZ 255 b with ⟨_,h⟩ | ⟨h,_⟩
      ·rw[h];omega
      ·omega
     have e3:=WF b;have e4:=V6 b ai.2.1 (by have:=ai.1;omega);rw[← ax,Ze.enc_mk] at e3 e4;rw[ai.2.1] at e3;have hl:=ai.2.2;have ap : ((shw b).length:Int)≤1600:=by omega
     have ay:(Zay (Zn.mk eK eL (Box.mk eX eY eW eH) (Zc.mk (Pane.mk aa ab ae ad) eC) (Ze.mk eo ea ep et ek))).isSome=true:=by
      rw[YO ao hT ai];exact Zy2 ak aj
     rw[ay];by_cases k0:eK=0
     ·obtain⟨hX,hY⟩:=aj k0;subst k0 hX hY;simp +contextual -implicitDefEqProofs only[go_sem,seval,af,e1,e2,hz,e3,e4,ap]
     ·simp +contextual -implicitDefEqProofs only[go_sem,seval,af,k0,e1,e2,hz,e3,e4,ap]
    ·have ag:Zay (Zn.mk eK eL (Box.mk eX eY eW eH) (Zc.mk (Pane.mk aa ab ae ad) eC) (Ze.mk eo ea ep et ek))=none:=ZdQ fun b' hb=>by
      rw[show QU (Zn.plan (Zn.mk eK eL (Box.mk eX eY eW eH) (Zc.mk (Pane.mk aa ab ae ad) eC) (Ze.mk eo ea ep et ek)))=QU (.mk eo ea ep et ek) from rfl,hT] at hb;cases hb;exact ai
     rw[ag];have e3:=WF b;rw[← ax,Ze.enc_mk] at e3;rcases QZ 255 b with ⟨hc,hz⟩ | ⟨hc,hz⟩
     ·rw[hz] at e2;have ar : (0:Int)<b.cnt:=by have:=b.cnt_pos;omega
      cases hcb:YS b with
      | false=>
       rw[hcb] at e3;by_cases k0:eK=0
       ·obtain⟨hX,hY⟩:=aj k0;subst k0 hX hY;simp +contextual -implicitDefEqProofs only[go_sem,seval,af,e1,e2,ar,e3,Kw]
       ·simp +contextual -implicitDefEqProofs only[go_sem,seval,af,k0,e1,e2,ar,e3,Kw]
      | true=>
       rw[hcb] at e3;have e4:=V6 b hcb (by omega);rw[← ax,Ze.enc_mk] at e4;have ap : ¬((shw b).length:Int)≤1600:=fun h=>ai ⟨by omega,hcb,by omega⟩;by_cases k0:eK=0
       ·obtain⟨hX,hY⟩:=aj k0;subst k0 hX hY;simp +contextual -implicitDefEqProofs only[go_sem,seval,af,e1,e2,ar,e3,e4,ap,Kw]
       ·simp +contextual -implicitDefEqProofs only[go_sem,seval,af,k0,e1,e2,ar,e3,e4,ap,Kw]
     ·rw[hz] at e2;by_cases k0:eK=0
      ·obtain⟨hX,hY⟩:=aj k0;subst k0 hX hY;simp +contextual -implicitDefEqProofs only[go_sem,seval,af,e1,e2,Kw]
      ·simp +contextual -implicitDefEqProofs only[go_sem,seval,af,k0,e1,e2,Kw]
  ·rw[Kj ak] at e1;have ag:Zay (Zn.mk eK eL (Box.mk eX eY eW eH) (Zc.mk (Pane.mk aa ab ae ad) eC) (Ze.mk eo ea ep et ek))=none:=ZoU fun b=>Zy3 ak;rw[ag];have k0:¬eK=0:=fun h=>ak ⟨by omega,by omega⟩;simp +contextual -implicitDefEqProofs only[go_sem,seval,af,k0,e1,Kw]
theorem Ziy (n:Int) (h:six n):Zd Xs Ms 59 [(.d (J n))] []=some (.d (.str (num n.toNat)),[]):=by
 have e:=Xg n.toNat (by have:=h.2;have:=h.1;omega);rw[KO h.1] at e;exact e
theorem Ziz (eK eL eX eY eW eH aa ab:Int) (ad:Bool) (ae eC eo ea ep:Int) (et:Bool) (ek:List Ze) (v:Ev) (hv:Zay (Zn.mk eK eL (Box.mk eX eY eW eH) (Zc.mk (Pane.mk aa ab ad ae) eC) (Ze.mk eo ea ep et ek))=some v):Zd Xs Ms 61 [(.d (.agg [J eK,J eL,J eX,J eY,J eW,J eH,J aa,J ab,.bool ad,J ae,J eC,J eo,J ea,J ep,.bool et,.sl (ek.map Ze.enc)]))] []=some (.d (.str v.text),[]):=by
 have af:∀ n∈Yy (Zn.mk eK eL (Box.mk eX eY eW eH) (Zc.mk (Pane.mk aa ab ad ae) eC) (Ze.mk eo ea ep et ek)),six n:=Classical.byContradiction fun h=>by rw[Zix h] at hv;cases hv
 obtain⟨b,hb,ah⟩:∃ b,QU (.mk eo ea ep et ek)=some b∧Zl8 b:=Classical.byContradiction fun h=>by
  rw[ZdQ (e:=(Zn.mk eK eL (Box.mk eX eY eW eH) (Zc.mk (Pane.mk aa ab ad ae) eC) (Ze.mk eo ea ep et ek))) fun b hb hp=>h ⟨b,hb,hp⟩] at hv;cases hv
 have am:=Ua hb;rw[YO af hb ah] at hv;have e0:=Zib;simp only[Yy,Ke,KL,or_false,forall_eq_or_imp,forall_eq] at af;obtain⟨n1,n2,n3,n4,n5,n6,n7,n8,n9,an⟩:=af;have ai:=Ziy eL n2;have ao:=Ziy eX n3;have ap:=Ziy eY n4;have aj:=Ziy eW n5;have ak:=Ziy eH n6;have lL:=ZdP eL n2;have lX:=ZdP eX n3;have lY:=ZdP eY n4;have lW:=ZdP eW n5;have lH:=ZdP eH n6;have al:Zro ⟨⟨aa,ab,ad,ae⟩,eC⟩:=⟨an,n7,n8,n9⟩
 have e4:=Zup aa ab ad ae eC al;have aq:=ZeN ⟨⟨aa,ab,ad,ae⟩,eC⟩ al;have e5:=V6 b ah.2.1 (by have:=ah.1;omega);rw[← am,Ze.enc_mk] at e5;have ar:=ah.2.2;have au:(ZaI ⟨⟨aa,ab,ad,ae⟩,eC⟩).length≤40:=aq;unfold Yz at hv;simp only at hv;by_cases k0:eK=0
 ·rw[Kg k0] at hv;split at hv
  ·cases hv;subst k0;have ht:Ev.text (.sheet eL.toNat eW.toNat eH.toNat)=QN++[32]++num eL.toNat++[32]++num eW.toNat++[32]++num eH.toNat:=by simp[Ev.text,Ev.words,YL]
   rw[ht];generalize num eL.toNat=a at *;generalize num eW.toNat=c at *;generalize num eH.toNat=d at *;have ag:QN.length=5:=rfl;have b0:QN.length+1≤1152921504606846976:=by omega
   have b1:QN.length+1+a.length≤1152921504606846976:=by omega
   have b2:QN.length+1+a.length+1≤1152921504606846976:=by omega
   have b3:QN.length+1+a.length+1+c.length≤1152921504606846976:=by omega
   have b4:QN.length+1+a.length+1+c.length+1≤1152921504606846976:=by omega
   have b5:QN.length+1+a.length+1+c.length+1+d.length≤1152921504606846976:=by omega
   refine cE ?_;simp +contextual -implicitDefEqProofs (maxSteps:=10^7) only[go_sem,seval,Ys,e0,ai,aj,ak,b0,b1,b2,b3,b4,b5]
  ·cases hv
 rw[Kd k0] at hv;by_cases k1:eK=1
 ·rw[Kg k1] at hv;cases hv;subst k1;have ht:Ev.text (.flaw eL.toNat eX.toNat eY.toNat eW.toNat eH.toNat)=Xq++[32]++num eL.toNat++[32]++num eX.toNat++[32]++num eY.toNat++[32]++num eW.toNat++[32]++num eH.toNat:=by simp[Ev.text,Ev.words,YL]
  rw[ht];generalize num eL.toNat=a at *;generalize num eX.toNat=x at *;generalize num eY.toNat=y at *;generalize num eW.toNat=c at *;generalize num eH.toNat=d at *;have ag:Xq.length=4:=rfl;have b0:Xq.length+1≤1152921504606846976:=by omega
  have b1:Xq.length+1+a.length≤1152921504606846976:=by omega
  have b2:Xq.length+1+a.length+1≤1152921504606846976:=by omega
  have b3:Xq.length+1+a.length+1+x.length≤1152921504606846976:=by omega
  have b4:Xq.length+1+a.length+1+x.length+1≤1152921504606846976:=by omega
  have b5:Xq.length+1+a.length+1+x.length+1+y.length≤1152921504606846976:=by omega
  have b6:Xq.length+1+a.length+1+x.length+1+y.length+1≤1152921504606846976:=by omega
  have b7:Xq.length+1+a.length+1+x.length+1+y.length+1+c.length≤1152921504606846976:=by omega
  have b8:Xq.length+1+a.length+1+x.length+1+y.length+1+c.length+1≤1152921504606846976:=by omega
  have b9:Xq.length+1+a.length+1+x.length+1+y.length+1+c.length+1+d.length≤1152921504606846976:=by omega
  refine cE ?_;simp +contextual -implicitDefEqProofs (maxSteps:=10^7) only[go_sem,seval,Ys,e0,ai,ao,ap,aj,ak,b0,b1,b2,b3,b4,b5,b6,b7,b8,b9]
 rw[Kd k1] at hv;by_cases k2:eK=2
 ·rw[Kg k2] at hv;cases hv;subst k2;have ht:Ev.text (.order ⟨⟨aa,ab,ad,ae⟩,eC⟩)=Yj++[32]++ZaI ⟨⟨aa,ab,ad,ae⟩,eC⟩:=rfl;rw[ht];generalize ZaI ⟨⟨aa,ab,ad,ae⟩,eC⟩=a at *;have ag:Yj.length=5:=rfl;have b0:Yj.length+1≤1152921504606846976:=by omega
  have b1:Yj.length+1+a.length≤1152921504606846976:=by omega
  refine cE ?_;simp +contextual -implicitDefEqProofs (maxSteps:=10^7) only[go_sem,seval,Ys,e0,e4,b0,b1]
 rw[Kd k2] at hv;by_cases k3:eK=3
 ·rw[Kg k3] at hv;cases hv;subst k3;have ht:Ev.text (.cut eL.toNat b)=ZbT++[32]++num eL.toNat++[32]++shw b:=by simp[Ev.text,Ev.words,YL]
  rw[ht];generalize num eL.toNat=a at *;generalize shw b=c at *;have ag:ZbT.length=3:=rfl;have b0:ZbT.length+1≤1152921504606846976:=by omega
  have b1:ZbT.length+1+a.length≤1152921504606846976:=by omega
  have b2:ZbT.length+1+a.length+1≤1152921504606846976:=by omega
  have b3:ZbT.length+1+a.length+1+c.length≤1152921504606846976:=by omega
  refine cE ?_;simp +contextual -implicitDefEqProofs (maxSteps:=10^7) only[go_sem,seval,Ys,e0,ai,e5,b0,b1,b2,b3]
 rw[Kd k3] at hv;by_cases k4:eK=4
 ·rw[Kg k4] at hv;cases hv;subst k4;have ht:Ev.text (.brk ⟨⟨aa,ab,ad,ae⟩,eC⟩)=Yk++[32]++ZaI ⟨⟨aa,ab,ad,ae⟩,eC⟩:=rfl;rw[ht];generalize ZaI ⟨⟨aa,ab,ad,ae⟩,eC⟩=a at *;have ag:Yk.length=5:=rfl;have b0:Yk.length+1≤1152921504606846976:=by omega
  have b1:Yk.length+1+a.length≤1152921504606846976:=by omega
  refine cE ?_;simp +contextual -implicitDefEqProofs (maxSteps:=10^7) only[go_sem,seval,Ys,e0,e4,b0,b1]
 rw[Kd k4] at hv;by_cases k5:eK=5
 ·rw[Kg k5] at hv;cases hv;subst k5;have ht:Ev.text (.scrap eL.toNat)=Xj++[32]++num eL.toNat:=rfl;rw[ht];generalize num eL.toNat=a at *;have ag:Xj.length=5:=rfl;have b0:Xj.length+1≤1152921504606846976:=by omega
  have b1:Xj.length+1+a.length≤1152921504606846976:=by omega
  refine cE ?_;simp +contextual -implicitDefEqProofs (maxSteps:=10^7) only[go_sem,seval,Ys,e0,ai,b0,b1]
 ·rw[Kd k5] at hv;cases hv
end Go.Proofs.YtfnegoimdljanaaGreatDoor
