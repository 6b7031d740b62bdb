/- Own text. -/
import Derived.Test.YtfnegoimdljanaaGreatDoorACode
import Derived.Test.YtfnegoimdljanaaGreatDoorAC1
import Derived.Test.YtfnegoimdljanaaGreatDoorAbsOkD
import Derived.Test.YtfnegoimdljanaaGreatDoorAC2
namespace Go.Proofs.YtfnegoimdljanaaGreatDoor
open Go Go.Abs Go.Abs.E Go.Abs.L
set_option linter.unusedSimpArgs false
set_option linter.unusedVariables false
set_option maxRecDepth 20000
set_option maxHeartbeats 4000000
def Y8:List Zb→Int
 | []=>0
 | x :: l=>x.W*x.H+Y8 l
theorem Zxu (a b:List Zb):Y8 (a++b)=Y8 a+Y8 b:=by
 induction a with
 | nil=>simp[Y8]
 | cons c l ih=>simp only[KD,Y8,ih];omega
theorem ZrF {L:List Zb} {i:Nat} {x:Zb} (hx:L[i]?=some x):Y8 (L.take (i+1))=Y8 (L.take i)+x.W*x.H:=by
 rw[KB,hx,Zxu];simp[Y8]
theorem Zzn (q:Zb):∀ (n:Int) (l:List Box) (i:Nat) (x:Zb),(Ja q n l)[i]?=some x→∃ b,l[i]?=some b∧x=Zns q b (n+i)
 | n,[],i,x,h=>by simp[Ja] at h
 | n,b :: l,0,x,h=>by
  simp only[Ja,KX,Option.some.injEq] at h;exact⟨b,rfl,by rw[← h];simp⟩
 | n,b :: l,i+1,x,h=>by
  simp only[Ja,KY] at h;obtain⟨c,h1,h2⟩:=Zzn q (n+1) l i x h;refine⟨c,by simpa using h1,?_⟩;rw[h2];congr 1;omega
theorem ZcL:∀ {l:List Zb},(∀ x∈l,1≤x.W∧x.W≤200∧1≤x.H∧x.H≤200)→0≤Y8 l∧Y8 l≤40000*l.length
 | [],_=>by simp[Y8]
 | x :: l,h=>by
  have h1:=h x (by simp);have h2:=ZcL (l:=l) fun y hy=>h y (by simp[hy]);have h3:0≤x.W*x.H:=Kan (by omega) (by omega);have h4:x.W*x.H≤200*200:=Kao (by omega) (by omega) (by omega) (by omega);simp only[Y8,Kl];omega
end Go.Proofs.YtfnegoimdljanaaGreatDoor
namespace Go.Proofs.YtfnegoimdljanaaGreatDoor
open Go Go.Abs Go.Abs.E Go.Abs.L
set_option linter.unusedSimpArgs false
set_option linter.unusedVariables false
set_option maxRecDepth 20000
set_option maxHeartbeats 4000000
def XL:Int→List Zb→Prop
 | _,[]=>True
 | b,x :: l=>VPc x∧b<x.Label∧XL x.Label l
instance sortFdec:∀ (b:Int) (l:List Zb),Decidable (XL b l)
 | _,[]=>.isTrue trivial
 | b,x :: l=>by unfold XL;exact @instDecidableAnd _ _ _ (@instDecidableAnd _ _ _ (sortFdec x.Label l))
def VSt (l:List Zb):Prop:=l.length≤20∧XL 0 l
instance (l:List Zb):Decidable (VSt l):=by unfold VSt;infer_instance
theorem ZrG {l:List Zb} {k:Nat} {x:Zb} {b:Int} (hx:l[k]?=some x):XL b (l.drop k)↔VPc x∧b<x.Label∧XL x.Label (l.drop (k+1)):=by
 obtain⟨h1,h2⟩:=Kb.1 hx;rw[Ku h1,h2,XL]
theorem ZvR {l:List Zb} {b:Int}:XL b (l.drop l.length):=by simp[XL]
theorem YP (l:List Zb):Zd Xs Ms 75 [(.d (.sl (l.map Zb.enc)))] []=some ((.d (.bool (decide (VSt l)))),[]):=by
 by_cases ab:(20:Int)<(l.length:Int)
 ·have hn:¬VSt l:=fun h=>by have:=h.1;omega
  refine cE ?_;simp +contextual -implicitDefEqProofs only[go_sem,seval,J9,ab,hn]
 ·have ad:l.length≤20:=by omega
  refine cE ?_;simp +contextual -implicitDefEqProofs only[go_sem,seval,J9,ab];refine LO (α:=Nat×Int) (fun s=>[(11,.d (J (s.1:Int))),(3,.d (J s.2))]) (fun _=>[]) (fun s=>s.1≤l.length∧(XL 0 l↔XL s.2 (l.drop s.1))) (fun s=>l.length-s.1) (0,0) ⟨by simp,by simp⟩ ?_;intro⟨i,b⟩ ⟨hi,hp⟩ ih;simp only at hi hp;by_cases aa:i<l.length
  ·obtain⟨x,hx⟩:=Zp aa;have hw:=Zg (k:=i) (by omega);rw[ZrG hx] at hp;have ev:=Q9 x.Label x.W x.H x.Flaws;obtain⟨L,W,H,F⟩:=x;simp only at hp ev;by_cases hv:VPc ⟨L,W,H,F⟩
   ·rw[Kh hv] at ev;by_cases hb:L≤b
    ·have hn:¬VSt l:=fun h=>by have:=(hp.1 h.2).2.1;omega
     simp +contextual -implicitDefEqProofs only[go_sem,seval,hx,aa,hw,ev,hb,hn]
    ·simp +contextual -implicitDefEqProofs only[go_sem,seval,hx,aa,hw,ev,hb];refine ih (i+1,L) _ ⟨by simp only;omega,?_⟩ (by simp only;omega) ?_
     ·rw[hp];exact⟨fun h=>h.2.2,fun h=>⟨hv,by omega,h⟩⟩
     ·simp +contextual -implicitDefEqProofs only[go_sem,seval]
   ·rw[Kj hv] at ev;have hn:¬VSt l:=fun h=>hv (hp.1 h.2).1;simp +contextual -implicitDefEqProofs only[go_sem,seval,hx,aa,hw,ev,hn]
  ·have:i=l.length:=by omega
   subst this;have hy:VSt l:=⟨ad,hp.2 ZvR⟩
   simp +contextual -implicitDefEqProofs only[go_sem,seval,hy]
def Zmj (l:List Zb):Nat→Int
 | 0=>0
 | j+1=>match l[j]? with
  | some x=>x.Label
  | none=>0
theorem YQ (l:List Zb) (hl:l.length<4611686018427387904) (hS:∀ x∈l,x.Flaws.length<4611686018427387904∧R64 x.W∧R64 x.H):Zd Xs Ms 92 [(.d (.sl (l.map Zb.enc)))] []=some ((.d (.bool (decide (VSt l)))),[]):=by
 refine cE ?_;simp +contextual -implicitDefEqProofs only[go_sem,seval,Zd8];refine LO (α:=Nat) (fun i=>[(3,.d (J (i:Int)))]) (fun _=>[]) (fun i=>i≤l.length∧(XL 0 l↔XL (Zmj l i) (l.drop i))) (fun i=>l.length-i) 0 ⟨by simp,by simp[Zmj]⟩ ?_;intro i ⟨hi,hp⟩ ih;by_cases aa:i<l.length
 ·obtain⟨x,hx⟩:=Zp aa;have hw:=Zg (k:=i) (by omega);rw[ZrG hx] at hp;obtain⟨ag,ah,ai⟩:=hS x (Kc hx);have ev:=Zic x.Label x.W x.H x.Flaws ag ah ai;have ad:Zmj l (i+1)=x.Label:=by simp only[Zmj,hx]
  obtain⟨L,W,H,F⟩:=x;simp only at hp ev ad;by_cases hv:VPc ⟨L,W,H,F⟩
  ·rw[Kh hv] at ev;have hL:1≤L:=hv.1.1;cases i with
   | zero=>
    have ae : (0:Int)<(l.length:Int):=by omega
    simp +contextual -implicitDefEqProofs only[go_sem,seval,hx,aa,ae,hw,ev];refine ih 1 _ ⟨by omega,?_⟩ (by omega) ?_
    ·rw[hp,ad];exact⟨fun h=>h.2.2,fun h=>⟨hv,by simp only[Zmj];omega,h⟩⟩
    ·simp +contextual -implicitDefEqProofs only[go_sem,seval]
   | succ j=>
    obtain⟨y,hy⟩:=Zp (l:=l) (k:=j) (by omega);have aj:Zmj l (j+1)=y.Label:=by simp only[Zmj,hy]
    rw[aj] at hp;have hj:IntKind.i64.wrap (((j+1:Nat):Int)-1)=(j:Int):=by rw[ZfY (by omega) (by omega)];omega
    have ab:(0:Int)<((j+1:Nat):Int):=by omega
    have af:j<l.length:=by omega
    obtain⟨L',W',H',F'⟩:=y;simp only at hp;by_cases hb:L≤L'
    ·have hn:¬VSt l:=fun h=>by have:=(hp.1 h.2).2.1;omega
     simp +contextual -implicitDefEqProofs only[go_sem,seval,hx,aa,hw,ev,ab,hj,af,hy,hb,hn]
    ·simp +contextual -implicitDefEqProofs only[go_sem,seval,hx,aa,hw,ev,ab,hj,af,hy,hb];refine ih (j+1+1) _ ⟨by omega,?_⟩ (by omega) ?_
     ·rw[hp,ad];exact⟨fun h=>h.2.2,fun h=>⟨hv,by omega,h⟩⟩
     ·simp +contextual -implicitDefEqProofs only[go_sem,seval]
  ·rw[Kj hv] at ev;have hn:¬VSt l:=fun h=>hv (hp.1 h.2).1;simp +contextual -implicitDefEqProofs only[go_sem,seval,hx,aa,hw,ev,hn]
 ·have:i=l.length:=by omega
  subst this;have hs:=hp.2 ZvR;simp +contextual -implicitDefEqProofs only[go_sem,seval];exact Zel (by simp only[VSt];constructor<;>(intro h;first | exact⟨by omega,hs⟩ | (have:=h.1;omega)))
def QB:Nat→List Zb→Int→Int
 | _,[],_=>-1
 | k,x :: l,n=>if x.Label=n then (k:Int) else QB (k+1) l n
theorem ZvS {l:List Zb} {k:Nat} {x:Zb} {n:Int} (hx:l[k]?=some x):QB k (l.drop k) n=if x.Label=n then (k:Int) else QB (k+1) (l.drop (k+1)) n:=by
 obtain⟨h1,h2⟩:=Kb.1 hx;rw[Ku h1,h2,QB]
theorem ZnQ (qL qW qH:Int) (qF:List Box) (n:Int):Zd Xs Ms 82 [(.d (.agg [J qL,J qW,J qH,.sl (qF.map Box.enc)])),.ptr 0 0] [.box [(.d (J n))]]=some ((.d (.bool (decide (qL=n)))),[.box [(.d (J n))]]):=by
 refine cE ?_;simp +contextual -implicitDefEqProofs only[go_sem,seval,Zco]
theorem Zxv (l:List Zb) (n:Int) (hl:l.length<4611686018427387904):Zd Xs Ms 81 [(.d (.sl (l.map Zb.enc))),.clo 82 [.ptr 0 0]] [.box [(.d (J n))]]=some ((.d (J (QB 0 l n))),[.box [(.d (J n))]]):=by
 refine cE ?_;simp +contextual -implicitDefEqProofs only[go_sem,seval,WT];refine LO (α:=Nat) (fun k=>[(8,.d (J (k:Int)))]) (fun _=>[]) (fun k=>k≤l.length∧QB k (l.drop k) n=QB 0 l n) (fun k=>l.length-k) 0 ⟨by omega,rfl⟩ ?_;intro k ⟨hk,hp⟩ ih;by_cases aa:k<l.length
 ·obtain⟨x,hx⟩:=Zp aa;rw[ZvS hx] at hp;have hw:=Zg (k:=k) (by omega);have e1:=ZnQ x.Label x.W x.H x.Flaws n;obtain⟨L,W,H,F⟩:=x;simp only at hp e1;by_cases h:L=n
  ·rw[Kg h] at hp;rw[Kh h] at e1;simp +contextual -implicitDefEqProofs only[go_sem,seval,hx,aa,hw,e1];rw[← hp]
  ·rw[Kd h] at hp;rw[Kj h] at e1;simp +contextual -implicitDefEqProofs only[go_sem,seval,hx,aa,hw,e1];refine ih (k+1) _ ⟨by omega,hp⟩ (by omega) ?_;simp +contextual -implicitDefEqProofs only[go_sem,seval]
 ·have:k=l.length:=by omega
  subst this;simp +contextual -implicitDefEqProofs only[go_sem,seval];rw[← hp];simp[QB]
theorem YA (l:List Zb) (n:Int) (hl:l.length<4611686018427387904):Zd Xs Ms 40 [(.d (.sl (l.map Zb.enc))),(.d (J n))] []=some ((.d (J (QB 0 l n))),[]):=by
 refine cE ?_;simp +contextual -implicitDefEqProofs only[go_sem,seval,ZfP,Zxv l n hl]
theorem XX (l:List Zb) (n:Int) (hl:l.length<4611686018427387904):Zd Xs Ms 97 [(.d (.sl (l.map Zb.enc))),(.d (J n))] []=some ((.d (J (QB 0 l n))),[]):=by
 refine cE ?_;simp +contextual -implicitDefEqProofs only[go_sem,seval,ZfK];refine LO (α:=Nat) (fun k=>[(5,.d (J (k:Int)))]) (fun _=>[]) (fun k=>k≤l.length∧QB k (l.drop k) n=QB 0 l n) (fun k=>l.length-k) 0 ⟨by omega,rfl⟩ ?_;intro k ⟨hk,hp⟩ ih;by_cases aa:k<l.length
 ·obtain⟨x,hx⟩:=Zp aa;rw[ZvS hx] at hp;have hw:=Zg (k:=k) (by omega);obtain⟨L,W,H,F⟩:=x;simp only at hp;by_cases h:L=n
  ·rw[Kg h] at hp;simp +contextual -implicitDefEqProofs only[go_sem,seval,hx,aa,hw,h];rw[← hp]
  ·rw[Kd h] at hp;simp +contextual -implicitDefEqProofs only[go_sem,seval,hx,aa,hw,h];refine ih (k+1) _ ⟨by omega,hp⟩ (by omega) ?_;simp +contextual -implicitDefEqProofs only[go_sem,seval]
 ·have:k=l.length:=by omega
  subst this;simp +contextual -implicitDefEqProofs only[go_sem,seval];rw[← hp];simp[QB]
theorem JE (qL qW qH:Int) (qF:List Box) (hF:qF.length≤1048576):Zd Xs Ms 131 [(.d (.agg [J qL,J qW,J qH,.sl (qF.map Box.enc)]))] []=some (.agg [(.d (J qL)),(.d (J qW)),(.d (J qH)),.own 0],[.row 4 (qF.map Box.enc) true false]):=by
 have hr:qF.length*32≤140737488355328∧qF.length≤140737488355328:=by omega
 refine cE ?_;simp +contextual -implicitDefEqProofs only[go_sem,seval,ZfM,hr]
theorem Vg (qL qW qH:Int) (qF:List Box) (hF:qF.length≤1048576):Zd Xs Ms 136 [(.d (.agg [J qL,J qW,J qH,.sl (qF.map Box.enc)]))] []=some (.agg [(.d (J qL)),(.d (J qW)),(.d (J qH)),.own 0],[.row 4 (qF.map Box.enc) true false]):=by
 have hr:qF.length*32≤140737488355328∧qF.length≤140737488355328:=by omega
 refine cE ?_;simp +contextual -implicitDefEqProofs only[go_sem,seval,ZfR,hr]
theorem ZdT:∀ (F:List Box),ZaB D.flat (F.map Box.enc)=true
 | []=>rfl
 | x :: F=>by simp only[Kk,ZaB,ZdT F,Kad];rfl
theorem ZdU (l:List Zb) (hl:l.length≤1048576) (hF:∀ x∈l,x.Flaws.length≤1048576):Zd Xs Ms 91 [(.d (.sl (l.map Zb.enc)))] []=some (.own 0,[.tree 4 4 (l.map Zb.enc) none]):=by
 refine cE ?_;simp +contextual -implicitDefEqProofs only[go_sem,seval,ZfB];refine LO (α:=Nat) (fun i=>[(8,.d (J (i:Int)))]) (fun i=>[(0,.tree 4 4 ((l.take i).map Zb.enc) none)]) (fun i=>i≤l.length) (fun i=>l.length-i) 0 (by omega) ?_;intro i hi ih;by_cases aa:i<l.length
 ·obtain⟨x,hx⟩:=Zp aa;have hw:=Zg (k:=i) (by omega);have hm:l.take (i+1)=l.take i++[x]:=by rw[KB,hx];simp
  have ad:(l.take i).length≤i:=by simp;omega
  have hr:((l.take i).length+1)*48≤140737488355328∧(l.take i).length≤140737488355327:=by omega
  have e:=JE x.Label x.W x.H x.Flaws (hF x (Kc hx));obtain⟨L,W,H,F⟩:=x;simp only at e;have ab:=ZdT F;simp +contextual -implicitDefEqProofs only[go_sem,seval,hx,aa,hw,e,hr,ab];refine ih (i+1) _ (by omega) (by omega) ?_;simp +contextual -implicitDefEqProofs only[go_sem,seval,hm]
  first | rfl | (simp;done) | (simp;rfl)
 ·have:i=l.length:=by omega
  subst this;simp +contextual -implicitDefEqProofs only[go_sem,seval];simp
theorem ZBi {α:Type} {l:List α} {i a:Nat} {x:α} (hx:l[i]?=some x) (h:i≠a):(l.take (i+1)).eraseIdx a=(l.take i).eraseIdx a++[x]:=by
 have h1:=(Kb.1 hx).1;have e:l.take (i+1)=l.take i++[x]:=by rw[KB,hx];simp
 rw[e];have hl:(l.take i).length=i:=by simp;omega
 rcases K3 a i with h2 | h2
 ·rw[List.eraseIdx_append_of_lt_length (by omega)]
 ·rw[Kat (by simp;omega),Kat (by omega)]
theorem ZBj {α:Type} {l:List α} {i:Nat} {x:α} (hx:l[i]?=some x):(l.take (i+1)).eraseIdx i=(l.take i).eraseIdx i:=by
 have h1:=(Kb.1 hx).1;have e:l.take (i+1)=l.take i++[x]:=by rw[KB,hx];simp
 have hl:(l.take i).length=i:=by simp;omega
 rw[e,List.eraseIdx_append_of_length_le (by omega),hl];simp;rw[Kat (by omega)]
theorem ZnR {α:Type} (l:List α) (a:Nat):(l.eraseIdx a).length≤l.length:=by
 have:=List.length_eraseIdx_le l a;omega
theorem ZgV (l:List Zb) (a:Nat) (hl:l.length≤1048576) (hF:∀ x∈l,x.Flaws.length≤1048576):Zd Xs Ms 95 [(.d (.sl (l.map Zb.enc))),(.d (J a))] []=some (.own 0,[.row 4 ((l.eraseIdx a).map Zb.enc) true false]):=by
 refine cE ?_;simp +contextual -implicitDefEqProofs only[go_sem,seval,Zfc];refine LO (α:=Nat) (fun i=>[(6,.d (J (i:Int)))]) (fun i=>[(0,.row 4 (((l.take i).eraseIdx a).map Zb.enc) true false)]) (fun i=>i≤l.length) (fun i=>l.length-i) 0 (by omega) ?_;intro i hi ih;by_cases aa:i<l.length
 ·obtain⟨x,hx⟩:=Zp aa;have hw:=Zg (k:=i) (by omega);by_cases ab:i=a
  ·subst ab;have hm:=ZBj hx;simp +contextual -implicitDefEqProofs only[go_sem,seval,hx,aa,hw];refine ih (i+1) _ (by omega) (by omega) ?_;simp +contextual -implicitDefEqProofs only[go_sem,seval,hm]
  ·have hm:=ZBi hx ab;have ad:((l.take i).eraseIdx a).length≤i:=Kx (ZnR _ _) (by simp;omega);have hr:(((l.take i).eraseIdx a).length+1)*48≤140737488355328∧((l.take i).eraseIdx a).length≤140737488355327:=by omega
   have e:=Vg x.Label x.W x.H x.Flaws (hF x (Kc hx));obtain⟨L,W,H,F⟩:=x;simp only at e;simp +contextual -implicitDefEqProofs only[go_sem,seval,hx,aa,hw,ab,e,hr];refine ih (i+1) _ (by omega) (by omega) ?_;simp +contextual -implicitDefEqProofs only[go_sem,seval,hm]
   first | rfl | (simp;done) | (simp;rfl)
 ·have:i=l.length:=by omega
  subst this;simp +contextual -implicitDefEqProofs only[go_sem,seval];simp
def Wm (l:List Zb):Int:=Zmj l l.length
theorem ZnS {l:List Zb} {x:Zb} (hx:l[l.length-1]?=some x):Wm l=x.Label:=by
 have h:=(Kb.1 hx).1;unfold Wm;obtain⟨n,hn⟩:∃ n,l.length=n+1:=⟨l.length-1,by omega⟩
 rw[hn] at hx ⊢;simp only[Zmj];simp only[Nat.add_sub_cancel] at hx;rw[hx]
theorem ZrH (l:List Zb) (hl:l.length<4611686018427387904):Zd Xs Ms 186 [(.d (.sl (l.map Zb.enc)))] []=some ((.d (J (Wm l))),[]):=by
 by_cases h0:l.length=0
 ·have e:Wm l=0:=by unfold Wm;rw[h0];rfl
  have aa : (l.length:Int)=0:=by omega
  rw[e];refine cE ?_;simp +contextual -implicitDefEqProofs only[go_sem,seval,ZbJ,aa]
 ·obtain⟨x,hx⟩:=Zp (l:=l) (k:=l.length-1) (by omega);have e:=ZnS hx;have hn:¬(l.length:Int)=0:=by omega
  have hw:IntKind.i64.wrap ((l.length:Int)-1)=((l.length-1:Nat):Int):=by rw[ZfY (by omega) (by omega)];omega
  have ab:l.length-1<l.length:=by omega
  obtain⟨L,W,H,F⟩:=x;simp only at e;refine cE ?_;simp +contextual -implicitDefEqProofs only[go_sem,seval,ZbJ,hn,hw,hx,ab,e]
theorem ZrI:∀ (l:List Zb) (k:Nat) (n:Int),QB k l n=-1∨∃ i:Nat,QB k l n=((k+i:Nat):Int)∧i<l.length
 | [],k,n=>.inl rfl
 | x :: l,k,n=>by
  unfold QB;split
  ·exact .inr ⟨0,by simp,by simp⟩
  ·rcases ZrI l (k+1) n with h | ⟨i,h1,h2⟩
   ·exact .inl h
   ·exact .inr ⟨i+1,by rw[h1];congr 1;omega,by simp;omega⟩
theorem ZW:∀ {l:List Zb} {b:Int},XL b l→∀ x∈l,VPc x
 | [],_,_,x,hx=>by simp at hx
 | y :: l,b,h,x,hx=>by
  rcases Ke.1 hx with rfl | hx
  ·exact h.1
  ·exact ZW h.2.2 x hx
theorem Zdz {l:List Zb} (h:VSt l):l.length≤1048576∧∀ x∈l,x.Flaws.length≤1048576:=by
 refine⟨by have:=h.1;omega,fun x hx=>?_⟩;have:=(ZW h.2 x hx).1.2.2.2.2.2.2;omega
theorem ZiD (l:List Zb) (n:Int) (h:¬(VSt l∧0≤QB 0 l n)):Zd Xs Ms 159 [(.d (.sl (l.map Zb.enc))),(.d (J n))] [] =
  some (.tup [.agg [(.d (J 0)),(.d (J 0)),(.d (J 0)),.own 0],.own 1,(.d (.bool false))],[.row 4 [] true false,.row 4 [] true false]):=by
 have ev:=YP l;by_cases hv:VSt l
 ·rw[Kh hv] at ev;have hf:=YA l n (by have:=hv.1;omega);have hn:QB 0 l n<0:=by
   rcases Int.lt_or_le (QB 0 l n) 0 with h1 | h1
   ·exact h1
   ·exact absurd ⟨hv,h1⟩ h
  refine cE ?_;simp +contextual -implicitDefEqProofs only[go_sem,seval,UJ,ev,hf,hn]
 ·rw[Kj hv] at ev;refine cE ?_;simp +contextual -implicitDefEqProofs only[go_sem,seval,UJ,ev]
theorem Zie (l:List Zb) (n:Int) (hv:VSt l) (i:Nat) (hi:QB 0 l n=(i:Int)) (qL qW qH:Int) (qF:List Box) (hx:l[i]?=some (Zb.mk qL qW qH qF)):Zd Xs Ms 159 [(.d (.sl (l.map Zb.enc))),(.d (J n))] [] =
  some (.tup [.agg [(.d (J qL)),(.d (J qW)),(.d (J qH)),.own 0],.own 1,(.d (.bool true))],[.row 4 (qF.map Box.enc) true false,.tree 4 4 ((l.eraseIdx i).map Zb.enc) none]):=by
 have ev:=YP l;rw[Kh hv] at ev;have ab:i<l.length:=(Kb.1 hx).1;have ad:=hv.1;obtain⟨h1,h2⟩:=Zdz hv;have hf:=YA l n (by omega);rw[hi] at hf;have hw:=Zg (k:=i) (by omega);have c1:=ZdU (l.take i) (by simp;omega) (fun x hx=>h2 x (Lg hx));have c2:=ZdU (l.drop (i+1)) (by simp;omega) (fun x hx=>h2 x (L9 hx));have e:=JE qL qW qH qF (h2 (Zb.mk qL qW qH qF) (Kc hx));have hr:((l.take i).length+(l.drop (i+1)).length)*48≤140737488355328∧(l.take i).length+(l.drop (i+1)).length≤140737488355328:=by simp;omega
 have ae:i≤l.length:=by omega
 have aa:i+1≤l.length:=by omega
 have af:¬(i:Int)<0:=by omega
 rw[List.eraseIdx_eq_take_drop_succ];refine cE ?_;simp +contextual -implicitDefEqProofs only[go_sem,seval,UJ,ZtE,ev,hf,af,hw,hx,ab,ae,aa,c1,c2,e,hr,KN]
theorem ZBk {b c:Int} (h:b≤c):∀ {l:List Zb},XL c l→XL b l
 | [],_=>trivial
 | x :: l,hs=>⟨hs.1,by have:=hs.2.1;omega,hs.2.2⟩
theorem ZiE:∀ {l:List Zb} {b:Int} (i:Nat),XL b l→XL b (l.eraseIdx i)
 | [],b,i,_=>by simp[XL]
 | x :: l,b,0,h=>by
  simp only[List.eraseIdx_cons_zero];exact ZBk (by have:=h.2.1;omega) h.2.2
 | x :: l,b,i+1,h=>by
  simp only[List.eraseIdx_cons_succ];exact⟨h.1,h.2.1,ZiE i h.2.2⟩
theorem ZnT:∀ {l:List Zb} {b:Int},XL b l→∀ (i j:Nat) (x y:Zb),i≤j→l[i]?=some x→l[j]?=some y→x.Label≤y.Label∧b<x.Label
 | [],b,_,i,j,x,y,_,hx,_=>by simp at hx
 | z :: l,b,h,0,0,x,y,_,hx,hy=>by
  simp at hx hy;subst hx;subst hy;exact⟨Kag _,h.2.1⟩
 | z :: l,b,h,0,j+1,x,y,_,hx,hy=>by
  simp at hx hy;subst hx;have:=(ZnT h.2.2 j j y y (Kp _) hy hy).2;exact⟨by omega,h.2.1⟩
 | z :: l,b,h,i+1,j+1,x,y,hij,hx,hy=>by
  simp at hx hy;have:=ZnT h.2.2 i j x y (by omega) hx hy;have h2:=h.2.1;exact⟨this.1,by omega⟩
 | z :: l,b,h,i+1,0,x,y,hij,hx,hy=>by omega
theorem ZrJ {q:Zb} (hq:VPc q):∀ {L:List Box} {n c:Int},c<n→1≤n→(∀ b∈L,VB b∧QI b ⟨0,0,q.W,q.H⟩)→(XL c (Ja q n L)↔(L=[]∨(L.length:Int)≤10000-n))
 | [],n,c,_,_,_=>by simp[Ja,XL]
 | b :: L,n,c,hc,h1,hb=>by
  have ih:=ZrJ hq (L:=L) (n:=n+1) (c:=n) (by omega) (by omega) (fun d hd=>hb d (by simp[hd]));have hv:VPc (Zns q b n)↔n≤9999:=⟨fun h=>by have:=h.1.2.1;simpa [Zns] using this,fun h=>ZA0 hq (hb b (by simp)).1 (hb b (by simp)).2 h1 h⟩
  simp only[Ja,XL,hv,ih];have e:(Zns q b n).Label=n:=rfl;rw[e,ih];have hl:((b :: L).length:Int)=L.length+1:=by simp
  constructor
  ·rintro ⟨g1,g2,g3⟩
   right
   rcases g3 with rfl | g3
   ·simp only[Kl,KQ];omega
   ·omega
  ·rintro (g | g)
   ·cases g
   ·refine⟨by omega,hc,?_⟩;by_cases h0:L=[]
    ·exact .inl h0
    ·exact .inr (by omega)
theorem ZvT {B:List Zb} {n:Int} {Q:Prop} (hB:∀ c,c<n→(XL c B↔Q)):∀ {A:List Zb} {b:Int},XL b A→(∀ x∈A,x.Label<n)→b<n→(XL b (A++B)↔Q)
 | [],b,_,_,hb=>hB b hb
 | x :: A,b,h,hx,hb=>by
  have ih:=ZvT hB h.2.2 (fun y hy=>hx y (by simp[hy])) (hx x (by simp));simp only[KD,XL,ih];exact⟨fun g=>g.2.2,fun g=>⟨h.1,h.2.1,g⟩⟩
theorem ZrK {l:List Zb} (hv:VSt l) (ab:0<l.length):1≤Wm l∧Wm l≤9999∧∀ x∈l,x.Label≤Wm l:=by
 obtain⟨y,hy⟩:=Zp (l:=l) (k:=l.length-1) (by omega);rw[ZnS hy];have aa:=(ZW hv.2 y (Kc hy)).1;refine⟨aa.1,aa.2.1,fun x hx=>?_⟩;obtain⟨i,hi⟩:=LF hx;have:=(Kb.1 hi).1;exact(ZnT hv.2 i (l.length-1) x y (by omega) hi hy).1
def Zp4 (l:List Zb) (i:Nat) (x:Zb) (k:Zw) (p:Ze) (Zk:Int):List Zb:=l.eraseIdx i++Ja x (Wm l+1) (Xl k p Zk)
theorem ZGO {l:List Zb} {i:Nat} {x:Zb} {k:Zw} {p:Ze} {Zk:Int} (hv:VSt l) (hx:l[i]?=some x) (hg:Vu x k p) :
  VSt (Zp4 l i x k p Zk)↔((Xl k p Zk).length:Int)≤10000-(Wm l+1)∧(l.eraseIdx i).length+(Xl k p Zk).length≤20:=by
 have ab:=(Kb.1 hx).1;obtain⟨h1,h2,h3⟩:=ZrK hv (by omega);have hq:=ZW hv.2 x (Kc hx);have aa:∀ b∈Xl k p Zk,VB b∧QI b ⟨0,0,x.W,x.H⟩:=fun b hb=>by
  have:=Zq3 (Zk:=Zk) hg.1 b hb;rw[← hg.2.1,← hg.2.2.1];exact this
 have hs:=ZvT (n:=Wm l+1) (fun c hc=>ZrJ hq hc (by omega) aa) (ZiE i hv.2) (fun y hy=>by have:=h3 y (Kae hy);omega) (by omega);unfold VSt Zp4;rw[hs,Kq,ZdH];constructor
 ·rintro ⟨g1,g2 | g2⟩
  ·exact⟨by rw[g2];simp;omega,g1⟩
  ·exact⟨g2,g1⟩
 ·rintro ⟨g1,g2⟩
  exact⟨g2,.inr g1⟩
def ZbU (l:List Zb) (n:Int) (k:Zw) (p:Ze) (Zk:Int):Option (List Zb):=
 if VSt l∧0≤QB 0 l n∧1≤Zk∧Zk≤200 then
  match l[(QB 0 l n).toNat]? with
  | some x=>if Vu x k p∧VSt (Zp4 l (QB 0 l n).toNat x k p Zk) then some (Zp4 l (QB 0 l n).toNat x k p Zk) else none
  | none=>none
 else none
def Zxw:Option (List Zb)→AV×List Zm
 | some R=>(.tup [.own 0,(.d (.bool true))],[.row 4 (R.map Zb.enc) true false])
 | none=>(.tup [.own 0,(.d (.bool false))],[.row 4 [] true false])
theorem ZbV {l:List Zb} {n:Int} (h:0≤QB 0 l n):∃ (i:Nat) (x:Zb),QB 0 l n=(i:Int)∧l[i]?=some x:=by
 rcases ZrI l 0 n with h1 | ⟨i,h1,h2⟩
 ·omega
 ·obtain⟨x,hx⟩:=Zp h2;exact⟨i,x,by rw[h1];simp,hx⟩
def Zxx:Option (List Zb)→AV×List Zm
 | some R=>(.tup [.own 0,(.d (.bool true))],[.tree 4 4 (R.map Zb.enc) none])
 | none=>(.tup [.own 0,(.d (.bool false))],[.row 4 [] true false])
theorem Zux (l:List Zb) (n:Int) (kW kH:Int) (kP:List Pane) (p:Ze) (Zk:Int):Zd Xs Ms 154 [(.d (.sl (l.map Zb.enc))),(.d (J n)),(.d (.agg [J kW,J kH,.sl (kP.map Pane.enc)])),.d p.enc,(.d (J Zk))] []=some (Zxx (ZbU l n (Zw.mk kW kH kP) p Zk)):=by
 by_cases h:VSt l∧0≤QB 0 l n
 ·obtain⟨hv,hf⟩:=h;obtain⟨i,x,hi,hx⟩:=ZbV hf;have ah:=(Kb.1 hx).1;have hq:=ZW hv.2 x (Kc hx);have ai:=ZrK hv (by omega);obtain⟨y,hy⟩:=Zp (l:=l) (k:=l.length-1) (by omega);have ad:=ZnS hy;have af:=hv.1;have aa:=ZGO (k:=(Zw.mk kW kH kP)) (p:=p) (Zk:=Zk) hv hx;have et:=fun q1 q2 q3 q4 h=>Zie l n hv i hi q1 q2 q3 q4 h;unfold ZbU;rw[hi];simp only[Ky,hx];obtain⟨L,W,H,F⟩:=x;have et:=et L W H F hx;have eg:=Zut L W H F kW kH kP p;have aj:(l.eraseIdx i).length≤20:=Kx (ZnR _ _) af;have ab:l.length-1<l.length:=by omega
  have w1:IntKind.i64.wrap ((l.length:Int)-1)=((l.length-1:Nat):Int):=by rw[ZfY (by omega) (by omega)];omega
  have w2:=wi (Wm l+1) (by omega) (by omega);by_cases hg:Vu ⟨L,W,H,F⟩ (Zw.mk kW kH kP) p
  ·have hd:decide (VPc ⟨L,W,H,F⟩∧Vu ⟨L,W,H,F⟩ (Zw.mk kW kH kP) p)=true:=Kh ⟨hq,hg⟩;rw[hd] at eg;by_cases hl:1≤Zk∧Zk≤200
   ·have n1:¬Zk<1:=by omega
    have n2:¬200<Zk:=by omega
    have ag:=ZjI (Zw.mk kW kH kP) p Zk;by_cases hk:((Xl (Zw.mk kW kH kP) p Zk).length:Int)≤10000-(Wm l+1)
    ·have er:=Zmc L W H F kW kH kP p Zk (Wm l+1) hq hg.1 hg.2.1 hg.2.2.1 (by omega) (by omega) hk;have w3:=wi (((l.eraseIdx i).length:Int)+((Xl (Zw.mk kW kH kP) p Zk).length:Int)) (by omega) (by omega);have ae:=ZdH ⟨L,W,H,F⟩ (Wm l+1) (Xl (Zw.mk kW kH kP) p Zk);by_cases h2:(l.eraseIdx i).length+(Xl (Zw.mk kW kH kP) p Zk).length≤20
     ·rw[Kg ⟨hv,by omega,hl⟩,Kg ⟨hg,(aa hg).2 ⟨hk,h2⟩⟩];unfold Zp4 Zxx;have n3:¬(20:Int)<((l.eraseIdx i).length:Int)+((Xl (Zw.mk kW kH kP) p Zk).length:Int):=by omega
      have hr:((l.eraseIdx i).length+(Xl (Zw.mk kW kH kP) p Zk).length)*48≤140737488355328∧(l.eraseIdx i).length+(Xl (Zw.mk kW kH kP) p Zk).length≤140737488355328:=by omega
      clear aa hg hd;generalize Ja ⟨L,W,H,F⟩ (Wm l+1) (Xl (Zw.mk kW kH kP) p Zk)=R at er ae ⊢;generalize (Xl (Zw.mk kW kH kP) p Zk).length=N at *;obtain⟨yL,yW,yH,yF⟩:=y;simp only at ad;rw[ad] at er w2;obtain⟨o,a,m,t,ks⟩:=p;rw[Ze.enc_mk] at er eg ⊢;refine cE ?_;simp +contextual -implicitDefEqProofs only[go_sem,seval,Yl,et,eg,n1,n2,w1,hy,ab,w2,er,ae,w3,n3,hr]
     ·rw[Kg ⟨hv,by omega,hl⟩,Kd (fun h=>h2 ((aa hg).1 h.2).2)];unfold Zxx;have n3:(20:Int)<((l.eraseIdx i).length:Int)+((Xl (Zw.mk kW kH kP) p Zk).length:Int):=by omega
      clear aa hg hd;generalize Ja ⟨L,W,H,F⟩ (Wm l+1) (Xl (Zw.mk kW kH kP) p Zk)=R at er ae ⊢;generalize (Xl (Zw.mk kW kH kP) p Zk).length=N at *;obtain⟨yL,yW,yH,yF⟩:=y;simp only at ad;rw[ad] at er w2;obtain⟨o,a,m,t,ks⟩:=p;rw[Ze.enc_mk] at er eg ⊢;refine cE ?_;simp +contextual -implicitDefEqProofs only[go_sem,seval,Yl,et,eg,n1,n2,w1,hy,ab,w2,er,ae,w3,n3]
    ·have er:=ZnI L W H F kW kH kP p Zk (Wm l+1) (by omega) (by omega) hk;rw[Kg ⟨hv,by omega,hl⟩,Kd (fun h=>hk ((aa hg).1 h.2).1)];unfold Zxx;clear aa hg hd hk ag;obtain⟨yL,yW,yH,yF⟩:=y;simp only at ad;rw[ad] at er w2;obtain⟨o,a,m,t,ks⟩:=p;rw[Ze.enc_mk] at er eg ⊢;refine cE ?_;simp +contextual -implicitDefEqProofs only[go_sem,seval,Yl,et,eg,n1,n2,w1,hy,ab,w2,er]
   ·rw[Kd (fun h=>hl ⟨h.2.2.1,h.2.2.2⟩)];unfold Zxx;clear aa hg hd;obtain⟨o,a,m,t,ks⟩:=p;rw[Ze.enc_mk] at eg ⊢;by_cases n1:Zk<1
    ·refine cE ?_;simp +contextual -implicitDefEqProofs only[go_sem,seval,Yl,et,eg,n1]
    ·have n2:200<Zk:=by omega
     refine cE ?_;simp +contextual -implicitDefEqProofs only[go_sem,seval,Yl,et,eg,n1,n2]
  ·have hd:decide (VPc ⟨L,W,H,F⟩∧Vu ⟨L,W,H,F⟩ (Zw.mk kW kH kP) p)=false:=Kj fun h=>hg h.2;rw[hd] at eg;have e0:(if VSt l∧(0:Int)≤(i:Int)∧1≤Zk∧Zk≤200 then (if Vu ⟨L,W,H,F⟩ (Zw.mk kW kH kP) p∧VSt (Zp4 l i ⟨L,W,H,F⟩ (Zw.mk kW kH kP) p Zk) then some (Zp4 l i ⟨L,W,H,F⟩ (Zw.mk kW kH kP) p Zk) else none) else none)=none:=by
    rw[Kd (fun h:Vu ⟨L,W,H,F⟩ (Zw.mk kW kH kP) p∧_=>hg h.1)];split<;>rfl
   rw[e0];unfold Zxx;clear aa hg hd e0;obtain⟨o,a,m,t,ks⟩:=p;rw[Ze.enc_mk] at eg ⊢;refine cE ?_;simp +contextual -implicitDefEqProofs only[go_sem,seval,Yl,et,eg]
 ·have et:=ZiD l n h;have e0:ZbU l n (Zw.mk kW kH kP) p Zk=none:=by
   unfold ZbU;rw[Kd (fun g=>h ⟨g.1,g.2.1⟩)]
  rw[e0];unfold Zxx;clear e0;obtain⟨o,a,m,t,ks⟩:=p;rw[Ze.enc_mk];refine cE ?_;simp +contextual -implicitDefEqProofs only[go_sem,seval,Yl,et]
theorem ZBl {l:List Zb} {i:Nat} {x:Zb} {k:Zw} {p:Ze} {Zk:Int} (hv:VSt l) (hx:l[i]?=some x) (hg:Vu x k p) :
  (Zp4 l i x k p Zk).length≤1000∧∀ y∈Zp4 l i x k p Zk,y.Flaws.length<4611686018427387904∧R64 y.W∧R64 y.H:=by
 have hq:=ZW hv.2 x (Kc hx);refine⟨?_,fun y hy=>?_⟩
 ·unfold Zp4;rw[Kq,ZdH];have:=ZjI k p Zk;have:=ZnR l i;have:=hv.1;omega
 ·rcases Ki.1 hy with hy | hy
  ·have h:=ZW hv.2 y (Kae hy);have h1:=h.1;exact⟨by omega,⟨by omega,by omega⟩,⟨by omega,by omega⟩⟩
  ·obtain⟨j,hj⟩:=LF hy;obtain⟨b,hb,rfl⟩:=Zzn x _ _ j y hj;have aa:=(Zq3 (Zk:=Zk) hg.1 b (Kc hb)).1;simp only[VB] at aa;have ab:=Kr (YR b) x.Flaws;have ad:=hq.1.2.2.2.2.2.2;simp only[Zns];exact⟨by omega,⟨by omega,by omega⟩,⟨by omega,by omega⟩⟩
theorem Zuy (l:List Zb) (n:Int) (kW kH:Int) (kP:List Pane) (p:Ze) (Zk:Int) (hl:l.length≤1048576) (hS:∀ x∈l,x.Flaws.length≤1048576∧R64 x.W∧R64 x.H) (hk:kP.length<4611686018427387904):Zd Xs Ms 145 [(.d (.sl (l.map Zb.enc))),(.d (J n)),(.d (.agg [J kW,J kH,.sl (kP.map Pane.enc)])),.d p.enc,(.d (J Zk))] []=some (Zxw (ZbU l n (Zw.mk kW kH kP) p Zk)):=by
 have ev:=YQ l (by omega) (fun x hx=>by obtain⟨g1,g2,g3⟩:=hS x hx;exact⟨by omega,g2,g3⟩);have ef:=XX l n (by omega);unfold ZbU;by_cases hv:VSt l
 ·rw[Kh hv] at ev;by_cases hf:0≤QB 0 l n
  ·obtain⟨i,x,hi,hx⟩:=ZbV hf;rw[hi] at ef ⊢;have ad:¬(i:Int)<0:=by omega
   have af:=(Kb.1 hx).1;simp only[Ky,hx];by_cases hr:1≤Zk∧Zk≤200
   ·have hq:=ZW hv.2 x (Kc hx);have al:=ZrK hv (by omega);have ew:=ZgV l i (by omega) (fun x hx=>by have:=(hS x hx).1;omega);have el:=ZrH l (by omega);have w2:=wi (Wm l+1) (by omega) (by omega);rw[Kg ⟨hv,by omega,hr⟩];by_cases hg:Vu x (Zw.mk kW kH kP) p
    ·have ag:=ZBl (Zk:=Zk) hv hx hg;have aa:=YQ (Zp4 l i x (Zw.mk kW kH kP) p Zk) (by omega) ag.2;have aj:(l.eraseIdx i).length≤20:=Kx (ZnR _ _) hv.1;have am:=ZjI (Zw.mk kW kH kP) p Zk;obtain⟨L,W,H,F⟩:=x;have eg:=ZkI L W H F kW kH kP p (fun f hf=>(hq.2 f hf).1) hq.1.2.2.2.2.2.2 hk;have er:=Zuv L W H F kW kH kP p Zk (Wm l+1) hq hg.1 (by omega) (by omega);rw[Kh hg] at eg;have ae:=ZdH ⟨L,W,H,F⟩ (Wm l+1) (Xl (Zw.mk kW kH kP) p Zk);have ai:((l.eraseIdx i).length+(Xl (Zw.mk kW kH kP) p Zk).length)*48≤140737488355328∧(l.eraseIdx i).length+(Xl (Zw.mk kW kH kP) p Zk).length≤140737488355328:=by omega
     unfold Zp4 at aa ⊢;have ah:=hg;clear hg;by_cases ab:VSt (l.eraseIdx i++Ja ⟨L,W,H,F⟩ (Wm l+1) (Xl (Zw.mk kW kH kP) p Zk))
     ·rw[Kh ab] at aa;rw[Kg ⟨ah,ab⟩];unfold Zxw;clear ab ag ah;generalize Ja ⟨L,W,H,F⟩ (Wm l+1) (Xl (Zw.mk kW kH kP) p Zk)=R at er ae aa ⊢;generalize (Xl (Zw.mk kW kH kP) p Zk).length=N at *;obtain⟨o,a,m,t,ks⟩:=p;rw[Ze.enc_mk] at er eg ⊢;refine cE ?_;simp +contextual -implicitDefEqProofs only[go_sem,seval,YV,ev,ef,ad,Zv,hr,hx,af,eg,ew,el,w2,er,ae,ai,aa]
     ·rw[Kj ab] at aa;rw[Kd (fun h=>ab h.2)];unfold Zxw;clear ab ag ah;generalize Ja ⟨L,W,H,F⟩ (Wm l+1) (Xl (Zw.mk kW kH kP) p Zk)=R at er ae aa ⊢;generalize (Xl (Zw.mk kW kH kP) p Zk).length=N at *;obtain⟨o,a,m,t,ks⟩:=p;rw[Ze.enc_mk] at er eg ⊢;refine cE ?_;simp +contextual -implicitDefEqProofs only[go_sem,seval,YV,ev,ef,ad,Zv,hr,hx,af,eg,ew,el,w2,er,ae,ai,aa]
    ·rw[Kd (fun h=>hg h.1)];obtain⟨L,W,H,F⟩:=x;have eg:=ZkI L W H F kW kH kP p (fun f hf=>(hq.2 f hf).1) hq.1.2.2.2.2.2.2 hk;rw[Kj hg] at eg;unfold Zxw;clear hg;obtain⟨o,a,m,t,ks⟩:=p;rw[Ze.enc_mk] at eg ⊢;refine cE ?_;simp +contextual -implicitDefEqProofs only[go_sem,seval,YV,ev,ef,ad,Zv,hr,hx,af,eg]
   ·rw[Kd (fun h=>hr h.2.2)];unfold Zxw;obtain⟨o,a,m,t,ks⟩:=p;rw[Ze.enc_mk];refine cE ?_;simp +contextual -implicitDefEqProofs only[go_sem,seval,YV,ev,ef,ad,Zv,hr]
  ·rw[Kd (fun h=>hf h.2.1)];have ak : QB 0 l n<0:=by omega
   unfold Zxw;obtain⟨o,a,m,t,ks⟩:=p;rw[Ze.enc_mk];refine cE ?_;simp +contextual -implicitDefEqProofs only[go_sem,seval,YV,ev,ef,ak]
 ·rw[Kj hv] at ev;rw[Kd (fun h=>hv h.1)];unfold Zxw;obtain⟨o,a,m,t,ks⟩:=p;rw[Ze.enc_mk];refine cE ?_;simp +contextual -implicitDefEqProofs only[go_sem,seval,YV,ev]
theorem ZrL (l:List Zb) (hv:VSt l):Zd Xs Ms 77 [(.d (.sl (l.map Zb.enc)))] []=some ((.d (J (Y8 l))),[]):=by
 have ev:=YP l;rw[Kh hv] at ev;have af:=hv.1;have aa:∀ x∈l,1≤x.W∧x.W≤200∧1≤x.H∧x.H≤200:=fun x hx=>by
  have:=(ZW hv.2 x hx).1;omega
 clear hv;refine cE ?_;simp +contextual -implicitDefEqProofs only[go_sem,seval,ZfJ,ev];refine LO (α:=Nat) (fun i=>[(11,.d (J (i:Int))),(3,.d (J (Y8 (l.take i))))]) (fun _=>[]) (fun i=>i≤l.length) (fun i=>l.length-i) 0 (by omega) ?_;intro i hi ih;by_cases ab:i<l.length
 ·obtain⟨x,hx⟩:=Zp ab;have hw:=Zg (k:=i) (by omega);have hm:=ZrF hx;have ag:=ZcL (l:=l.take i) (fun y hy=>aa y (Lg hy));have ah:(l.take i).length≤i:=by simp;omega
  have g5:=aa x (Kc hx);have ad:x.W*x.H≤200*200:=Kao (by omega) (by omega) (by omega) (by omega);have ae:0≤x.W*x.H:=Kan (by omega) (by omega);obtain⟨xL,xW,xH,xF⟩:=x;simp only at g5 hm ad ae;have u0:=wi (xW*xH) (by omega) (by omega);have u1:=wi (Y8 (l.take i)+xW*xH) (by omega) (by omega);simp +contextual -implicitDefEqProofs only[go_sem,seval,hx,ab,hw,u0,u1];refine ih (i+1) _ (by omega) (by omega) ?_;simp +contextual -implicitDefEqProofs only[go_sem,seval,hm]
 ·have:i=l.length:=by omega
  subst this;simp +contextual -implicitDefEqProofs only[go_sem,seval,KN]
end Go.Proofs.YtfnegoimdljanaaGreatDoor
