import Derived.Test.YtfnegoimdljanaaGreatDoorBC2
set_option linter.unusedSimpArgs false
set_option linter.unusedVariables false
namespace Go.Proofs.YtfnegoimdljanaaGreatDoor
open Go Go.Abs Go.Abs.E Go.Abs.L
set_option maxRecDepth 20000
set_option maxHeartbeats 4000000
theorem ZmG (bs:List UInt8) (hb:bs.length≤2000) (p:Nat) (hp:p<900000000) (w h:Int):∃ X Y W H:Int,
  v_ 187 [.ptr 0 0,(.d (J w)),(.d (J h))] [.box [.d (.sl (bs.map YU)),(.d (J p))]]=some (.d (.agg [J X,J Y,J W,J H]),[.box [.d (.sl (bs.map YU)),(.d (J ((p+4:Nat))))]]):=by
 have p1:=ZV bs p w hb o_;generalize Qc bs p w=a1 at p1;have p2:=ZV bs (p+1) h hb o_;generalize Qc bs (p+1) h=a2 at p2;have p3:=ZV bs (p+2) (IntKind.i64.wrap (IntKind.i64.wrap (w-IntKind.i64.wrap (1+a1))+1)) hb o_;generalize Qc bs (p+2) (IntKind.i64.wrap (IntKind.i64.wrap (w-IntKind.i64.wrap (1+a1))+1))=a3 at p3;have p4:=ZV bs (p+3) (IntKind.i64.wrap (IntKind.i64.wrap (h-IntKind.i64.wrap (1+a2))+1)) hb o_;generalize Qc bs (p+3) (IntKind.i64.wrap (IntKind.i64.wrap (h-IntKind.i64.wrap (1+a2))+1))=a4 at p4;refine⟨a3,a4,IntKind.i64.wrap (1+a1),IntKind.i64.wrap (1+a2),?_⟩
 refine cE ?_;simp (maxSteps:=10^7) +contextual -implicitDefEqProofs only[go_sem,seval,Zpq,p1,p2,p3,p4]
def Y5:List Zb→Int
 | []=>0
 | x :: l=>x.W*x.H+Y5 l
theorem Zws (a b:List Zb):Y5 (a++b)=Y5 a+Y5 b:=by
 induction a with
 | nil=>simp[Y5]
 | cons c l ih=>simp only[KF,Y5,ih];omega
theorem ZsM {L:List Zb} {i:Nat} {x:Zb} (hx:L[i]?=some x):Y5 (L.take (i+1))=Y5 (L.take i)+x.W*x.H:=by
 rw[KB,hx,Zws];simp[Y5]
theorem Zyn (q:Zb):∀ (n:Int) (l:List Box) (i:Nat) (x:Zb),(UN q n l)[i]?=some x→∃ b,l[i]?=some b∧x=ZnT q b (n+i)
 | n,[],i,x,h=>by simp[UN] at h
 | n,b :: l,0,x,h=>by
  simp only[UN,KX,Option.some.injEq] at h;exact⟨b,rfl,by rw[← h];simp⟩
 | n,b :: l,i+1,x,h=>by
  simp only[UN,KY] at h;obtain⟨c,h1,h2⟩:=Zyn q (n+1) l i x h;refine⟨c,by simpa using h1,?_⟩;rw[h2];congr 1;omega
theorem ZbG:∀ {l:List Zb},(∀ x∈l,1≤x.W∧x.W≤200∧1≤x.H∧x.H≤200)→0≤Y5 l∧Y5 l≤40000*l.length
 | [],_=>by simp[Y5]
 | x :: l,h=>by
  have h1:=h x (by simp);have h2:=ZbG (l:=l) fun y hy=>h y (by simp[hy]);have h3:0≤x.W*x.H:=Kat o_ o_;have h4:x.W*x.H≤200*200:=Kau o_ o_ o_ o_;simp only[Y5,Kl];omega
end Go.Proofs.YtfnegoimdljanaaGreatDoor
namespace Go.Proofs.YtfnegoimdljanaaGreatDoor
open Go Go.Abs Go.Abs.E Go.Abs.L
set_option maxRecDepth 20000
set_option maxHeartbeats 4000000
def XJ:Int→List Zb→Prop
 | _,[]=>True
 | b,x :: l=>VPc x∧b<x.Label∧XJ x.Label l
instance sortFdec:∀ (b:Int) (l:List Zb),Decidable (XJ b l)
 | _,[]=>.isTrue trivial
 | b,x :: l=>by unfold XJ;exact @instDecidableAnd _ _ _ (@instDecidableAnd _ _ _ (sortFdec x.Label l))
def VSt (l:List Zb):Prop:=l.length≤20∧XJ 0 l
instance (l:List Zb):Decidable (VSt l):=by unfold VSt;infer_instance
theorem ZsN {l:List Zb} {k:Nat} {x:Zb} {b:Int} (hx:l[k]?=some x):XJ b (l.drop k)↔VPc x∧b<x.Label∧XJ x.Label (l.drop (k+1)):=by
 obtain⟨h1,h2⟩:=Kc.1 hx;rw[Ku h1,h2,XJ]
theorem Zva {l:List Zb} {b:Int}:XJ b (l.drop l.length):=by simp[XJ]
theorem YH (l:List Zb):v_ 75 [(.d (.sl (l.map Zb.enc)))] []=some ((.d (.bool (decide (VSt l)))),[]):=by
 by_cases ab:(20:Int)<(l.length:Int)
 ·have hn:¬VSt l:=fun h=>by have:=h.1;omega
  refine cE ?_;simp (maxSteps:=10^7) +contextual -implicitDefEqProofs only[go_sem,seval,Zde,ab,hn]
 ·have ad:l.length≤20:=o_
  refine cE ?_;simp (maxSteps:=10^7) +contextual -implicitDefEqProofs only[go_sem,seval,Zde,ab];refine LO (α:=Nat×Int) (fun s=>[(11,.d (J (s.1:Int))),(3,.d (J s.2))]) (fun _=>[]) (fun s=>s.1≤l.length∧(XJ 0 l↔XJ s.2 (l.drop s.1))) (fun s=>l.length-s.1) (0,0) ⟨by simp,by simp⟩ ?_;intro⟨i,b⟩ ⟨hi,hp⟩ ih;simp only at hi hp;by_cases aa:i<l.length
  ·obtain⟨x,hx⟩:=Zn aa;have hw:=Zg (k:=i) o_;rw[ZsN hx] at hp;have ev:=Q4 x.Label x.W x.H x.Flaws;obtain⟨L,W,H,F⟩:=x;simp only at hp ev;by_cases hv:VPc ⟨L,W,H,F⟩
   ·rw[Ki hv] at ev;by_cases hb:L≤b
    ·have hn:¬VSt l:=fun h=>by have:=(hp.1 h.2).2.1;omega
     simp +contextual -implicitDefEqProofs only[go_sem,seval,hx,aa,hw,ev,hb,hn]
    ·simp +contextual -implicitDefEqProofs only[go_sem,seval,hx,aa,hw,ev,hb];refine ih (i+1,L) _ ⟨p_,?_⟩ p_ ?_
     ·rw[hp];exact⟨fun h=>h.2.2,fun h=>⟨hv,o_,h⟩⟩
     ·simp +contextual -implicitDefEqProofs only[go_sem,seval]
   ·rw[Kk hv] at ev;have hn:¬VSt l:=fun h=>hv (hp.1 h.2).1;simp +contextual -implicitDefEqProofs only[go_sem,seval,hx,aa,hw,ev,hn]
  ·have:i=l.length:=o_
   subst this;have hy:VSt l:=⟨ad,hp.2 Zva⟩
   simp +contextual -implicitDefEqProofs only[go_sem,seval,hy]
def ZmH (l:List Zb):Nat→Int
 | 0=>0
 | j+1=>match l[j]? with
  | some x=>x.Label
  | none=>0
theorem YI (l:List Zb) (hl:l.length<4611686018427387904) (hS:∀ x∈l,x.Flaws.length<4611686018427387904∧R64 x.W∧R64 x.H):v_ 92 [(.d (.sl (l.map Zb.enc)))] []=some ((.d (.bool (decide (VSt l)))),[]):=by
 refine cE ?_;simp (maxSteps:=10^7) +contextual -implicitDefEqProofs only[go_sem,seval,ZiW];refine LO (α:=Nat) (fun i=>[(3,.d (J (i:Int)))]) (fun _=>[]) (fun i=>i≤l.length∧(XJ 0 l↔XJ (ZmH l i) (l.drop i))) (fun i=>l.length-i) 0 ⟨by simp,by simp[ZmH]⟩ ?_;intro i ⟨hi,hp⟩ ih;by_cases aa:i<l.length
 ·obtain⟨x,hx⟩:=Zn aa;have hw:=Zg (k:=i) o_;rw[ZsN hx] at hp;obtain⟨ag,ah,ai⟩:=hS x (Kb hx);have ev:=Zg6 x.Label x.W x.H x.Flaws ag ah ai;have ad:ZmH l (i+1)=x.Label:=by simp only[ZmH,hx]
  obtain⟨L,W,H,F⟩:=x;simp only at hp ev ad;by_cases hv:VPc ⟨L,W,H,F⟩
  ·rw[Ki hv] at ev;have hL:1≤L:=hv.1.1;cases i with
   | zero=>
    have ae : (0:Int)<(l.length:Int):=o_
    simp +contextual -implicitDefEqProofs only[go_sem,seval,hx,aa,ae,hw,ev];refine ih 1 _ ⟨o_,?_⟩ o_ ?_
    ·rw[hp,ad];exact⟨fun h=>h.2.2,fun h=>⟨hv,by simp only[ZmH];omega,h⟩⟩
    ·simp +contextual -implicitDefEqProofs only[go_sem,seval]
   | succ j=>
    obtain⟨y,hy⟩:=Zn (l:=l) (k:=j) o_;have aj:ZmH l (j+1)=y.Label:=by simp only[ZmH,hy]
    rw[aj] at hp;have hj:IntKind.i64.wrap (((j+1:Nat):Int)-1)=(j:Int):=by rw[W4 o_ o_];omega
    have ab:(0:Int)<((j+1:Nat):Int):=o_
    have af:j<l.length:=o_
    obtain⟨L',W',H',F'⟩:=y;simp only at hp;by_cases hb:L≤L'
    ·have hn:¬VSt l:=fun h=>by have:=(hp.1 h.2).2.1;omega
     simp +contextual -implicitDefEqProofs only[go_sem,seval,hx,aa,hw,ev,ab,hj,af,hy,hb,hn]
    ·simp +contextual -implicitDefEqProofs only[go_sem,seval,hx,aa,hw,ev,ab,hj,af,hy,hb];refine ih (j+1+1) _ ⟨o_,?_⟩ o_ ?_
     ·rw[hp,ad];exact⟨fun h=>h.2.2,fun h=>⟨hv,o_,h⟩⟩
     ·simp +contextual -implicitDefEqProofs only[go_sem,seval]
  ·rw[Kk hv] at ev;have hn:¬VSt l:=fun h=>hv (hp.1 h.2).1;simp +contextual -implicitDefEqProofs only[go_sem,seval,hx,aa,hw,ev,hn]
 ·have:i=l.length:=o_
  subst this;have hs:=hp.2 Zva;simp +contextual -implicitDefEqProofs only[go_sem,seval];exact Zb3 (by simp only[VSt];constructor<;>(intro h;first | exact⟨o_,hs⟩ | (have:=h.1;omega)))
def QD:Nat→List Zb→Int→Int
 | _,[],_=>-1
 | k,x :: l,n=>if x.Label=n then (k:Int) else QD (k+1) l n
theorem Zvb {l:List Zb} {k:Nat} {x:Zb} {n:Int} (hx:l[k]?=some x):QD k (l.drop k) n=if x.Label=n then (k:Int) else QD (k+1) (l.drop (k+1)) n:=by
 obtain⟨h1,h2⟩:=Kc.1 hx;rw[Ku h1,h2,QD]
theorem Zog (qL qW qH:Int) (qF:List Box) (n:Int):v_ 82 [(.d (.agg [J qL,J qW,J qH,.sl (qF.map Box.enc)])),.ptr 0 0] [.box [(.d (J n))]]=some ((.d (.bool (decide (qL=n)))),[.box [(.d (J n))]]):=by
 refine cE ?_;simp (maxSteps:=10^7) +contextual -implicitDefEqProofs only[go_sem,seval,Zhg]
theorem Zwt (l:List Zb) (n:Int) (hl:l.length<4611686018427387904):v_ 81 [(.d (.sl (l.map Zb.enc))),.clo 82 [.ptr 0 0]] [.box [(.d (J n))]]=some ((.d (J (QD 0 l n))),[.box [(.d (J n))]]):=by
 refine cE ?_;simp (maxSteps:=10^7) +contextual -implicitDefEqProofs only[go_sem,seval,ZaV];refine LO (α:=Nat) (fun k=>[(8,.d (J (k:Int)))]) (fun _=>[]) (fun k=>k≤l.length∧QD k (l.drop k) n=QD 0 l n) (fun k=>l.length-k) 0 ⟨o_,rfl⟩ ?_;intro k ⟨hk,hp⟩ ih;by_cases aa:k<l.length
 ·obtain⟨x,hx⟩:=Zn aa;rw[Zvb hx] at hp;have hw:=Zg (k:=k) o_;have e1:=Zog x.Label x.W x.H x.Flaws n;obtain⟨L,W,H,F⟩:=x;simp only at hp e1;by_cases h:L=n
  ·rw[Kg h] at hp;rw[Ki h] at e1;simp +contextual -implicitDefEqProofs only[go_sem,seval,hx,aa,hw,e1];rw[← hp]
  ·rw[Kd h] at hp;rw[Kk h] at e1;simp +contextual -implicitDefEqProofs only[go_sem,seval,hx,aa,hw,e1];refine ih (k+1) _ ⟨o_,hp⟩ o_ ?_;simp +contextual -implicitDefEqProofs only[go_sem,seval]
 ·have:k=l.length:=o_
  subst this;simp +contextual -implicitDefEqProofs only[go_sem,seval];rw[← hp];simp[QD]
theorem Yy (l:List Zb) (n:Int) (hl:l.length<4611686018427387904):v_ 40 [(.d (.sl (l.map Zb.enc))),(.d (J n))] []=some ((.d (J (QD 0 l n))),[]):=by
 refine cE ?_;simp (maxSteps:=10^7) +contextual -implicitDefEqProofs only[go_sem,seval,Zkl,Zwt l n hl]
theorem XV (l:List Zb) (n:Int) (hl:l.length<4611686018427387904):v_ 97 [(.d (.sl (l.map Zb.enc))),(.d (J n))] []=some ((.d (J (QD 0 l n))),[]):=by
 refine cE ?_;simp (maxSteps:=10^7) +contextual -implicitDefEqProofs only[go_sem,seval,Zkn];refine LO (α:=Nat) (fun k=>[(5,.d (J (k:Int)))]) (fun _=>[]) (fun k=>k≤l.length∧QD k (l.drop k) n=QD 0 l n) (fun k=>l.length-k) 0 ⟨o_,rfl⟩ ?_;intro k ⟨hk,hp⟩ ih;by_cases aa:k<l.length
 ·obtain⟨x,hx⟩:=Zn aa;rw[Zvb hx] at hp;have hw:=Zg (k:=k) o_;obtain⟨L,W,H,F⟩:=x;simp only at hp;by_cases h:L=n
  ·rw[Kg h] at hp;simp +contextual -implicitDefEqProofs only[go_sem,seval,hx,aa,hw,h];rw[← hp]
  ·rw[Kd h] at hp;simp +contextual -implicitDefEqProofs only[go_sem,seval,hx,aa,hw,h];refine ih (k+1) _ ⟨o_,hp⟩ o_ ?_;simp +contextual -implicitDefEqProofs only[go_sem,seval]
 ·have:k=l.length:=o_
  subst this;simp +contextual -implicitDefEqProofs only[go_sem,seval];rw[← hp];simp[QD]
theorem Jy (qL qW qH:Int) (qF:List Box) (hF:qF.length≤1048576):v_ 131 [(.d (.agg [J qL,J qW,J qH,.sl (qF.map Box.enc)]))] []=some (.agg [(.d (J qL)),(.d (J qW)),(.d (J qH)),.own 0],[.row 4 (qF.map Box.enc) true false]):=by
 have hr:qF.length*32≤140737488355328∧qF.length≤140737488355328:=o_
 refine cE ?_;simp (maxSteps:=10^7) +contextual -implicitDefEqProofs only[go_sem,seval,Zkr,hr]
theorem Vc (qL qW qH:Int) (qF:List Box) (hF:qF.length≤1048576):v_ 136 [(.d (.agg [J qL,J qW,J qH,.sl (qF.map Box.enc)]))] []=some (.agg [(.d (J qL)),(.d (J qW)),(.d (J qH)),.own 0],[.row 4 (qF.map Box.enc) true false]):=by
 have hr:qF.length*32≤140737488355328∧qF.length≤140737488355328:=o_
 refine cE ?_;simp (maxSteps:=10^7) +contextual -implicitDefEqProofs only[go_sem,seval,Zkf,hr]
theorem ZcG:∀ (F:List Box),JY D.flat (F.map Box.enc)=true
 | []=>rfl
 | x :: F=>by simp only[Kh,JY,ZcG F,Kae];rfl
theorem ZcH (l:List Zb) (hl:l.length≤1048576) (hF:∀ x∈l,x.Flaws.length≤1048576):v_ 91 [(.d (.sl (l.map Zb.enc)))] []=some (.own 0,[.tree 4 4 (l.map Zb.enc) none]):=by
 refine cE ?_;simp (maxSteps:=10^7) +contextual -implicitDefEqProofs only[go_sem,seval,Zkc];refine LO (α:=Nat) (fun i=>[(8,.d (J (i:Int)))]) (fun i=>[(0,.tree 4 4 ((l.take i).map Zb.enc) none)]) (fun i=>i≤l.length) (fun i=>l.length-i) 0 o_ ?_;intro i hi ih;by_cases aa:i<l.length
 ·obtain⟨x,hx⟩:=Zn aa;have hw:=Zg (k:=i) o_;have hm:l.take (i+1)=l.take i++[x]:=by rw[KB,hx];simp
  have ad:(l.take i).length≤i:=by simp;omega
  have hr:((l.take i).length+1)*48≤140737488355328∧(l.take i).length≤140737488355327:=o_
  have e:=Jy x.Label x.W x.H x.Flaws (hF x (Kb hx));obtain⟨L,W,H,F⟩:=x;simp only at e;have ab:=ZcG F;simp +contextual -implicitDefEqProofs only[go_sem,seval,hx,aa,hw,e,hr,ab];refine ih (i+1) _ o_ o_ ?_;simp +contextual -implicitDefEqProofs only[go_sem,seval,hm]
  first | rfl | (simp;done) | (simp;rfl)
 ·have:i=l.length:=o_
  subst this;simp +contextual -implicitDefEqProofs only[go_sem,seval];simp
theorem Zz1 {α:Type} {l:List α} {i a:Nat} {x:α} (hx:l[i]?=some x) (h:i≠a):(l.take (i+1)).eraseIdx a=(l.take i).eraseIdx a++[x]:=by
 have h1:=(Kc.1 hx).1;have e:l.take (i+1)=l.take i++[x]:=by rw[KB,hx];simp
 rw[e];have hl:(l.take i).length=i:=by simp;omega
 rcases K7 a i with h2 | h2
 ·rw[List.eraseIdx_append_of_lt_length o_]
 ·rw[Kaw (by simp;omega),Kaw o_]
theorem Zz2 {α:Type} {l:List α} {i:Nat} {x:α} (hx:l[i]?=some x):(l.take (i+1)).eraseIdx i=(l.take i).eraseIdx i:=by
 have h1:=(Kc.1 hx).1;have e:l.take (i+1)=l.take i++[x]:=by rw[KB,hx];simp
 have hl:(l.take i).length=i:=by simp;omega
 rw[e,List.eraseIdx_append_of_length_le o_,hl];simp;rw[Kaw o_]
theorem Zoh {α:Type} (l:List α) (a:Nat):(l.eraseIdx a).length≤l.length:=by
 have:=List.length_eraseIdx_le l a;omega
theorem Zgd (l:List Zb) (a:Nat) (hl:l.length≤1048576) (hF:∀ x∈l,x.Flaws.length≤1048576):v_ 95 [(.d (.sl (l.map Zb.enc))),(.d (J a))] []=some (.own 0,[.row 4 ((l.eraseIdx a).map Zb.enc) true false]):=by
 refine cE ?_;simp (maxSteps:=10^7) +contextual -implicitDefEqProofs only[go_sem,seval,ZiO];refine LO (α:=Nat) (fun i=>[(6,.d (J (i:Int)))]) (fun i=>[(0,.row 4 (((l.take i).eraseIdx a).map Zb.enc) true false)]) (fun i=>i≤l.length) (fun i=>l.length-i) 0 o_ ?_;intro i hi ih;by_cases aa:i<l.length
 ·obtain⟨x,hx⟩:=Zn aa;have hw:=Zg (k:=i) o_;by_cases ab:i=a
  ·subst ab;have hm:=Zz2 hx;simp +contextual -implicitDefEqProofs only[go_sem,seval,hx,aa,hw];refine ih (i+1) _ o_ o_ ?_;simp +contextual -implicitDefEqProofs only[go_sem,seval,hm]
  ·have hm:=Zz1 hx ab;have ad:((l.take i).eraseIdx a).length≤i:=Ky (Zoh _ _) (by simp;omega);have hr:(((l.take i).eraseIdx a).length+1)*48≤140737488355328∧((l.take i).eraseIdx a).length≤140737488355327:=o_
   have e:=Vc x.Label x.W x.H x.Flaws (hF x (Kb hx));obtain⟨L,W,H,F⟩:=x;simp only at e;simp +contextual -implicitDefEqProofs only[go_sem,seval,hx,aa,hw,ab,e,hr];refine ih (i+1) _ o_ o_ ?_;simp +contextual -implicitDefEqProofs only[go_sem,seval,hm]
   first | rfl | (simp;done) | (simp;rfl)
 ·have:i=l.length:=o_
  subst this;simp +contextual -implicitDefEqProofs only[go_sem,seval];simp
def VK (l:List Zb):Int:=ZmH l l.length
theorem Zoi {l:List Zb} {x:Zb} (hx:l[l.length-1]?=some x):VK l=x.Label:=by
 have h:=(Kc.1 hx).1;unfold VK;obtain⟨n,hn⟩:∃ n,l.length=n+1:=⟨l.length-1,o_⟩
 rw[hn] at hx ⊢;simp only[ZmH];simp only[Nat.add_sub_cancel] at hx;rw[hx]
theorem Zie (l:List Zb) (hl:l.length<4611686018427387904):v_ 186 [(.d (.sl (l.map Zb.enc)))] []=some ((.d (J (VK l))),[]):=by
 by_cases h0:l.length=0
 ·have e:VK l=0:=by unfold VK;rw[h0];rfl
  have aa : (l.length:Int)=0:=o_
  rw[e];refine cE ?_;simp (maxSteps:=10^7) +contextual -implicitDefEqProofs only[go_sem,seval,ZeL,aa]
 ·obtain⟨x,hx⟩:=Zn (l:=l) (k:=l.length-1) o_;have e:=Zoi hx;have hn:¬(l.length:Int)=0:=o_
  have hw:IntKind.i64.wrap ((l.length:Int)-1)=((l.length-1:Nat):Int):=by rw[W4 o_ o_];omega
  have ab:l.length-1<l.length:=o_
  obtain⟨L,W,H,F⟩:=x;simp only at e;refine cE ?_;simp (maxSteps:=10^7) +contextual -implicitDefEqProofs only[go_sem,seval,ZeL,hn,hw,hx,ab,e]
theorem ZsO:∀ (l:List Zb) (k:Nat) (n:Int),QD k l n=-1∨∃ i:Nat,QD k l n=((k+i:Nat):Int)∧i<l.length
 | [],k,n=>.inl rfl
 | x :: l,k,n=>by
  unfold QD;split
  ·exact .inr ⟨0,by simp,by simp⟩
  ·rcases ZsO l (k+1) n with h | ⟨i,h1,h2⟩
   ·exact .inl h
   ·exact .inr ⟨i+1,by rw[h1];congr 1;omega,by simp;omega⟩
theorem ZW:∀ {l:List Zb} {b:Int},XJ b l→∀ x∈l,VPc x
 | [],_,_,x,hx=>by simp at hx
 | y :: l,b,h,x,hx=>by
  rcases Ke.1 hx with rfl | hx
  ·exact h.1
  ·exact ZW h.2.2 x hx
theorem ZbW {l:List Zb} (h:VSt l):l.length≤1048576∧∀ x∈l,x.Flaws.length≤1048576:=by
 refine⟨by have:=h.1;omega,fun x hx=>?_⟩;have:=(ZW h.2 x hx).1.2.2.2.2.2.2;omega
theorem Zif (l:List Zb) (n:Int) (h:¬(VSt l∧0≤QD 0 l n)):v_ 159 [(.d (.sl (l.map Zb.enc))),(.d (J n))] [] =
  some (.tup [.agg [(.d (J 0)),(.d (J 0)),(.d (J 0)),.own 0],.own 1,(.d (.bool false))],[.row 4 [] true false,.row 4 [] true false]):=by
 have ev:=YH l;by_cases hv:VSt l
 ·rw[Ki hv] at ev;have hf:=Yy l n (by have:=hv.1;omega);have hn:QD 0 l n<0:=by
   rcases Int.lt_or_le (QD 0 l n) 0 with h1 | h1
   ·exact h1
   ·exact absurd ⟨hv,h1⟩ h
  refine cE ?_;simp (maxSteps:=10^7) +contextual -implicitDefEqProofs only[go_sem,seval,ZaF,ev,hf,hn]
 ·rw[Kk hv] at ev;refine cE ?_;simp (maxSteps:=10^7) +contextual -implicitDefEqProofs only[go_sem,seval,ZaF,ev]
theorem Zg9 (l:List Zb) (n:Int) (hv:VSt l) (i:Nat) (hi:QD 0 l n=(i:Int)) (qL qW qH:Int) (qF:List Box) (hx:l[i]?=some (Zb.mk qL qW qH qF)):v_ 159 [(.d (.sl (l.map Zb.enc))),(.d (J n))] [] =
  some (.tup [.agg [(.d (J qL)),(.d (J qW)),(.d (J qH)),.own 0],.own 1,(.d (.bool true))],[.row 4 (qF.map Box.enc) true false,.tree 4 4 ((l.eraseIdx i).map Zb.enc) none]):=by
 have ev:=YH l;rw[Ki hv] at ev;have ab:i<l.length:=(Kc.1 hx).1;have ad:=hv.1;obtain⟨h1,h2⟩:=ZbW hv;have hf:=Yy l n o_;rw[hi] at hf;have hw:=Zg (k:=i) o_;have c1:=ZcH (l.take i) (by simp;omega) (fun x hx=>h2 x (Lh hx));have c2:=ZcH (l.drop (i+1)) (by simp;omega) (fun x hx=>h2 x (Kab hx));have e:=Jy qL qW qH qF (h2 (Zb.mk qL qW qH qF) (Kb hx));have hr:((l.take i).length+(l.drop (i+1)).length)*48≤140737488355328∧(l.take i).length+(l.drop (i+1)).length≤140737488355328:=by simp;omega
 have ae:i≤l.length:=o_
 have aa:i+1≤l.length:=o_
 have af:¬(i:Int)<0:=o_
 rw[List.eraseIdx_eq_take_drop_succ];refine cE ?_;simp (maxSteps:=10^7) +contextual -implicitDefEqProofs only[go_sem,seval,ZaF,ZlV,ev,hf,af,hw,hx,ab,ae,aa,c1,c2,e,hr,KI]
theorem Zz3 {b c:Int} (h:b≤c):∀ {l:List Zb},XJ c l→XJ b l
 | [],_=>trivial
 | x :: l,hs=>⟨hs.1,by have:=hs.2.1;omega,hs.2.2⟩
theorem Zig:∀ {l:List Zb} {b:Int} (i:Nat),XJ b l→XJ b (l.eraseIdx i)
 | [],b,i,_=>by simp[XJ]
 | x :: l,b,0,h=>by
  simp only[List.eraseIdx_cons_zero];exact Zz3 (by have:=h.2.1;omega) h.2.2
 | x :: l,b,i+1,h=>by
  simp only[List.eraseIdx_cons_succ];exact⟨h.1,h.2.1,Zig i h.2.2⟩
theorem Zoj:∀ {l:List Zb} {b:Int},XJ b l→∀ (i j:Nat) (x y:Zb),i≤j→l[i]?=some x→l[j]?=some y→x.Label≤y.Label∧b<x.Label
 | [],b,_,i,j,x,y,_,hx,_=>by simp at hx
 | z :: l,b,h,0,0,x,y,_,hx,hy=>by
  simp at hx hy;subst hx;subst hy;exact⟨Kai _,h.2.1⟩
 | z :: l,b,h,0,j+1,x,y,_,hx,hy=>by
  simp at hx hy;subst hx;have:=(Zoj h.2.2 j j y y (Kr _) hy hy).2;exact⟨o_,h.2.1⟩
 | z :: l,b,h,i+1,j+1,x,y,hij,hx,hy=>by
  simp at hx hy;have:=Zoj h.2.2 i j x y o_ hx hy;have h2:=h.2.1;exact⟨this.1,o_⟩
 | z :: l,b,h,i+1,0,x,y,hij,hx,hy=>by omega
theorem ZsP {q:Zb} (hq:VPc q):∀ {L:List Box} {n c:Int},c<n→1≤n→(∀ b∈L,VB b∧QI b ⟨0,0,q.W,q.H⟩)→(XJ c (UN q n L)↔(L=[]∨(L.length:Int)≤10000-n))
 | [],n,c,_,_,_=>by simp[UN,XJ]
 | b :: L,n,c,hc,h1,hb=>by
  have ih:=ZsP hq (L:=L) (n:=n+1) (c:=n) o_ o_ (fun d hd=>hb d (by simp[hd]));have hv:VPc (ZnT q b n)↔n≤9999:=⟨fun h=>by have:=h.1.2.1;simpa [ZnT] using this,fun h=>ZzG hq (hb b (by simp)).1 (hb b (by simp)).2 h1 h⟩
  simp only[UN,XJ,hv,ih];have e:(ZnT q b n).Label=n:=rfl;rw[e,ih];have hl:((b :: L).length:Int)=L.length+1:=by simp
  constructor
  ·rintro ⟨g1,g2,g3⟩
   right
   rcases g3 with rfl | g3
   ·simp only[Kl,KO];omega
   ·omega
  ·rintro (g | g)
   ·cases g
   ·refine⟨o_,hc,?_⟩;by_cases h0:L=[]
    ·exact .inl h0
    ·exact .inr o_
theorem Zvc {B:List Zb} {n:Int} {Q:Prop} (hB:∀ c,c<n→(XJ c B↔Q)):∀ {A:List Zb} {b:Int},XJ b A→(∀ x∈A,x.Label<n)→b<n→(XJ b (A++B)↔Q)
 | [],b,_,_,hb=>hB b hb
 | x :: A,b,h,hx,hb=>by
  have ih:=Zvc hB h.2.2 (fun y hy=>hx y (by simp[hy])) (hx x (by simp));simp only[KF,XJ,ih];exact⟨fun g=>g.2.2,fun g=>⟨h.1,h.2.1,g⟩⟩
theorem ZsQ {l:List Zb} (hv:VSt l) (ab:0<l.length):1≤VK l∧VK l≤9999∧∀ x∈l,x.Label≤VK l:=by
 obtain⟨y,hy⟩:=Zn (l:=l) (k:=l.length-1) o_;rw[Zoi hy];have aa:=(ZW hv.2 y (Kb hy)).1;refine⟨aa.1,aa.2.1,fun x hx=>?_⟩;obtain⟨i,hi⟩:=LG hx;have:=(Kc.1 hi).1;exact(Zoj hv.2 i (l.length-1) x y o_ hi hy).1
def Zp0 (l:List Zb) (i:Nat) (x:Zb) (k:Zv) (p:Ze) (Zj:Int):List Zb:=l.eraseIdx i++UN x (VK l+1) (Xj k p Zj)
theorem ZE4 {l:List Zb} {i:Nat} {x:Zb} {k:Zv} {p:Ze} {Zj:Int} (hv:VSt l) (hx:l[i]?=some x) (hg:Vk x k p) :
  VSt (Zp0 l i x k p Zj)↔((Xj k p Zj).length:Int)≤10000-(VK l+1)∧(l.eraseIdx i).length+(Xj k p Zj).length≤20:=by
 have ab:=(Kc.1 hx).1;obtain⟨h1,h2,h3⟩:=ZsQ hv o_;have hq:=ZW hv.2 x (Kb hx);have aa:∀ b∈Xj k p Zj,VB b∧QI b ⟨0,0,x.W,x.H⟩:=fun b hb=>by
  have:=Zr0 (Zj:=Zj) hg.1 b hb;rw[← hg.2.1,← hg.2.2.1];exact this
 have hs:=Zvc (n:=VK l+1) (fun c hc=>ZsP hq hc o_ aa) (Zig i hv.2) (fun y hy=>by have:=h3 y (Kag hy);omega) o_;unfold VSt Zp0;rw[hs,Kq,Zcp];constructor
 ·rintro ⟨g1,g2 | g2⟩
  ·exact⟨by rw[g2];simp;omega,g1⟩
  ·exact⟨g2,g1⟩
 ·rintro ⟨g1,g2⟩
  exact⟨g2,.inr g1⟩
def ZaQ (l:List Zb) (n:Int) (k:Zv) (p:Ze) (Zj:Int):Option (List Zb):=
 if VSt l∧0≤QD 0 l n∧1≤Zj∧Zj≤200 then
  match l[(QD 0 l n).toNat]? with
  | some x=>if Vk x k p∧VSt (Zp0 l (QD 0 l n).toNat x k p Zj) then some (Zp0 l (QD 0 l n).toNat x k p Zj) else none
  | none=>none
 else none
def Zwu:Option (List Zb)→AV×List Zm
 | some R=>(.tup [.own 0,(.d (.bool true))],[.row 4 (R.map Zb.enc) true false])
 | none=>(.tup [.own 0,(.d (.bool false))],[.row 4 [] true false])
theorem ZaR {l:List Zb} {n:Int} (h:0≤QD 0 l n):∃ (i:Nat) (x:Zb),QD 0 l n=(i:Int)∧l[i]?=some x:=by
 rcases ZsO l 0 n with h1 | ⟨i,h1,h2⟩
 ·omega
 ·obtain⟨x,hx⟩:=Zn h2;exact⟨i,x,by rw[h1];simp,hx⟩
def Zwv:Option (List Zb)→AV×List Zm
 | some R=>(.tup [.own 0,(.d (.bool true))],[.tree 4 4 (R.map Zb.enc) none])
 | none=>(.tup [.own 0,(.d (.bool false))],[.row 4 [] true false])
theorem ZtK (l:List Zb) (n:Int) (kW kH:Int) (kP:List Pane) (p:Ze) (Zj:Int):v_ 154 [(.d (.sl (l.map Zb.enc))),(.d (J n)),(.d (.agg [J kW,J kH,.sl (kP.map Pane.enc)])),.d p.enc,(.d (J Zj))] []=some (Zwv (ZaQ l n (Zv.mk kW kH kP) p Zj)):=by
 by_cases h:VSt l∧0≤QD 0 l n
 ·obtain⟨hv,hf⟩:=h;obtain⟨i,x,hi,hx⟩:=ZaR hf;have ah:=(Kc.1 hx).1;have hq:=ZW hv.2 x (Kb hx);have ai:=ZsQ hv o_;obtain⟨y,hy⟩:=Zn (l:=l) (k:=l.length-1) o_;have ad:=Zoi hy;have af:=hv.1;have aa:=ZE4 (k:=(Zv.mk kW kH kP)) (p:=p) (Zj:=Zj) hv hx;have et:=fun q1 q2 q3 q4 h=>Zg9 l n hv i hi q1 q2 q3 q4 h;unfold ZaQ;rw[hi];simp only[Kz,hx];obtain⟨L,W,H,F⟩:=x;have et:=et L W H F hx;have eg:=ZtD L W H F kW kH kP p;have aj:(l.eraseIdx i).length≤20:=Ky (Zoh _ _) af;have ab:l.length-1<l.length:=o_
  have w1:IntKind.i64.wrap ((l.length:Int)-1)=((l.length-1:Nat):Int):=by rw[W4 o_ o_];omega
  have w2:=wi (VK l+1) o_ o_;by_cases hg:Vk ⟨L,W,H,F⟩ (Zv.mk kW kH kP) p
  ·have hd:decide (VPc ⟨L,W,H,F⟩∧Vk ⟨L,W,H,F⟩ (Zv.mk kW kH kP) p)=true:=Ki ⟨hq,hg⟩;rw[hd] at eg;by_cases hl:1≤Zj∧Zj≤200
   ·have n1:¬Zj<1:=o_
    have n2:¬200<Zj:=o_
    have ag:=Zjr (Zv.mk kW kH kP) p Zj;by_cases hk:((Xj (Zv.mk kW kH kP) p Zj).length:Int)≤10000-(VK l+1)
    ·have er:=Zmy L W H F kW kH kP p Zj (VK l+1) hq hg.1 hg.2.1 hg.2.2.1 o_ o_ hk;have w3:=wi (((l.eraseIdx i).length:Int)+((Xj (Zv.mk kW kH kP) p Zj).length:Int)) o_ o_;have ae:=Zcp ⟨L,W,H,F⟩ (VK l+1) (Xj (Zv.mk kW kH kP) p Zj);by_cases h2:(l.eraseIdx i).length+(Xj (Zv.mk kW kH kP) p Zj).length≤20
     ·rw[Kg ⟨hv,o_,hl⟩,Kg ⟨hg,(aa hg).2 ⟨hk,h2⟩⟩];unfold Zp0 Zwv;have n3:¬(20:Int)<((l.eraseIdx i).length:Int)+((Xj (Zv.mk kW kH kP) p Zj).length:Int):=o_
      have hr:((l.eraseIdx i).length+(Xj (Zv.mk kW kH kP) p Zj).length)*48≤140737488355328∧(l.eraseIdx i).length+(Xj (Zv.mk kW kH kP) p Zj).length≤140737488355328:=o_
      clear aa hg hd;generalize UN ⟨L,W,H,F⟩ (VK l+1) (Xj (Zv.mk kW kH kP) p Zj)=R at er ae ⊢;generalize (Xj (Zv.mk kW kH kP) p Zj).length=N at *;obtain⟨yL,yW,yH,yF⟩:=y;simp only at ad;rw[ad] at er w2;obtain⟨o,a,m,t,ks⟩:=p;rw[Ze.enc_mk] at er eg ⊢;refine cE ?_;simp (maxSteps:=10^7) +contextual -implicitDefEqProofs only[go_sem,seval,YS,et,eg,n1,n2,w1,hy,ab,w2,er,ae,w3,n3,hr]
     ·rw[Kg ⟨hv,o_,hl⟩,Kd (fun h=>h2 ((aa hg).1 h.2).2)];unfold Zwv;have n3:(20:Int)<((l.eraseIdx i).length:Int)+((Xj (Zv.mk kW kH kP) p Zj).length:Int):=o_
      clear aa hg hd;generalize UN ⟨L,W,H,F⟩ (VK l+1) (Xj (Zv.mk kW kH kP) p Zj)=R at er ae ⊢;generalize (Xj (Zv.mk kW kH kP) p Zj).length=N at *;obtain⟨yL,yW,yH,yF⟩:=y;simp only at ad;rw[ad] at er w2;obtain⟨o,a,m,t,ks⟩:=p;rw[Ze.enc_mk] at er eg ⊢;refine cE ?_;simp (maxSteps:=10^7) +contextual -implicitDefEqProofs only[go_sem,seval,YS,et,eg,n1,n2,w1,hy,ab,w2,er,ae,w3,n3]
    ·have er:=Zn8 L W H F kW kH kP p Zj (VK l+1) o_ o_ hk;rw[Kg ⟨hv,o_,hl⟩,Kd (fun h=>hk ((aa hg).1 h.2).1)];unfold Zwv;clear aa hg hd hk ag;obtain⟨yL,yW,yH,yF⟩:=y;simp only at ad;rw[ad] at er w2;obtain⟨o,a,m,t,ks⟩:=p;rw[Ze.enc_mk] at er eg ⊢;refine cE ?_;simp (maxSteps:=10^7) +contextual -implicitDefEqProofs only[go_sem,seval,YS,et,eg,n1,n2,w1,hy,ab,w2,er]
   ·rw[Kd (fun h=>hl ⟨h.2.2.1,h.2.2.2⟩)];unfold Zwv;clear aa hg hd;obtain⟨o,a,m,t,ks⟩:=p;rw[Ze.enc_mk] at eg ⊢;by_cases n1:Zj<1
    ·refine cE ?_;simp (maxSteps:=10^7) +contextual -implicitDefEqProofs only[go_sem,seval,YS,et,eg,n1]
    ·have n2:200<Zj:=o_
     refine cE ?_;simp (maxSteps:=10^7) +contextual -implicitDefEqProofs only[go_sem,seval,YS,et,eg,n1,n2]
  ·have hd:decide (VPc ⟨L,W,H,F⟩∧Vk ⟨L,W,H,F⟩ (Zv.mk kW kH kP) p)=false:=Kk fun h=>hg h.2;rw[hd] at eg;have e0:(if VSt l∧(0:Int)≤(i:Int)∧1≤Zj∧Zj≤200 then (if Vk ⟨L,W,H,F⟩ (Zv.mk kW kH kP) p∧VSt (Zp0 l i ⟨L,W,H,F⟩ (Zv.mk kW kH kP) p Zj) then some (Zp0 l i ⟨L,W,H,F⟩ (Zv.mk kW kH kP) p Zj) else none) else none)=none:=by
    rw[Kd (fun h:Vk ⟨L,W,H,F⟩ (Zv.mk kW kH kP) p∧_=>hg h.1)];split<;>rfl
   rw[e0];unfold Zwv;clear aa hg hd e0;obtain⟨o,a,m,t,ks⟩:=p;rw[Ze.enc_mk] at eg ⊢;refine cE ?_;simp (maxSteps:=10^7) +contextual -implicitDefEqProofs only[go_sem,seval,YS,et,eg]
 ·have et:=Zif l n h;have e0:ZaQ l n (Zv.mk kW kH kP) p Zj=none:=by
   unfold ZaQ;rw[Kd (fun g=>h ⟨g.1,g.2.1⟩)]
  rw[e0];unfold Zwv;clear e0;obtain⟨o,a,m,t,ks⟩:=p;rw[Ze.enc_mk];refine cE ?_;simp (maxSteps:=10^7) +contextual -implicitDefEqProofs only[go_sem,seval,YS,et]
theorem Zz4 {l:List Zb} {i:Nat} {x:Zb} {k:Zv} {p:Ze} {Zj:Int} (hv:VSt l) (hx:l[i]?=some x) (hg:Vk x k p) :
  (Zp0 l i x k p Zj).length≤1000∧∀ y∈Zp0 l i x k p Zj,y.Flaws.length<4611686018427387904∧R64 y.W∧R64 y.H:=by
 have hq:=ZW hv.2 x (Kb hx);refine⟨?_,fun y hy=>?_⟩
 ·unfold Zp0;rw[Kq,Zcp];have:=Zjr k p Zj;have:=Zoh l i;have:=hv.1;omega
 ·rcases Kj.1 hy with hy | hy
  ·have h:=ZW hv.2 y (Kag hy);have h1:=h.1;exact⟨o_,⟨o_,o_⟩,⟨o_,o_⟩⟩
  ·obtain⟨j,hj⟩:=LG hy;obtain⟨b,hb,rfl⟩:=Zyn x _ _ j y hj;have aa:=(Zr0 (Zj:=Zj) hg.1 b (Kb hb)).1;simp only[VB] at aa;have ab:=Ks (YN b) x.Flaws;have ad:=hq.1.2.2.2.2.2.2;simp only[ZnT];exact⟨o_,⟨o_,o_⟩,⟨o_,o_⟩⟩
theorem ZtL (l:List Zb) (n:Int) (kW kH:Int) (kP:List Pane) (p:Ze) (Zj:Int) (hl:l.length≤1048576) (hS:∀ x∈l,x.Flaws.length≤1048576∧R64 x.W∧R64 x.H) (hk:kP.length<4611686018427387904):v_ 145 [(.d (.sl (l.map Zb.enc))),(.d (J n)),(.d (.agg [J kW,J kH,.sl (kP.map Pane.enc)])),.d p.enc,(.d (J Zj))] []=some (Zwu (ZaQ l n (Zv.mk kW kH kP) p Zj)):=by
 have ev:=YI l o_ (fun x hx=>by obtain⟨g1,g2,g3⟩:=hS x hx;exact⟨o_,g2,g3⟩);have ef:=XV l n o_;unfold ZaQ;by_cases hv:VSt l
 ·rw[Ki hv] at ev;by_cases hf:0≤QD 0 l n
  ·obtain⟨i,x,hi,hx⟩:=ZaR hf;rw[hi] at ef ⊢;have ad:¬(i:Int)<0:=o_
   have af:=(Kc.1 hx).1;simp only[Kz,hx];by_cases hr:1≤Zj∧Zj≤200
   ·have hq:=ZW hv.2 x (Kb hx);have al:=ZsQ hv o_;have ew:=Zgd l i o_ (fun x hx=>by have:=(hS x hx).1;omega);have el:=Zie l o_;have w2:=wi (VK l+1) o_ o_;rw[Kg ⟨hv,o_,hr⟩];by_cases hg:Vk x (Zv.mk kW kH kP) p
    ·have ag:=Zz4 (Zj:=Zj) hv hx hg;have aa:=YI (Zp0 l i x (Zv.mk kW kH kP) p Zj) o_ ag.2;have aj:(l.eraseIdx i).length≤20:=Ky (Zoh _ _) hv.1;have am:=Zjr (Zv.mk kW kH kP) p Zj;obtain⟨L,W,H,F⟩:=x;have eg:=Zj9 L W H F kW kH kP p (fun f hf=>(hq.2 f hf).1) hq.1.2.2.2.2.2.2 hk;have er:=ZtF L W H F kW kH kP p Zj (VK l+1) hq hg.1 o_ o_;rw[Ki hg] at eg;have ae:=Zcp ⟨L,W,H,F⟩ (VK l+1) (Xj (Zv.mk kW kH kP) p Zj);have ai:((l.eraseIdx i).length+(Xj (Zv.mk kW kH kP) p Zj).length)*48≤140737488355328∧(l.eraseIdx i).length+(Xj (Zv.mk kW kH kP) p Zj).length≤140737488355328:=o_
     unfold Zp0 at aa ⊢;have ah:=hg;clear hg;by_cases ab:VSt (l.eraseIdx i++UN ⟨L,W,H,F⟩ (VK l+1) (Xj (Zv.mk kW kH kP) p Zj))
     ·rw[Ki ab] at aa;rw[Kg ⟨ah,ab⟩];unfold Zwu;clear ab ag ah;generalize UN ⟨L,W,H,F⟩ (VK l+1) (Xj (Zv.mk kW kH kP) p Zj)=R at er ae aa ⊢;generalize (Xj (Zv.mk kW kH kP) p Zj).length=N at *;obtain⟨o,a,m,t,ks⟩:=p;rw[Ze.enc_mk] at er eg ⊢;refine cE ?_;simp (maxSteps:=10^7) +contextual -implicitDefEqProofs only[go_sem,seval,VE,ev,ef,ad,Zu,hr,hx,af,eg,ew,el,w2,er,ae,ai,aa]
     ·rw[Kk ab] at aa;rw[Kd (fun h=>ab h.2)];unfold Zwu;clear ab ag ah;generalize UN ⟨L,W,H,F⟩ (VK l+1) (Xj (Zv.mk kW kH kP) p Zj)=R at er ae aa ⊢;generalize (Xj (Zv.mk kW kH kP) p Zj).length=N at *;obtain⟨o,a,m,t,ks⟩:=p;rw[Ze.enc_mk] at er eg ⊢;refine cE ?_;simp (maxSteps:=10^7) +contextual -implicitDefEqProofs only[go_sem,seval,VE,ev,ef,ad,Zu,hr,hx,af,eg,ew,el,w2,er,ae,ai,aa]
    ·rw[Kd (fun h=>hg h.1)];obtain⟨L,W,H,F⟩:=x;have eg:=Zj9 L W H F kW kH kP p (fun f hf=>(hq.2 f hf).1) hq.1.2.2.2.2.2.2 hk;rw[Kk hg] at eg;unfold Zwu;clear hg;obtain⟨o,a,m,t,ks⟩:=p;rw[Ze.enc_mk] at eg ⊢;refine cE ?_;simp (maxSteps:=10^7) +contextual -implicitDefEqProofs only[go_sem,seval,VE,ev,ef,ad,Zu,hr,hx,af,eg]
   ·rw[Kd (fun h=>hr h.2.2)];unfold Zwu;obtain⟨o,a,m,t,ks⟩:=p;rw[Ze.enc_mk];refine cE ?_;simp (maxSteps:=10^7) +contextual -implicitDefEqProofs only[go_sem,seval,VE,ev,ef,ad,Zu,hr]
  ·rw[Kd (fun h=>hf h.2.1)];have ak : QD 0 l n<0:=o_
   unfold Zwu;obtain⟨o,a,m,t,ks⟩:=p;rw[Ze.enc_mk];refine cE ?_;simp (maxSteps:=10^7) +contextual -implicitDefEqProofs only[go_sem,seval,VE,ev,ef,ak]
 ·rw[Kk hv] at ev;rw[Kd (fun h=>hv h.1)];unfold Zwu;obtain⟨o,a,m,t,ks⟩:=p;rw[Ze.enc_mk];refine cE ?_;simp (maxSteps:=10^7) +contextual -implicitDefEqProofs only[go_sem,seval,VE,ev]
theorem ZsR (l:List Zb) (hv:VSt l):v_ 77 [(.d (.sl (l.map Zb.enc)))] []=some ((.d (J (Y5 l))),[]):=by
 have ev:=YH l;rw[Ki hv] at ev;have af:=hv.1;have aa:∀ x∈l,1≤x.W∧x.W≤200∧1≤x.H∧x.H≤200:=fun x hx=>by
  have:=(ZW hv.2 x hx).1;omega
 clear hv;refine cE ?_;simp (maxSteps:=10^7) +contextual -implicitDefEqProofs only[go_sem,seval,Zki,ev];refine LO (α:=Nat) (fun i=>[(11,.d (J (i:Int))),(3,.d (J (Y5 (l.take i))))]) (fun _=>[]) (fun i=>i≤l.length) (fun i=>l.length-i) 0 o_ ?_;intro i hi ih;by_cases ab:i<l.length
 ·obtain⟨x,hx⟩:=Zn ab;have hw:=Zg (k:=i) o_;have hm:=ZsM hx;have ag:=ZbG (l:=l.take i) (fun y hy=>aa y (Lh hy));have ah:(l.take i).length≤i:=by simp;omega
  have g5:=aa x (Kb hx);have ad:x.W*x.H≤200*200:=Kau o_ o_ o_ o_;have ae:0≤x.W*x.H:=Kat o_ o_;obtain⟨xL,xW,xH,xF⟩:=x;simp only at g5 hm ad ae;have u0:=wi (xW*xH) o_ o_;have u1:=wi (Y5 (l.take i)+xW*xH) o_ o_;simp +contextual -implicitDefEqProofs only[go_sem,seval,hx,ab,hw,u0,u1];refine ih (i+1) _ o_ o_ ?_;simp +contextual -implicitDefEqProofs only[go_sem,seval,hm]
 ·have:i=l.length:=o_
  subst this;simp +contextual -implicitDefEqProofs only[go_sem,seval,KI]
end Go.Proofs.YtfnegoimdljanaaGreatDoor
namespace Go.Proofs.YtfnegoimdljanaaGreatDoor
open Go Go.Abs Go.Abs.E Go.Abs.L
set_option maxRecDepth 20000
set_option maxHeartbeats 4000000
def Zk7:List Pane→List Zc→Prop
 | _,[]=>True
 | q,x :: l=>VP x.Pane∧x.Pane∉q∧1≤x.Count∧x.Count≤24∧Zk7 (q++[x.Pane]) l
instance ordGdec:∀ (q:List Pane) (l:List Zc),Decidable (Zk7 q l)
 | _,[]=>.isTrue trivial
 | q,x :: l=>by
  unfold Zk7;have:=ordGdec (q++[x.Pane]) l
  infer_instance
def Qr:List Zc→Int
 | []=>0
 | x :: l=>x.Count+Qr l
def Jz (l:List Zc):Prop:=l.length≤8∧Zk7 [] l∧Qr l≤24
instance (l:List Zc):Decidable (Jz l):=by unfold Jz;infer_instance
theorem Zvd {l:List Zc} {k:Nat} {x:Zc} {q:List Pane} (hx:l[k]?=some x):Zk7 q (l.drop k)↔VP x.Pane∧x.Pane∉q∧1≤x.Count∧x.Count≤24∧Zk7 (q++[x.Pane]) (l.drop (k+1)):=by
 obtain⟨h1,h2⟩:=Kc.1 hx;rw[Ku h1,h2,Zk7]
theorem Zyo {l:List Zc} {q:List Pane}:Zk7 q (l.drop l.length):=by simp[Zk7]
theorem Zan {l:List Zc} {k:Nat} {x:Zc} (hx:l[k]?=some x):(l.take (k+1)).map Zc.Pane=(l.take k).map Zc.Pane++[x.Pane]:=by
 rw[KB,hx];simp
theorem Zpc (a b:List Zc):Qr (a++b)=Qr a+Qr b:=by
 induction a with
 | nil=>simp[Qr]
 | cons c l ih=>simp only[KF,Qr,ih];omega
theorem Zve {l:List Zc} {i:Nat} {x:Zc} (hx:l[i]?=some x):Qr (l.take (i+1))=Qr (l.take i)+x.Count:=by
 rw[KB,hx,Zpc];simp[Qr]
theorem ZsS:∀ {l:List Zc} {q:List Pane},Zk7 q l→∀ x∈l,VP x.Pane∧1≤x.Count∧x.Count≤24
 | [],_,_,x,hx=>by simp at hx
 | y :: l,q,h,x,hx=>by
  rcases Ke.1 hx with rfl | hx
  ·exact⟨h.1,h.2.2.1,h.2.2.2.1⟩
  ·exact ZsS h.2.2.2.2 x hx
theorem Zyp:∀ {l:List Zc},(∀ x∈l,1≤x.Count)→0≤Qr l
 | [],_=>by simp[Qr]
 | x :: l,h=>by
  have h1:=h x (by simp);have h2:=Zyp (l:=l) fun y hy=>h y (by simp[hy]);simp only[Qr];omega
theorem Zyq {l:List Zc} {i:Nat} (h:∀ x∈l,1≤x.Count):Qr (l.take i)≤Qr l:=by
 have e:Qr l=Qr (l.take i)+Qr (l.drop i):=by rw[← Zpc,Lt]
 have:=Zyp (l:=l.drop i) fun y hy=>h y (Kab hy);omega
def Vm:Nat→List Zc→Pane→Int
 | _,[],_=>-1
 | k,x :: l,p=>if x.Pane=p then (k:Int) else Vm (k+1) l p
theorem Zz5 {l:List Zc} {k:Nat} {x:Zc} {p:Pane} (hx:l[k]?=some x):Vm k (l.drop k) p=if x.Pane=p then (k:Int) else Vm (k+1) (l.drop (k+1)) p:=by
 obtain⟨h1,h2⟩:=Kc.1 hx;rw[Ku h1,h2,Vm]
theorem Zyr:∀ (l:List Zc) (k i:Nat) (x:Zc),l[i]?=some x→(Vm k l x.Pane=((k+i:Nat):Int)↔x.Pane∉(l.take i).map Zc.Pane)
 | [],k,i,x,h=>by simp at h
 | y :: l,k,0,x,h=>by
  simp only[KX,Option.some.injEq] at h;subst h;simp[Vm]
 | y :: l,k,i+1,x,h=>by
  simp only[KY] at h;have ih:=Zyr l (k+1) i x h;simp only[Vm,L0,Kh,Ke,not_or];split
  ·rename_i e;constructor
   ·intro h;omega
   ·intro h;exact absurd e.symm h.1
  ·rename_i e;rw[show k+1+i=k+(i+1) by omega] at ih;rw[ih];exact⟨fun h=>⟨fun e'=>e e'.symm,h⟩,fun h=>h.2⟩
def J0:List Zc→Int
 | []=>0
 | x :: l=>x.Count*x.Pane.W*x.Pane.H+J0 l
theorem Zys (a b:List Zc):J0 (a++b)=J0 a+J0 b:=by
 induction a with
 | nil=>simp[J0]
 | cons c l ih=>simp only[KF,J0,ih];omega
theorem Zvf {l:List Zc} {i:Nat} {x:Zc} (hx:l[i]?=some x):J0 (l.take (i+1))=J0 (l.take i)+x.Count*x.Pane.W*x.Pane.H:=by
 rw[KB,hx,Zys];simp[J0]
theorem ZbX {x:Zc} (h:VP x.Pane∧1≤x.Count∧x.Count≤24):0≤x.Count*x.Pane.W∧x.Count*x.Pane.W≤4800∧0≤x.Count*x.Pane.W*x.Pane.H∧x.Count*x.Pane.W*x.Pane.H≤960000:=by
 obtain⟨h1,h2,h3⟩:=h;simp only[VP] at h1;have a1:0≤x.Count*x.Pane.W:=Kat o_ o_;have a2:x.Count*x.Pane.W≤24*200:=Kau o_ o_ o_ o_;have a3:0≤x.Count*x.Pane.W*x.Pane.H:=Kat o_ o_;have a4:x.Count*x.Pane.W*x.Pane.H≤4800*200:=Kau o_ o_ o_ o_;omega
theorem Zge:∀ {l:List Zc},(∀ x∈l,VP x.Pane∧1≤x.Count∧x.Count≤24)→0≤J0 l∧J0 l≤960000*l.length
 | [],_=>by simp[J0]
 | x :: l,h=>by
  have h1:=ZbX (h x (by simp));have h2:=Zge (l:=l) fun y hy=>h y (by simp[hy]);simp only[J0,Kl];omega
theorem Z5 {l:List Zc} (h:Jz l):∀ x∈l,VP x.Pane∧1≤x.Count∧x.Count≤24:=ZsS h.2.1
theorem ZsT {l:List Zc} (h:Jz l):0≤J0 l∧J0 l≤7680000:=by
 have h1:=Zge (Z5 h);have:=h.1;omega
structure Zl where
 kind:Int
 label:Int
 box:Box
 line:Zc
 plan:Ze
def Zl.enc (e:Zl):D:=.agg ([J e.kind,J e.label,J e.box.X,J e.box.Y,J e.box.W,J e.box.H,J e.line.Pane.W,J e.line.Pane.H,.bool e.line.Pane.Turns,J e.line.Pane.Kind,J e.line.Count]++e.plan.enc.cells)
@[go_sem] theorem Zl.enc_mk (k l x y w h pw ph pk c o a p:Int) (pt t:Bool) (ks:List Ze):Zl.enc (Zl.mk k l (Box.mk x y w h) (Zc.mk (Pane.mk pw ph pt pk) c) (Ze.mk o a p t ks)) =
  .agg [J k,J l,J x,J y,J w,J h,J pw,J ph,.bool pt,J pk,J c,J o,J a,J p,.bool t,.sl (ks.map Ze.enc)]:=by
 simp only[Zl.enc,Ze.enc_mk];rfl
theorem Zl.enc_len (e:Zl):(Zl.enc e).cells.length=16:=by
 show (_++e.plan.enc.cells).length=16;rw[Kq,Ze.enc_len];rfl
@[go_sem] theorem uni_Event (l:List Zl):uni 16 (l.map Zl.enc)=True:=eq_true (Zas l Zl.enc_len)
def ZI (s:Zo):Prop:=VSt s.Stock∧Jz s.Opn∧Jz s.Done∧0≤s.Lost∧s.Lost≤900000∧0≤s.Came∧s.Came≤900000∧Y5 s.Stock+J0 s.Done+s.Lost=s.Came
instance (s:Zo):Decidable (ZI s):=by unfold ZI;infer_instance
def QF (p:Zb):List Zb→List Zb
 | []=>[p]
 | x :: l=>if p.Label<x.Label then p :: x :: l else x :: QF p l
theorem ZsU {l:List Zb} {k:Nat} {x p:Zb} (hx:l[k]?=some x):QF p (l.drop k)=if p.Label<x.Label then p :: l.drop k else x :: QF p (l.drop (k+1)):=by
 obtain⟨h1,h2⟩:=Kc.1 hx;rw[Ku h1,h2,QF]
theorem Zok (p:Zb):∀ (l:List Zb),(QF p l).length=l.length+1
 | []=>rfl
 | x :: l=>by
  unfold QF;split
  ·simp
  ·simp[Zok p l]
theorem Zvg (p:Zb):∀ (l:List Zb) (y:Zb),y∈QF p l→y=p∨y∈l
 | [],y,h=>by simpa [QF] using h
 | x :: l,y,h=>by
  unfold QF at h;split at h
  ·simpa using h
  ·rcases Ke.1 h with rfl | h
   ·exact .inr (by simp)
   ·rcases Zvg p l y h with h | h
    ·exact .inl h
    ·exact .inr (by simp[h])
def Zih (p:Pane) (c:Int) (x:Zc):Option Zc:=
 if x.Pane=p then (if 0<x.Count-c then some ⟨x.Pane,x.Count-c⟩ else none) else (if 0<x.Count then some x else none)
def XW (l:List Zc) (p:Pane) (c:Int):List Zc:=l.filterMap (Zih p c)
def Xr (p:Pane) (c:Int):Bool→List Zc→Bool
 | b,[]=>b
 | b,x :: l=>Xr p c (if x.Pane=p then decide (0≤x.Count-c) else b) l
theorem Zyt {l:List Zc} {k:Nat} {x:Zc} {p:Pane} {c:Int} {b:Bool} (hx:l[k]?=some x):Xr p c b (l.drop k)=Xr p c (if x.Pane=p then decide (0≤x.Count-c) else b) (l.drop (k+1)):=by
 obtain⟨h1,h2⟩:=Kc.1 hx;rw[Ku h1,h2,Xr]
theorem Zz6 {l:List Zc} {p:Pane} {c:Int} {b:Bool}:Xr p c b (l.drop l.length)=b:=by simp[Xr]
theorem Zz7 {l:List Zc} {i:Nat} {x:Zc} (p:Pane) (c:Int) (hx:l[i]?=some x):XW (l.take (i+1)) p c=XW (l.take i) p c++(Zih p c x).toList:=by
 unfold XW;rw[KB,hx,LP];simp only[LS,Ls,List.filterMap_nil];cases Zih p c x<;>rfl
def Yz (p:Pane) (c:Int):List Zc→List Zc
 | []=>[⟨p,c⟩]
 | x :: l=>if x.Pane=p then ⟨x.Pane,x.Count+c⟩ :: l else x :: Yz p c l
theorem ZcI (p:Pane) (c:Int):∀ (l:List Zc),(Yz p c l).length≤l.length+1
 | []=>by simp[Yz]
 | x :: l=>by
  unfold Yz;split
  ·simp
  ·have:=ZcI p c l;simp;omega
theorem Zww (p:Pane) (c:Int):∀ (l:List Zc) (i:Nat) (x:Zc),l[i]?=some x→x.Pane=p→p∉(l.take i).map Zc.Pane→Yz p c l=l.set i ⟨x.Pane,x.Count+c⟩
 | [],i,x,h,_,_=>by simp at h
 | y :: l,0,x,h,e,_=>by
  simp only[KX,Option.some.injEq] at h;subst h;simp[Yz,e]
 | y :: l,i+1,x,h,e,hn=>by
  simp only[KY] at h;simp only[L0,Kh,Ke,not_or] at hn;have ih:=Zww p c l i x h e hn.2;simp only[Yz,Kd (fun e' : y.Pane=p=>hn.1 e'.symm),Kak,ih]
theorem Zwx (p:Pane) (c:Int):∀ (l:List Zc),p∉l.map Zc.Pane→Yz p c l=l++[⟨p,c⟩]
 | [],_=>rfl
 | y :: l,hn=>by
  simp only[Kh,Ke,not_or] at hn;simp only[Yz,Kd (fun e' : y.Pane=p=>hn.1 e'.symm),Zwx p c l hn.2,KF]
theorem Zp1 (qW qH:Int) (qT:Bool) (qK qC:Int) (pW pH:Int) (pT:Bool) (pK:Int):v_ 179 [(.d (.agg [J qW,J qH,.bool qT,J qK,J qC])),.ptr 0 0] [.box [(.d (J pW)),(.d (J pH)),(.d (.bool pT)),(.d (J pK))]]=some ((.d (.bool (decide ((Pane.mk qW qH qT qK)=(Pane.mk pW pH pT pK))))),[.box [(.d (J pW)),(.d (J pH)),(.d (.bool pT)),(.d (J pK))]]):=by
 refine cE ?_;simp (maxSteps:=10^7) +contextual -implicitDefEqProofs only[go_sem,seval,ZiL];try exact Zb3 (by simp only[Pane.mk.injEq,and_assoc])
theorem ZtM (l:List Zc) (pW pH:Int) (pT:Bool) (pK:Int) (hl:l.length<4611686018427387904):v_ 178 [(.d (.sl (l.map Zc.enc))),.clo 179 [.ptr 0 0]] [.box [(.d (J pW)),(.d (J pH)),(.d (.bool pT)),(.d (J pK))]]=some ((.d (J (Vm 0 l (Pane.mk pW pH pT pK)))),[.box [(.d (J pW)),(.d (J pH)),(.d (.bool pT)),(.d (J pK))]]):=by
 refine cE ?_;simp (maxSteps:=10^7) +contextual -implicitDefEqProofs only[go_sem,seval,J4];refine LO (α:=Nat) (fun k=>[(8,.d (J (k:Int)))]) (fun _=>[]) (fun k=>k≤l.length∧Vm k (l.drop k) (Pane.mk pW pH pT pK)=Vm 0 l (Pane.mk pW pH pT pK)) (fun k=>l.length-k) 0 ⟨o_,rfl⟩ ?_;intro k ⟨hk,hp⟩ ih;by_cases aa:k<l.length
 ·obtain⟨x,hx⟩:=Zn aa;rw[Zz5 hx] at hp;have hw:=Zg (k:=k) o_;have e1:=Zp1 x.Pane.W x.Pane.H x.Pane.Turns x.Pane.Kind x.Count pW pH pT pK;obtain⟨⟨W,H,T,K⟩,C⟩:=x;simp only at hp e1;by_cases h:(⟨W,H,T,K⟩:Pane)=(Pane.mk pW pH pT pK)
  ·rw[Kg h] at hp;rw[Ki h] at e1;simp +contextual -implicitDefEqProofs only[go_sem,seval,hx,aa,hw,e1];rw[← hp]
  ·rw[Kd h] at hp;rw[Kk h] at e1;simp +contextual -implicitDefEqProofs only[go_sem,seval,hx,aa,hw,e1];refine ih (k+1) _ ⟨o_,hp⟩ o_ ?_;simp +contextual -implicitDefEqProofs only[go_sem,seval]
 ·have:k=l.length:=o_
  subst this;simp +contextual -implicitDefEqProofs only[go_sem,seval];rw[← hp];simp[Vm]
theorem Zd6 (l:List Zc) (pW pH:Int) (pT:Bool) (pK:Int) (hl:l.length<4611686018427387904):v_ 123 [(.d (.sl (l.map Zc.enc))),(.d (.agg [J pW,J pH,.bool pT,J pK]))] []=some ((.d (J (Vm 0 l (Pane.mk pW pH pT pK)))),[]):=by
 refine cE ?_;simp (maxSteps:=10^7) +contextual -implicitDefEqProofs only[go_sem,seval,Zm3,ZtM l pW pH pT pK hl]
theorem UB (l:List Zc):v_ 76 [(.d (.sl (l.map Zc.enc)))] []=some ((.d (.bool (decide (Jz l)))),[]):=by
 by_cases h8:(8:Int)<(l.length:Int)
 ·have hn:¬Jz l:=fun h=>by have:=h.1;omega
  refine cE ?_;simp (maxSteps:=10^7) +contextual -implicitDefEqProofs only[go_sem,seval,Zc6,h8,hn]
 ·have ah:l.length≤8:=o_
  refine cE ?_;simp (maxSteps:=10^7) +contextual -implicitDefEqProofs only[go_sem,seval,Zc6,h8];refine LO (α:=Nat) (fun i=>[(11,.d (J (i:Int))),(3,.d (J (24-Qr (l.take i))))]) (fun _=>[]) (fun i=>i≤l.length∧(Zk7 [] l↔Zk7 ((l.take i).map Zc.Pane) (l.drop i))∧0≤Qr (l.take i)∧Qr (l.take i)≤24) (fun i=>l.length-i) 0 ⟨by simp,by simp,by simp[Qr],by simp[Qr]⟩ ?_;intro i ⟨hi,hp,aj,ae⟩ ih;by_cases aa:i<l.length
  ·obtain⟨x,hx⟩:=Zn aa;have hw:=Zg (k:=i) o_;rw[Zvd hx,← Zan hx] at hp;have ev:=Jr x.Pane.W x.Pane.H x.Pane.Turns x.Pane.Kind;have ef:=Zd6 l x.Pane.W x.Pane.H x.Pane.Turns x.Pane.Kind o_;have ab:=Zyr l 0 i x hx;have af:=Zve hx;obtain⟨⟨W,H,T,K⟩,C⟩:=x;simp only[K0] at hp ev ef ab af;by_cases hv:VP ⟨W,H,T,K⟩
   ·rw[Ki hv] at ev;by_cases hf:Vm 0 l ⟨W,H,T,K⟩=(i:Int)
    ·rw[hf] at ef;by_cases ad:C<1
     ·have hn:¬Jz l:=fun h=>by have:=(hp.1 h.2.1).2.2.1;omega
      simp +contextual -implicitDefEqProofs only[go_sem,seval,hx,aa,hw,ev,ef,ad,hn]
     ·by_cases ag:24-Qr (l.take i)<C
      ·have hn:¬Jz l:=fun h=>by
        have:=Zyq (l:=l) (i:=i+1) (fun x hx=>(ZsS h.2.1 x hx).2.1);have:=h.2.2;omega
       simp +contextual -implicitDefEqProofs only[go_sem,seval,hx,aa,hw,ev,ef,ad,ag,hn]
      ·have ai:=wi (24-Qr (l.take i)-C) o_ o_;simp +contextual -implicitDefEqProofs only[go_sem,seval,hx,aa,hw,ev,ef,ad,ag,ai];refine ih (i+1) _ ⟨o_,?_,o_,o_⟩ o_ ?_
       ·rw[hp];exact⟨fun h=>h.2.2.2.2,fun h=>⟨hv,ab.1 hf,o_,o_,h⟩⟩
       ·simp +contextual -implicitDefEqProofs only[go_sem,seval,af];try (simp;omega)
    ·have hn:¬Jz l:=fun h=>hf (ab.2 (hp.1 h.2.1).2.1);simp +contextual -implicitDefEqProofs only[go_sem,seval,hx,aa,hw,ev,ef,hf,hn]
   ·rw[Kk hv] at ev;have hn:¬Jz l:=fun h=>hv (hp.1 h.2.1).1;simp +contextual -implicitDefEqProofs only[go_sem,seval,hx,aa,hw,ev,hn]
  ·have:i=l.length:=o_
   subst this;rw[KH (Kr _)] at ae;have hy:Jz l:=⟨ah,hp.2 Zyo,ae⟩
   simp +contextual -implicitDefEqProofs only[go_sem,seval,hy]
theorem ZsV (l:List Zc) (hv:Jz l):v_ 78 [(.d (.sl (l.map Zc.enc)))] []=some ((.d (J (J0 l))),[]):=by
 have ev:=UB l;rw[Ki hv] at ev;have h8:=hv.1;have aa:=Z5 hv;clear hv;refine cE ?_;simp (maxSteps:=10^7) +contextual -implicitDefEqProofs only[go_sem,seval,Zkm,ev];refine LO (α:=Nat) (fun i=>[(11,.d (J (i:Int))),(3,.d (J (J0 (l.take i))))]) (fun _=>[]) (fun i=>i≤l.length) (fun i=>l.length-i) 0 o_ ?_;intro i hi ih;by_cases ab:i<l.length
 ·obtain⟨x,hx⟩:=Zn ab;have hw:=Zg (k:=i) o_;have hm:=Zvf hx;have ad:=Zge (l:=l.take i) (fun y hy=>aa y (Lh hy));have ae:(l.take i).length≤i:=by simp;omega
  have g5:=ZbX (aa x (Kb hx));obtain⟨⟨W,H,T,K⟩,C⟩:=x;simp only at g5 hm;have u0:=wi (C*W) o_ o_;have u1:=wi (C*W*H) o_ o_;have u2:=wi (J0 (l.take i)+C*W*H) o_ o_;simp +contextual -implicitDefEqProofs only[go_sem,seval,hx,ab,hw,u0,u1,u2];refine ih (i+1) _ o_ o_ ?_;simp +contextual -implicitDefEqProofs only[go_sem,seval,hm]
 ·have:i=l.length:=o_
  subst this;simp +contextual -implicitDefEqProofs only[go_sem,seval];simp
theorem Zha (l:List Zc) (hl:l.length≤1048576):v_ 93 [(.d (.sl (l.map Zc.enc)))] []=some ((.d (.bool (decide (Jz l)))),[]):=by
 refine cE ?_;simp (maxSteps:=10^7) +contextual -implicitDefEqProofs only[go_sem,seval,ZiJ];refine LO (α:=Nat) (fun i=>[(4,.d (J (i:Int))),(3,.d (J (Qr (l.take i))))]) (fun _=>[]) (fun i=>i≤l.length∧(Zk7 [] l↔Zk7 ((l.take i).map Zc.Pane) (l.drop i))∧0≤Qr (l.take i)∧Qr (l.take i)≤24*i) (fun i=>l.length-i) 0 ⟨by simp,by simp,by simp[Qr],by simp[Qr]⟩ ?_;intro i ⟨hi,hp,al,am⟩ ih;by_cases aa:i<l.length
 ·obtain⟨x,hx⟩:=Zn aa;have hw:=Zg (k:=i) o_;rw[Zvd hx,← Zan hx] at hp;have ev:=Vb x.Pane.W x.Pane.H x.Pane.Turns x.Pane.Kind;have ae:=Zve hx;obtain⟨⟨W,H,T,K⟩,C⟩:=x;simp only at hp ev ae;by_cases hv:VP ⟨W,H,T,K⟩
  ·rw[Ki hv] at ev;by_cases hC:1≤C∧C≤24
   ·have er:=Zu C 1 24;rw[Ki hC] at er;simp +contextual -implicitDefEqProofs only[go_sem,seval,hx,aa,hw,ev,er];refine X1 Xs Ms (st0:=?st1) (α:=Nat) (fun k=>[(5,.d (J (k:Int)))]) (fun _=>[]) (fun k=>k≤i∧(⟨W,H,T,K⟩:Pane)∉(l.take k).map Zc.Pane) (fun k=>i-k) 0 ?hc2 ⟨o_,by simp⟩ ?h02 ?step2
    case hc2=>simp +contextual -implicitDefEqProofs only[go_sem,seval]<;>exact rfl
    case h02=>rfl
    case step2=>
     intro k ⟨hk,hq⟩ ai;by_cases ab:k<i
     ·obtain⟨y,hy⟩:=Zn (l:=l) (k:=k) o_;have af:k<l.length:=o_
      have ag:=Zg (k:=k) o_;have ah:=Zan hy;obtain⟨⟨W',H',T',K'⟩,C'⟩:=y;simp only at ah;by_cases he:(⟨W',H',T',K'⟩:Pane)=⟨W,H,T,K⟩
      ·have ad:(⟨W,H,T,K⟩:Pane)∈(l.take i).map Zc.Pane:=by
        rw[← he];have h3:(l.take i)[k]?=some ⟨⟨W',H',T',K'⟩,C'⟩:=by rw[List.getElem?_take_of_lt ab];exact hy
        exact Ll.2 ⟨_,Kb h3,rfl⟩
       have hn:¬Jz l:=fun h=>(hp.1 h.2.1).2.1 ad;simp only[Pane.mk.injEq] at he;simp +contextual -implicitDefEqProofs only[go_sem,seval,hx,aa,hw,hy,ab,af,ag,he,hn]
      ·have aj:=he;simp only[Pane.mk.injEq] at he;simp +contextual -implicitDefEqProofs only[go_sem,seval,hx,aa,hw,hy,ab,af,ag,he];refine ai (k+1) _ ⟨o_,?_⟩ o_ ?_
       ·rw[ah,Kj];intro h;rcases h with h | h
        ·exact hq h
        ·exact aj (KD.1 h).symm
       ·simp +contextual -implicitDefEqProofs only[go_sem,seval]
     ·have:k=i:=o_
      subst this;have ak:=wi (Qr (l.take k)+C) o_ o_;simp +contextual -implicitDefEqProofs only[go_sem,seval,hx,aa,hw,ab,ak];refine ih (k+1) _ ⟨o_,?_,o_,o_⟩ o_ ?_
      ·rw[hp];exact⟨fun h=>h.2.2.2.2,fun h=>⟨hv,hq,hC.1,hC.2,h⟩⟩
      ·simp +contextual -implicitDefEqProofs only[go_sem,seval,ae]
   ·have er:=Zu C 1 24;rw[Kk hC] at er;have hn:¬Jz l:=fun h=>hC ⟨(hp.1 h.2.1).2.2.1,(hp.1 h.2.1).2.2.2.1⟩;simp +contextual -implicitDefEqProofs only[go_sem,seval,hx,aa,hw,ev,er,hn]
  ·rw[Kk hv] at ev;have hn:¬Jz l:=fun h=>hv (hp.1 h.2.1).1;simp +contextual -implicitDefEqProofs only[go_sem,seval,hx,aa,hw,ev,hn]
 ·have:i=l.length:=o_
  subst this;have hs:=hp.2 Zyo;rw[KH (Kr _)];simp +contextual -implicitDefEqProofs only[go_sem,seval];exact Zb3 (by simp only[Jz];constructor<;>(intro h;first | exact⟨o_,hs,o_⟩ | (have:=h.1;have:=h.2.2;omega)))
theorem Zyu {l:List Zb} (hv:VSt l):∀ x∈l,1≤x.W∧x.W≤200∧1≤x.H∧x.H≤200:=fun x hx=>by
 have:=(ZW hv.2 x hx).1;omega
theorem Zpd {l:List Zb} (hv:VSt l):0≤Y5 l∧Y5 l≤800000:=by
 have h1:=ZbG (Zyu hv);have:=hv.1;omega
theorem ZsW (l:List Zb) (hv:VSt l):v_ 134 [(.d (.sl (l.map Zb.enc)))] []=some ((.d (J (Y5 l))),[]):=by
 have af:=hv.1;have aa:=Zyu hv;clear hv;refine cE ?_;simp (maxSteps:=10^7) +contextual -implicitDefEqProofs only[go_sem,seval,Zkp];refine LO (α:=Nat) (fun i=>[(4,.d (J (i:Int))),(3,.d (J (Y5 (l.take i))))]) (fun _=>[]) (fun i=>i≤l.length) (fun i=>l.length-i) 0 o_ ?_;intro i hi ih;by_cases ab:i<l.length
 ·obtain⟨x,hx⟩:=Zn ab;have hw:=Zg (k:=i) o_;have hm:=ZsM hx;have ag:=ZbG (l:=l.take i) (fun y hy=>aa y (Lh hy));have ah:(l.take i).length≤i:=by simp;omega
  have g5:=aa x (Kb hx);have ad:x.W*x.H≤200*200:=Kau o_ o_ o_ o_;have ae:0≤x.W*x.H:=Kat o_ o_;obtain⟨xL,xW,xH,xF⟩:=x;simp only at g5 hm ad ae;have u0:=wi (xW*xH) o_ o_;have u1:=wi (Y5 (l.take i)+xW*xH) o_ o_;simp +contextual -implicitDefEqProofs only[go_sem,seval,hx,ab,hw,u0,u1];refine ih (i+1) _ o_ o_ ?_;simp +contextual -implicitDefEqProofs only[go_sem,seval,hm]
 ·have:i=l.length:=o_
  subst this;simp +contextual -implicitDefEqProofs only[go_sem,seval];simp
theorem ZsX (l:List Zc) (hv:Jz l):v_ 135 [(.d (.sl (l.map Zc.enc)))] []=some ((.d (J (J0 l))),[]):=by
 have h8:=hv.1;have aa:=Z5 hv;clear hv;refine cE ?_;simp (maxSteps:=10^7) +contextual -implicitDefEqProofs only[go_sem,seval,Zks];refine LO (α:=Nat) (fun i=>[(4,.d (J (i:Int))),(3,.d (J (J0 (l.take i))))]) (fun _=>[]) (fun i=>i≤l.length) (fun i=>l.length-i) 0 o_ ?_;intro i hi ih;by_cases ab:i<l.length
 ·obtain⟨x,hx⟩:=Zn ab;have hw:=Zg (k:=i) o_;have hm:=Zvf hx;have ad:=Zge (l:=l.take i) (fun y hy=>aa y (Lh hy));have ae:(l.take i).length≤i:=by simp;omega
  have g5:=ZbX (aa x (Kb hx));obtain⟨⟨W,H,T,K⟩,C⟩:=x;simp only at g5 hm;have u0:=wi (C*W) o_ o_;have u1:=wi (C*W*H) o_ o_;have u2:=wi (J0 (l.take i)+C*W*H) o_ o_;simp +contextual -implicitDefEqProofs only[go_sem,seval,hx,ab,hw,u0,u1,u2];refine ih (i+1) _ o_ o_ ?_;simp +contextual -implicitDefEqProofs only[go_sem,seval,hm]
 ·have:i=l.length:=o_
  subst this;simp +contextual -implicitDefEqProofs only[go_sem,seval];simp
theorem ZtN (sS:List Zb) (sO sD:List Zc) (sL sC:Int) (h1:VSt sS) (h2:Jz sD) (h3:0≤sL∧sL≤100000000):v_ 94 [(.d (.agg [.sl (sS.map Zb.enc),.sl (sO.map Zc.enc),.sl (sD.map Zc.enc),J sL,J sC]))] []=some ((.d (J (Y5 sS+J0 sD+sL))),[]):=by
 have e1:=ZsW sS h1;have e2:=ZsX sD h2;have b1:=Zpd h1;have b2:=ZsT h2;have u0:=wi (Y5 sS+J0 sD) o_ o_;have u1:=wi (Y5 sS+J0 sD+sL) o_ o_;refine cE ?_;simp (maxSteps:=10^7) +contextual -implicitDefEqProofs only[go_sem,seval,Znd,e1,e2,u0,u1]
def Zao (s:Zo):Prop:=s.Stock.length≤1048576∧(∀ x∈s.Stock,x.Flaws.length≤1048576∧R64 x.W∧R64 x.H)∧s.Opn.length≤1048576∧s.Done.length≤1048576
theorem ZmI {x:Zb} (h:VPc x):R64 x.W∧R64 x.H:=by
 have:=h.1;unfold R64;omega
theorem ZcJ {s:Zo} (h:ZI s):Zao s:=
 ⟨by have:=h.1.1;omega,fun x hx=>⟨(ZbW h.1).2 x hx,ZmI (ZW h.1.2 x hx)⟩,by have:=h.2.1.1;omega,by have:=h.2.2.1.1;omega⟩
theorem Vd (sS:List Zb) (sO sD:List Zc) (sL sC:Int) (hs:Zao (Zo.mk sS sO sD sL sC)):v_ 48 [(.d (.agg [.sl (sS.map Zb.enc),.sl (sO.map Zc.enc),.sl (sD.map Zc.enc),J sL,J sC]))] []=some ((.d (.bool (decide (ZI (Zo.mk sS sO sD sL sC))))),[]):=by
 obtain⟨h1,h2,h3,h4⟩:=hs;simp only at h1 h2 h3 h4;have e1:=YI sS o_ (fun x hx=>⟨by have:=(h2 x hx).1;omega,(h2 x hx).2⟩);have e2:=Zha sO h3;have e3:=Zha sD h4;have e4:=Zu sL 0 900000;have e5:=Zu sC 0 900000;refine cE ?_;by_cases v1:VSt sS
 ·rw[Ki v1] at e1;by_cases v2:Jz sO
  ·rw[Ki v2] at e2;by_cases v3:Jz sD
   ·rw[Ki v3] at e3;by_cases v4:0≤sL∧sL≤900000
    ·rw[Ki v4] at e4;by_cases v5:0≤sC∧sC≤900000
     ·rw[Ki v5] at e5;have e6:=ZtN sS sO sD sL sC v1 v3 o_;simp +contextual -implicitDefEqProofs only[go_sem,seval,YZ,e1,e2,e3,e4,e5,e6];exact Zb3 ⟨fun h=>⟨v1,v2,v3,v4.1,v4.2,v5.1,v5.2,h⟩,fun h=>h.2.2.2.2.2.2.2⟩
     ·rw[Kk v5] at e5;have hn:¬ZI (Zo.mk sS sO sD sL sC):=fun h=>v5 ⟨h.2.2.2.2.2.1,h.2.2.2.2.2.2.1⟩;simp +contextual -implicitDefEqProofs only[go_sem,seval,YZ,e1,e2,e3,e4,e5,hn]
    ·rw[Kk v4] at e4;have hn:¬ZI (Zo.mk sS sO sD sL sC):=fun h=>v4 ⟨h.2.2.2.1,h.2.2.2.2.1⟩;simp +contextual -implicitDefEqProofs only[go_sem,seval,YZ,e1,e2,e3,e4,hn]
   ·rw[Kk v3] at e3;have hn:¬ZI (Zo.mk sS sO sD sL sC):=fun h=>v3 h.2.2.1;simp +contextual -implicitDefEqProofs only[go_sem,seval,YZ,e1,e2,e3,hn]
  ·rw[Kk v2] at e2;have hn:¬ZI (Zo.mk sS sO sD sL sC):=fun h=>v2 h.2.1;simp +contextual -implicitDefEqProofs only[go_sem,seval,YZ,e1,e2,hn]
 ·rw[Kk v1] at e1;have hn:¬ZI (Zo.mk sS sO sD sL sC):=fun h=>v1 h.1;simp +contextual -implicitDefEqProofs only[go_sem,seval,YZ,e1,hn]
theorem Z9 (sS:List Zb) (sO sD:List Zc) (sL sC:Int):v_ 38 [(.d (.agg [.sl (sS.map Zb.enc),.sl (sO.map Zc.enc),.sl (sD.map Zc.enc),J sL,J sC]))] []=some ((.d (.bool (decide (ZI (Zo.mk sS sO sD sL sC))))),[]):=by
 have e1:=YH sS;have e2:=UB sO;have e3:=UB sD;refine cE ?_;by_cases v1:VSt sS
 ·rw[Ki v1] at e1;by_cases v2:Jz sO
  ·rw[Ki v2] at e2;by_cases v3:Jz sD
   ·rw[Ki v3] at e3;by_cases v4:((sL<0∨900000<sL)∨sC<0)∨900000<sC
    ·have hn:¬ZI (Zo.mk sS sO sD sL sC):=fun h=>by
      obtain⟨_,_,_,h1,h2,h3,h4,_⟩:=h;simp only at h1 h2 h3 h4;omega
     simp +contextual -implicitDefEqProofs only[go_sem,seval,VV,e1,e2,e3,v4,hn,← Li]
    ·have e4:=ZsR sS v1;have e5:=ZsV sD v3;have b1:=Zpd v1;have b2:=ZsT v3;have u0:=wi (Y5 sS+J0 sD) o_ o_;have u1:=wi (Y5 sS+J0 sD+sL) o_ o_;simp +contextual -implicitDefEqProofs only[go_sem,seval,VV,e1,e2,e3,v4,e4,e5,u0,u1,← Li];exact Zb3 ⟨fun h=>⟨v1,v2,v3,p_,p_,p_,p_,h⟩,fun h=>h.2.2.2.2.2.2.2⟩
   ·rw[Kk v3] at e3;have hn:¬ZI (Zo.mk sS sO sD sL sC):=fun h=>v3 h.2.2.1;simp +contextual -implicitDefEqProofs only[go_sem,seval,VV,e1,e2,e3,hn]
  ·rw[Kk v2] at e2;have hn:¬ZI (Zo.mk sS sO sD sL sC):=fun h=>v2 h.2.1;simp +contextual -implicitDefEqProofs only[go_sem,seval,VV,e1,e2,hn]
 ·rw[Kk v1] at e1;have hn:¬ZI (Zo.mk sS sO sD sL sC):=fun h=>v1 h.1;simp +contextual -implicitDefEqProofs only[go_sem,seval,VV,e1,hn]
end Go.Proofs.YtfnegoimdljanaaGreatDoor
