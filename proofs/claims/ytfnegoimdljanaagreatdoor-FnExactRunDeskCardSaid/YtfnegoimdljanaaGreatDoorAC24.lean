/- Own text. -/
import Derived.Test.YtfnegoimdljanaaGreatDoorACode
import Derived.Test.YtfnegoimdljanaaGreatDoorAC1
import Derived.Test.YtfnegoimdljanaaGreatDoorAC20
import Derived.Test.YtfnegoimdljanaaGreatDoorAbsOkD
import Derived.Test.YtfnegoimdljanaaGreatDoorAC22
namespace Go.Proofs.YtfnegoimdljanaaGreatDoor
open Go Go.Abs Go.Abs.E Go.Abs.L
set_option linter.unusedSimpArgs false
set_option linter.unusedVariables false
set_option maxRecDepth 20000
set_option maxHeartbeats 4000000
def ZiC:Nat→List (List UInt8)→List Ev
 | _,[]=>[]
 | _,[_]=>[]
 | k,x :: y :: r=>if 40≤k then [] else match Zik x with
  | none=>[]
  | some v=>v :: ZiC (k+1) (y :: r)
def Zfx (s:List UInt8):List Ev:=ZiC 0 (ZL 10 s)
theorem ZvP:∀ {n k:Nat} {s:List UInt8},s.length<n→Zrt n k s=ZiC k (ZL 10 s)
 | 0,k,s,h=>by omega
 | n+1,k,s,h=>by
  rw[Zrt,Zdx];cases hi:Xp 10 s with
  | none=>simp only[ZiC,ite_self]
  | some i=>
   simp only;have aa:=Ub 10 (s.drop (i+1));obtain⟨_,_,ab⟩:=JD hi;have ih:=ZvP (n:=n) (k:=k+1) (s:=s.drop (i+1)) (by simp;omega);cases hs:ZL 10 (s.drop (i+1)) with
   | nil=>exact absurd hs aa
   | cons y r=>
    rw[hs] at ih;rw[ZiC];split
    ·rfl
    ·cases Zik (s.take i) with
     | none=>rfl
     | some v=>simp only;rw[ih]
theorem ZDP (s:List UInt8):Zfx s=Zrt (s.length+1) 0 s:=(ZvP (by omega)).symm
theorem ZvQ (s:List UInt8):∃ r,s=ZoT (Zfx s)++r∧(Zfx s).length≤40∧∀ v∈Zfx s,v.ok:=by
 obtain⟨r,h1,h2,h3⟩:=ZvJ (n:=s.length+1) (k:=0) (s:=s);rw[← ZDP] at h1 h2 h3;exact⟨r,h1,by omega,h3⟩
theorem ZnN (s:List UInt8) (hs:s.length≤1048576):Zd Xs Ms 14 [.d (.str s)] []=some (.own 0,[.tree 16 5 (((Zfx s).map Ev.ev).map Zn.enc) none]):=by
 refine cE ?_;simp +contextual -implicitDefEqProofs (maxSteps:=10^7) only[go_sem,seval,Zci];refine LO (α:=List UInt8×List Ev) (fun a=>[(0,.d (.str a.1))]) (fun a=>[(0,.tree 16 5 ((a.2.map Ev.ev).map Zn.enc) none)]) (fun a=>a.1.length≤s.length∧Zfx s=a.2++ZiC a.2.length (ZL 10 a.1)) (fun a=>a.1.length) (s,[]) ⟨by simp,by simp[Zfx]⟩ ?_;intro⟨t,vs⟩ ⟨hk,hp⟩ ih;simp only at hk hp ih ⊢;have e1:=ZdN t 10 (by omega);rw[Zdx] at hp;by_cases ae:vs.length<40
 ·have aa : (vs.length:Int)<40:=by omega
  have ab:(vs.length+1)*144≤140737488355328∧vs.length≤140737488355327:=by omega
  cases hi:Xp 10 t with
  | none=>
   rw[hi] at e1 hp;simp only at e1 hp;simp only[ZiC,KF] at hp;rw[hp];simp +contextual -implicitDefEqProofs only[go_sem,seval,ae,aa,e1]
  | some i=>
   rw[hi] at e1 hp;simp only at e1 hp;obtain⟨_,_,ah⟩:=JD hi;have ag:=Ub 10 (t.drop (i+1));obtain⟨K,L,X,Y,W,H,pW,pH,pT,pK,C,o,a,q,tt,ks,e2,h2⟩:=Zp1 (t.take i) (by simp;omega);have ad:Zfx s=vs++match Zik (t.take i) with
     | none=>[]
     | some v=>v :: ZiC (vs.length+1) (ZL 10 (t.drop (i+1))):=by
    cases hsp:ZL 10 (t.drop (i+1)) with
    | nil=>exact absurd hsp ag
    | cons y r=>rw[hsp,ZiC,Kd (by omega)] at hp;exact hp
   cases hv:Zik (t.take i) with
   | none=>
    rw[hv] at e2 ad;simp only[Kw] at e2;simp only[KF] at ad;rw[ad];cases ks<;>simp +contextual -implicitDefEqProofs only[go_sem,seval,ae,aa,e1,e2]
   | some v=>
    rw[hv] at e2 ad h2;simp only[K4] at e2;simp only[evM] at ad h2;cases ks with
    | nil=>
     simp +contextual -implicitDefEqProofs only[go_sem,seval,ae,aa,e1,e2,ab];refine ih (t.drop (i+1),vs++[v]) _ ⟨by simp;omega,?_⟩ (by simp;omega) ?_
     ·simp only[KK,LN,Kq,Kl,KQ,K7];exact ad
     ·simp +contextual -implicitDefEqProofs only[go_sem,seval,KI,Kk,Ks,← h2]
    | cons k1 kr=>
     simp +contextual -implicitDefEqProofs only[go_sem,seval,ae,aa,e1,e2,ab];refine ih (t.drop (i+1),vs++[v]) _ ⟨by simp;omega,?_⟩ (by simp;omega) ?_
     ·simp only[KK,LN,Kq,Kl,KQ,K7];exact ad
     ·simp +contextual -implicitDefEqProofs only[go_sem,seval,KI,Kk,Ks,← h2]
 ·have aa : ¬(vs.length:Int)<40:=by omega
  have af:∀ ls,ZiC vs.length ls=[]:=by
   intro ls
   match ls with
   | []=>rfl
   | [_]=>rfl
   | x :: y :: r=>rw[ZiC,Kg (by omega)]
  rw[af,KF] at hp;rw[hp];simp +contextual -implicitDefEqProofs only[go_sem,seval,ae,aa]
theorem ZGN {ls:List (List UInt8)} {k m:Nat} {x:List UInt8} (hx:ls[k]?=some x) (hl:k+1<ls.length):ZiC m (ls.drop k)=if 40≤m then [] else match Zik x with
  | none=>[]
  | some v=>v :: ZiC (m+1) (ls.drop (k+1)):=by
 obtain⟨h1,h2⟩:=Kb.1 hx;rw[Ku h1,h2,Ku hl,ZiC]
theorem ZnO (s:List UInt8) (hs:s.length≤1048576):Zd Xs Ms 26 [.d (.str s)] []=some (.own 0,[.row 16 (((Zfx s).map Ev.ev).map Zn.enc) true false]):=by
 have e1:=Zl7 s 10 10 rfl hs;have af:=Zk6 10 s;have aj:=Zgk 10 s;have ak:s.count 10≤s.length:=Kar;have ag:=Ub 10 s;unfold Zfx;generalize ZL 10 s=ls at *;have ad:0<ls.length:=List.length_pos_iff.2 ag;refine cE ?_;simp +contextual -implicitDefEqProofs (maxSteps:=10^7) only[go_sem,seval,Zcp,e1];refine LO (α:=Nat×List Ev) (fun a=>[(5,.d (J (a.1:Int)))]) (fun a=>[(1,.row 16 ((a.2.map Ev.ev).map Zn.enc) true false)]) (fun a=>a.1<ls.length∧a.2.length≤40∧ZiC 0 ls=a.2++ZiC a.2.length (ls.drop a.1)) (fun a=>ls.length-a.1) (0,[]) ⟨ad,by simp,by simp⟩ ?_;intro⟨k,vs⟩ ⟨hk,h40,hp⟩ ih;simp only at hk h40 hp ih ⊢
 have w:=Zg (k:=k) (by omega);by_cases ah:k+1<ls.length
 ·obtain⟨x,hx⟩:=Zp hk;have aa : ((k+1:Nat):Int)<(ls.length:Int):=by omega
  have al:=af x (Kc hx);obtain⟨K,L,X,Y,W,H,pW,pH,pT,pK,C,o,a,q,tt,ks,e2,h2⟩:=Zp3 x (by omega);have ab:(vs.length+1)*144≤140737488355328∧vs.length≤140737488355327:=by omega
  rw[ZGN hx ah] at hp;cases hv:Zik x with
  | none=>
   rw[hv] at e2 hp;simp only[Kw] at e2;simp only[ite_self,KF] at hp;rw[hp];simp +contextual -implicitDefEqProofs only[go_sem,seval,aa,hk,hx,w,e2]
  | some v=>
   rw[hv] at e2 hp h2;simp only[K4] at e2;simp only[evM] at hp h2;by_cases hm:vs.length=40
   ·have ae : (vs.length:Int)=40:=by omega
    rw[Kg (by omega),KF] at hp;rw[hp];simp +contextual -implicitDefEqProofs only[go_sem,seval,aa,hk,hx,w,e2,hm,ae]
   ·have ae : ¬(vs.length:Int)=40:=by omega
    rw[Kd (by omega)] at hp;simp +contextual -implicitDefEqProofs only[go_sem,seval,aa,hk,hx,w,e2,hm,ae,ab];refine ih (k+1,vs++[v]) _ ⟨by simp only;omega,by simp;omega,?_⟩ (by simp only;omega) ?_
    ·simp only[KK,LN,Kq,Kl,KQ,K7];exact hp
    ·simp +contextual -implicitDefEqProofs only[go_sem,seval,KI,Kk,Ks,← h2]
 ·have ai:¬((k+1:Nat):Int)<(ls.length:Int):=by omega
  obtain⟨x,hx⟩:=Zp hk;obtain⟨h1,h2⟩:=Kb.1 hx;rw[Ku h1,List.drop_of_length_le (by omega),ZiC,KF] at hp;rw[hp];simp +contextual -implicitDefEqProofs only[go_sem,seval,ai,w]
end Go.Proofs.YtfnegoimdljanaaGreatDoor
namespace Go.Proofs.YtfnegoimdljanaaGreatDoor
open Go Go.Abs Go.Abs.E Go.Abs.L
set_option linter.unusedSimpArgs false
set_option linter.unusedVariables false
set_option maxRecDepth 20000
set_option maxHeartbeats 4000000
theorem Zmi (l:List Zc) (hv:JF l):Zd Xs Ms 60 [(.d (.sl (l.map Zc.enc)))] []=some (.own 0,[.row 4 ((QO l).map Pane.enc) true false]):=by
 have am:=hv.1;have aa:=Z5 hv;refine cE ?_;simp +contextual -implicitDefEqProofs (maxSteps:=10^7) only[go_sem,seval,ZiU];refine LO (α:=Nat) (fun k=>[(4,.d (J (k:Int)))]) (fun k=>[(0,.row 4 ((QO (l.take k)).map Pane.enc) true false)]) (fun k=>k≤l.length) (fun k=>l.length-k) 0 (by omega) ?_;intro k hk ih;by_cases ad:k<l.length
 ·obtain⟨x,hx⟩:=Zp ad;have ae : (k:Int)<(l.length:Int):=by omega
  have w:=Zg (k:=k) (by omega);have ah:l.take (k+1)=l.take k++[x]:=by rw[KB,hx];rfl
  have ag:=aa x (Kc hx);have an:=VA (l:=l.take k) fun y hy=>(aa y (Lg hy)).2;have ao:(l.take k).length≤8:=by simp;omega
  obtain⟨⟨W,H,T,K⟩,C⟩:=x;obtain⟨n,hn⟩:∃ n:Nat,C=n:=⟨C.toNat,by simp only at ag;omega⟩
  subst hn;simp only at ag;have ai:QO (l.take (k+1))=QO (l.take k)++List.replicate n ⟨W,H,T,K⟩:=by rw[ah,ZiB];rfl
  simp +contextual -implicitDefEqProofs only[go_sem,seval,ae,ad,hx,w];refine XR Xs Ms (st0:=?st1) (α:=Nat) (fun j=>[(5,.d (J (j:Int)))]) (fun j=>[(0,.row 4 ((QO (l.take k)++List.replicate j (Pane.mk W H T K)).map Pane.enc) true false)]) (fun j=>j≤n) (fun j=>n-j) 0 ?hc2 (by omega) ?h02 ?step2
  case hc2=>simp +contextual -implicitDefEqProofs only[go_sem,seval]<;>exact rfl
  case h02=>simp only[List.replicate_zero,KF];rfl
  case step2=>
   intro j hj aj;by_cases ak:j<n
   ·have af : (j:Int)<(n:Int):=by omega
    have w2:=Zg (k:=j) (by omega);have ab:((QO (l.take k)++List.replicate j (Pane.mk W H T K)).length+1)*32≤140737488355328∧(QO (l.take k)++List.replicate j (Pane.mk W H T K)).length+1≤140737488355328:=by simp only[Kq,L6];omega
    have al:QO (l.take k)++List.replicate (j+1) (Pane.mk W H T K)=(QO (l.take k)++List.replicate j (Pane.mk W H T K))++[Pane.mk W H T K]:=by rw[List.replicate_succ',KK]
    generalize QO (l.take k)++List.replicate j (Pane.mk W H T K)=qs at *;simp +contextual -implicitDefEqProofs only[go_sem,seval,af,ak,ad,hx,w2,ab];refine aj (j+1) _ (by omega) (by omega) ?_;simp +contextual -implicitDefEqProofs only[go_sem,seval,al,KI,Kk,Ks]
   ·have:j=n:=by omega
    subst this;simp +contextual -implicitDefEqProofs only[go_sem,seval,w,ad,hx];refine ih (k+1) _ (by omega) (by omega) ?_;simp +contextual -implicitDefEqProofs only[go_sem,seval,ai]
 ·have:k=l.length:=by omega
  subst this;simp +contextual -implicitDefEqProofs only[go_sem,seval,KN]
theorem Zzk (sS:List Zb) (sO sD:List Zc) (sL sC:Int) (hv:ZK (Zq.mk sS sO sD sL sC)) (w:List UInt8):Zd Xs Ms 27 [(.d (.agg [.sl (sS.map Zb.enc),.sl (sO.map Zc.enc),.sl (sD.map Zc.enc),J sL,J sC])),.d (.str w)] []=some (.d (.str (ZnM (Zq.mk sS sO sD sL sC) w)),[]):=by
 have ah:=hv;obtain⟨v1,v2,v3,h1,h2,h3,h4,h5⟩:=hv;simp only at v1 v2 v3 h1 h2 h3 h4 h5;have p2:=Zmi sO v2;have p3:=Zmi sD v3;have l2:=VA fun x hx=>(Z5 v2 x hx).2;have l3:=VA fun x hx=>(Z5 v3 x hx).2;have b2:=v2.1;have b3:=v3.1;have b1:=v1.1;have aj:((sL.toNat:Nat):Int)=sL:=KO h1;have ak:((sC.toNat:Nat):Int)=sC:=KO h3;unfold ZnM;by_cases q1:w=[115,116,111,99,107]
 ·rw[Kg q1];have e:=Xg sS.length (by omega);have aa : (w==[115,116,111,99,107])=true:=by rw[beq_iff_eq];exact q1
  refine cE ?_;simp +contextual -implicitDefEqProofs (maxSteps:=10^7) only[go_sem,seval,Y1,e,aa]
 ·rw[Kd q1];have aa : (w==[115,116,111,99,107])=false:=by rw[beq_eq_false_iff_ne];exact q1
  by_cases q2:w=[111,112,101,110]
  ·rw[Kg q2];have e:=Xg (QO sO).length (by omega);have ab : (w==[111,112,101,110])=true:=by rw[beq_iff_eq];exact q2
   refine cE ?_;simp +contextual -implicitDefEqProofs (maxSteps:=10^7) only[go_sem,seval,Y1,p2,e,aa,ab]
  ·rw[Kd q2];have ab : (w==[111,112,101,110])=false:=by rw[beq_eq_false_iff_ne];exact q2
   by_cases q3:w=[100,111,110,101]
   ·rw[Kg q3];have e:=Xg (QO sD).length (by omega);have ad : (w==[100,111,110,101])=true:=by rw[beq_iff_eq];exact q3
    refine cE ?_;simp +contextual -implicitDefEqProofs (maxSteps:=10^7) only[go_sem,seval,Y1,p3,e,aa,ab,ad]
   ·rw[Kd q3];have ad : (w==[100,111,110,101])=false:=by rw[beq_eq_false_iff_ne];exact q3
    by_cases q4:w=[108,111,115,116]
    ·rw[Kg q4];have e:=Xg sL.toNat (by omega);rw[aj] at e;have ae : (w==[108,111,115,116])=true:=by rw[beq_iff_eq];exact q4
     refine cE ?_;simp +contextual -implicitDefEqProofs (maxSteps:=10^7) only[go_sem,seval,Y1,e,aa,ab,ad,ae]
    ·rw[Kd q4];have ae : (w==[108,111,115,116])=false:=by rw[beq_eq_false_iff_ne];exact q4
     by_cases q5:w=[99,97,109,101]
     ·rw[Kg q5];have e:=Xg sC.toNat (by omega);rw[ak] at e;have af : (w==[99,97,109,101])=true:=by rw[beq_iff_eq];exact q5
      refine cE ?_;simp +contextual -implicitDefEqProofs (maxSteps:=10^7) only[go_sem,seval,Y1,e,aa,ab,ad,ae,af]
     ·rw[Kd q5];have af : (w==[99,97,109,101])=false:=by rw[beq_eq_false_iff_ne];exact q5
      by_cases q6:w=[110,101,120,116]
      ·rw[Kg q6];have ag : (w==[110,101,120,116])=true:=by rw[beq_iff_eq];exact q6
       have e:=ZxB sS sO sD sL sC (ZCN ah);cases hn:ZeQ (Zq.mk sS sO sD sL sC) with
       | none=>
        rw[hn] at e;unfold nxV at e;refine cE ?_;simp +contextual -implicitDefEqProofs (maxSteps:=10^7) only[go_sem,seval,Y1,e,aa,ab,ad,ae,af,ag]
       | some ev=>
        rw[hn] at e;obtain⟨_,_,_,_,ai,_⟩:=ZCL ah hn;have al:=Jk ai;obtain⟨K,L,⟨X,Y,W,H⟩,⟨⟨pW,pH,pT,pK⟩,C⟩,⟨o,a,q,t,ks⟩⟩:=ev;unfold nxV at e;simp only at e;have e2:=Ziz K L X Y W H pW pH pT pK C o a q t ks _ ai;rw[← al] at e2;rcases ks with _ | ⟨k1,ks⟩ <;>
        ·simp only[Kk,Ks] at e2;refine cE ?_;simp +contextual -implicitDefEqProofs (maxSteps:=10^7) only[go_sem,seval,Y1,e,e2,aa,ab,ad,ae,af,ag]
      ·rw[Kd q6];have ag : (w==[110,101,120,116])=false:=by rw[beq_eq_false_iff_ne];exact q6
       refine cE ?_;simp +contextual -implicitDefEqProofs (maxSteps:=10^7) only[go_sem,seval,Y1,aa,ab,ad,ae,af,ag]
def dkT (o:Option Zq) (w:List UInt8):List UInt8:=match o with
 | some s=>ZnM s w
 | none=>[99,108,111,115,101,100]
def dkO (o:Option Zq):Prop:=∀ s,o=some s→ZK s
theorem Zxr {o:Option Zq} (ho:dkO o) (w:List UInt8):0<(dkT o w).length∧(dkT o w).length≤20000:=by
 cases o with
 | none=>simp[dkT]
 | some s=>exact ZFi (ho s rfl) w
def Zzl (o:Option Zq) (ws:List (List UInt8)):List UInt8:=if 20<ws.length then [] else Q4 (dkT o) ws
theorem Zxs {o:Option Zq} (ho:dkO o):∀ ws:List (List UInt8),(Q4 (dkT o) ws).length≤20001*ws.length
 | []=>by simp[Q4]
 | w :: r=>by
  have ih:=Zxs ho r;have:=Zxr ho w;rw[ZoR];simp only[Kq,Kl];omega
theorem Zzm {o:Option Zq} {ws:List (List UInt8)} {k:Nat} {w:List UInt8} (h:ws[k]?=some w):Q4 (dkT o) (ws.take (k+1))=Q4 (dkT o) (ws.take k)++(dkT o w++[10]):=by
 rw[KB,h];exact ZyW ..
theorem ZCM (l:List Zn):dkO (Zmf l):=fun s h=>by
 unfold Zmf at h;split at h
 ·exact ZrA Zlh h
 ·cases h
theorem Zuw (aa:List UInt8) (hb:aa.length≤1048576) (ws:List (List UInt8)) (hw:ws.length≤1048576) :
  Zd Xs Ms 10 [.d (.str aa),.d (.sl (ws.map .str))] []=some (.d (.str (Zzl (Zmf ((Zfx aa).map Ev.ev)) ws)),[]):=by
 unfold Zzl;by_cases af:20<ws.length
 ·have ab : (20:Int)<(ws.length:Int):=by omega
  rw[Kg af];refine cE ?_;simp +contextual -implicitDefEqProofs (maxSteps:=10^7) only[go_sem,seval,Jm,ab,af]
 ·have ab : ¬(20:Int)<(ws.length:Int):=by omega
  rw[Kd af];have e1:=ZnN aa hb;obtain⟨_,_,ak,_⟩:=ZvQ aa;obtain⟨r,e2,hr⟩:=Zxn ((Zfx aa).map Ev.ev) (by simp;omega);have ho:=ZCM ((Zfx aa).map Ev.ev);generalize Zmf ((Zfx aa).map Ev.ev)=o at *;have ht:=@Zzm o ws;have ag:=Zxs ho;have ah:=Zxr ho;cases o with
  | none=>
   unfold shO shT at hr;simp only at hr;subst hr;refine cE ?_;simp +contextual -implicitDefEqProofs (maxSteps:=10^7) only[go_sem,seval,Jm,e1,e2,ab,af];refine LO (α:=Nat) (fun k=>[(21,.d (J (k:Int)))]) (fun k=>[(0,.box [.bnil 0 66,.bbuf 5 (Q4 (dkT none) (ws.take k))])]) (fun k=>k≤ws.length) (fun k=>ws.length-k) 0 (by omega) ?_;intro k hk ih;by_cases ae:k<ws.length
   ·have ad : (k:Int)<(ws.length:Int):=by omega
    have w:=Zg (k:=k) (by omega);obtain⟨x,hx⟩:=Zp ae;have ht:=ht hx;have ai:=ag (ws.take k);have aj:(ws.take k).length≤20:=by simp;omega
    have e4:=QM (Q4 (dkT none) (ws.take k)) [99,108,111,115,101,100] (by simp) (by simp;omega);have e5:=ZY (Q4 (dkT none) (ws.take k)++[99,108,111,115,101,100]) 10 10 rfl (by simp;omega);simp +contextual -implicitDefEqProofs only[go_sem,seval,ad,ae,hx,w,e4,e5];refine ih (k+1) _ (by omega) (by omega) ?_;simp +contextual -implicitDefEqProofs only[go_sem,seval,ht,KK,dkT]
   ·have:k=ws.length:=by omega
    subst this;have e6:=Wl (Q4 (dkT none) (ws.take ws.length));rw[KN] at e6 ⊢;simp +contextual -implicitDefEqProofs only[go_sem,seval,e6]
  | some z=>
   obtain⟨sS,sO,sD,sL,sC⟩:=z;have ha:=Zxq sS sO sD sL sC (ho _ rfl);unfold shO at hr;simp only at hr;obtain⟨u,hu,hr⟩:=hr;subst hr;rcases hu with rfl | ⟨hs,rfl⟩
   ·skip
    refine cE ?_;simp +contextual -implicitDefEqProofs (maxSteps:=10^7) only[go_sem,seval,Jm,e1,e2,ab,af];refine XR Xs Ms (st0:=?stb) (α:=Nat) (fun k=>[(21,.d (J (k:Int)))]) (fun k=>[(0,.box [.bnil 0 66,.bbuf 5 (Q4 (dkT (some ⟨sS,sO,sD,sL,sC⟩)) (ws.take k))])]) (fun k=>k≤ws.length) (fun k=>ws.length-k) 0 ?hcb (by omega) ?h0b ?stepb
    case hcb=>simp +contextual -implicitDefEqProofs only[go_sem,seval]<;>exact rfl
    case h0b=>rfl
    case stepb=>
     intro k hk ih;by_cases ae:k<ws.length
     ·have ad : (k:Int)<(ws.length:Int):=by omega
      have w:=Zg (k:=k) (by omega);obtain⟨x,hx⟩:=Zp ae;have ht:=ht hx;have ha:=ha x;have hn:=ah x;unfold dkT at hn;simp only at hn;have ai:=ag (ws.take k);have aj:(ws.take k).length≤20:=by simp;omega
      have e4:=QM (Q4 (dkT (some ⟨sS,sO,sD,sL,sC⟩)) (ws.take k)) (ZnM ⟨sS,sO,sD,sL,sC⟩ x) hn.1 (by omega);have e5:=ZY (Q4 (dkT (some ⟨sS,sO,sD,sL,sC⟩)) (ws.take k)++ZnM ⟨sS,sO,sD,sL,sC⟩ x) 10 10 rfl (by simp;omega);simp +contextual -implicitDefEqProofs only[go_sem,seval,ad,ae,hx,w,ha,e4,e5];refine ih (k+1) _ (by omega) (by omega) ?_;simp +contextual -implicitDefEqProofs only[go_sem,seval,ht,KK,dkT]
     ·have:k=ws.length:=by omega
      subst this;have e6:=Wl (Q4 (dkT (some ⟨sS,sO,sD,sL,sC⟩)) (ws.take ws.length));rw[KN] at e6 ⊢;simp +contextual -implicitDefEqProofs only[go_sem,seval,e6]
   ·subst hs;refine cE ?_;simp +contextual -implicitDefEqProofs (maxSteps:=10^7) only[go_sem,seval,Jm,e1,e2,ab,af];refine XR Xs Ms (st0:=?stc) (α:=Nat) (fun k=>[(21,.d (J (k:Int)))]) (fun k=>[(0,.box [.bnil 0 66,.bbuf 5 (Q4 (dkT (some ⟨[],sO,sD,sL,sC⟩)) (ws.take k))])]) (fun k=>k≤ws.length) (fun k=>ws.length-k) 0 ?hcc (by omega) ?h0c ?stepc
    case hcc=>simp +contextual -implicitDefEqProofs only[go_sem,seval]<;>exact rfl
    case h0c=>rfl
    case stepc=>
     intro k hk ih;by_cases ae:k<ws.length
     ·have ad : (k:Int)<(ws.length:Int):=by omega
      have w:=Zg (k:=k) (by omega);obtain⟨x,hx⟩:=Zp ae;have ht:=ht hx;have ha:=ha x;simp only[Ks] at ha;have hn:=ah x;unfold dkT at hn;simp only at hn;have ai:=ag (ws.take k);have aj:(ws.take k).length≤20:=by simp;omega
      have e4:=QM (Q4 (dkT (some ⟨[],sO,sD,sL,sC⟩)) (ws.take k)) (ZnM ⟨[],sO,sD,sL,sC⟩ x) hn.1 (by omega);have e5:=ZY (Q4 (dkT (some ⟨[],sO,sD,sL,sC⟩)) (ws.take k)++ZnM ⟨[],sO,sD,sL,sC⟩ x) 10 10 rfl (by simp;omega);simp +contextual -implicitDefEqProofs only[go_sem,seval,ad,ae,hx,w,ha,e4,e5];refine ih (k+1) _ (by omega) (by omega) ?_;simp +contextual -implicitDefEqProofs only[go_sem,seval,ht,KK,dkT]
     ·have:k=ws.length:=by omega
      subst this;have e6:=Wl (Q4 (dkT (some ⟨[],sO,sD,sL,sC⟩)) (ws.take ws.length));rw[KN] at e6 ⊢;simp +contextual -implicitDefEqProofs only[go_sem,seval,e6]
theorem Zxt (aa:List UInt8) (hb:aa.length≤1048576) (ws:List (List UInt8)) (hw:ws.length≤1048576) :
  Zd Xs Ms 8 [.d (.str aa),.d (.sl (ws.map .str))] []=some (.d (.str (Zzl (Zmf ((Zfx aa).map Ev.ev)) ws)),[]):=by
 unfold Zzl;by_cases ae:20<ws.length
 ·have ab : (20:Int)<(ws.length:Int):=by omega
  rw[Kg ae];refine cE ?_;simp +contextual -implicitDefEqProofs (maxSteps:=10^7) only[go_sem,seval,Zb2,ab,ae]
 ·have ab : ¬(20:Int)<(ws.length:Int):=by omega
  rw[Kd ae];have e1:=ZnO aa hb;obtain⟨_,_,ap,ah⟩:=ZvQ aa;have e2:=Zxo ((Zfx aa).map Ev.ev) (by simp;omega) (by
   intro e he;obtain⟨v,hv,rfl⟩:=Li.1 he;have:=ah v hv;cases v<;>simp only[Ev.ok,Ev.ev,bx0,R64] at this ⊢ <;> omega)
  have ai:Zmf ((Zfx aa).map Ev.ev)=runL ⟨[],[],[],0,0⟩ ((Zfx aa).map Ev.ev):=by unfold Zmf;rw[Kg (by simp;omega)]
  rw[← ai] at e2;have ho:=ZCM ((Zfx aa).map Ev.ev);generalize Zmf ((Zfx aa).map Ev.ev)=o at *;have ht:=@Zzm o ws;have ag:=Zxs ho;have aj:=Zxr ho;cases o with
  | none=>
   unfold shV at e2;simp only at e2;refine cE ?_;simp +contextual -implicitDefEqProofs (maxSteps:=10^7) only[go_sem,seval,Zb2,ab,ae,e1,e2];refine LO (α:=Nat) (fun k=>[(8,.d (J (k:Int))),(7,.d (.str (Q4 (dkT none) (ws.take k))))]) (fun _=>[]) (fun k=>k≤ws.length) (fun k=>ws.length-k) 0 (by omega) ?_;intro k hk ih;by_cases af:k<ws.length
   ·have ad : (k:Int)<(ws.length:Int):=by omega
    have w:=Zg (k:=k) (by omega);obtain⟨x,hx⟩:=Zp af;have ht:=ht hx;have ak:=ag (ws.take k);have al:(ws.take k).length≤20:=by simp;omega
    have hq:(Q4 (dkT none) (ws.take k)).length≤1152921504606846969:=by omega
    have am:dkT none x=[99,108,111,115,101,100]:=rfl;rw[am] at ht;simp only[KD,Ll] at ht;simp +contextual -implicitDefEqProofs only[go_sem,seval,ad,af,hx,w,hq];refine ih (k+1) _ (by omega) (by omega) ?_;simp +contextual -implicitDefEqProofs only[go_sem,seval,ht,KK]
   ·have:k=ws.length:=by omega
    subst this;simp +contextual -implicitDefEqProofs only[go_sem,seval,KN]
  | some z=>
   obtain⟨sS,sO,sD,sL,sC⟩:=z;have ha:=Zzk sS sO sD sL sC (ho _ rfl);unfold shV at e2;simp only at e2;refine cE ?_;simp +contextual -implicitDefEqProofs (maxSteps:=10^7) only[go_sem,seval,Zb2,ab,ae,e1,e2];refine XR Xs Ms (st0:=?stb) (α:=Nat) (fun k=>[(8,.d (J (k:Int))),(7,.d (.str (Q4 (dkT (some ⟨sS,sO,sD,sL,sC⟩)) (ws.take k))))]) (fun _=>[]) (fun k=>k≤ws.length) (fun k=>ws.length-k) 0 ?hcb (by omega) ?h0b ?stepb
   case hcb=>simp +contextual -implicitDefEqProofs only[go_sem,seval]<;>exact rfl
   case h0b=>rfl
   case stepb=>
    intro k hk ih;by_cases af:k<ws.length
    ·have ad : (k:Int)<(ws.length:Int):=by omega
     have w:=Zg (k:=k) (by omega);obtain⟨x,hx⟩:=Zp af;have ht:=ht hx;have ha:=ha x;have ak:=ag (ws.take k);have hn:=aj x;unfold dkT at hn;simp only at hn;have al:(ws.take k).length≤20:=by simp;omega
     generalize hL:Q4 (dkT (some ⟨sS,sO,sD,sL,sC⟩)) (ws.take k)=L at *;generalize hA:ZnM ⟨sS,sO,sD,sL,sC⟩ x=A at *;have hq:L.length+A.length≤1152921504606846976:=by omega
     have an:(L++A).length≤1152921504606846975:=by simp;omega
     have ao:L.length+A.length≤1152921504606846975:=by omega
     simp +contextual -implicitDefEqProofs only[go_sem,seval,ad,af,hx,w,ha,hq,an,ao];refine ih (k+1) _ (by omega) (by omega) ?_;simp +contextual -implicitDefEqProofs only[go_sem,seval,ht,KK,dkT,hA]
    ·have:k=ws.length:=by omega
     subst this;simp +contextual -implicitDefEqProofs only[go_sem,seval,KN]
end Go.Proofs.YtfnegoimdljanaaGreatDoor
namespace Go.Proofs.YtfnegoimdljanaaGreatDoor
open Go Go.Abs Go.Abs.E Go.Abs.L
set_option linter.unusedSimpArgs false
set_option linter.unusedVariables false
set_option maxRecDepth 20000
set_option maxHeartbeats 4000000
def szT:Int→List (List UInt8)→Int
 | c,[]=>c
 | c,x :: l=>if c-x.length<0 then -1 else szT (c-x.length) l
def szTS (c:Int) (l:List (List UInt8)):Int:=if c-l.length<0 then -1 else szT (c-l.length) l
theorem ZrD (ks:List (List UInt8)) (hk:ks.length≤maxLen) (hs:∀ x∈ks,x.length≤maxLen) (left:Int) (h0:0≤left) (hl:left≤1048576):Zd Xs Ms 7 [.d (.sl (ks.map .str)),(.d (J left))] []=some ((.d (J (szTS left ks))),[]):=by
 have af : (ks.length:Int)≤9223372036854775807:=by unfold maxLen at hk;omega
 have w:=wi (left-ks.length) (by omega) (by omega);unfold szTS;by_cases hy:left-(ks.length:Int)<0
 ·rw[Kg hy];refine cE ?_;simp +contextual -implicitDefEqProofs (maxSteps:=10^7) only[go_sem,seval,ZbK,w,hy]
 ·rw[Kd hy];refine cE ?_;simp +contextual -implicitDefEqProofs (maxSteps:=10^7) only[go_sem,seval,ZbK,w,hy];refine LO (α:=Nat×Int) (fun s=>[(5,.d (J (s.1:Int))),(1,.d (J s.2))]) (fun _=>[]) (fun s=>s.1≤ks.length∧0≤s.2∧s.2≤1048576∧szT s.2 (ks.drop s.1)=szT (left-ks.length) ks) (fun s=>ks.length-s.1) (0,left-ks.length) ⟨by simp,by simp only;omega,by simp only;omega,by simp⟩ ?_;intro⟨k,c⟩ ⟨hk1,hc0,hc1,hz⟩ ih2;simp only at hk1 hc0 hc1 hz ih2;by_cases aa:k<ks.length
  ·obtain⟨x,hx⟩:=Zp aa;have ab : (k:Int)<(ks.length:Int):=by omega
   have w1:=Zg (k:=k) (by unfold maxLen at hk;omega);have ae:=hs x (Kc hx);have w2:=wi (c-x.length) (by unfold maxLen at ae;omega) (by omega);have hd:ks.drop k=x :: ks.drop (k+1):=by
    rw[Ku aa];rw[Kv aa] at hx;cases hx;rfl
   rw[hd] at hz;simp only[szT] at hz;by_cases ad:c-(x.length:Int)<0
   ·rw[Kg ad] at hz;simp +contextual -implicitDefEqProofs only[go_sem,seval,ab,aa,hx,w1,w2,ad,← hz]
   ·rw[Kd ad] at hz;simp +contextual -implicitDefEqProofs only[go_sem,seval,ab,aa,hx,w1,w2,ad];refine ih2 (k+1,c-x.length) _ ⟨by simp only;omega,by simp only;omega,by simp only;omega,hz⟩ (by simp only;omega) ?_;simp +contextual -implicitDefEqProofs only[go_sem,seval]
  ·have:k=ks.length:=by omega
   subst this;rw[List.drop_length] at hz;simp only[szT] at hz;simp +contextual -implicitDefEqProofs only[go_sem,seval,hz]
theorem ZrE (ks:List (List UInt8)) (hk:ks.length≤1048576):Zd Xs Ms 9 [.d (.sl (ks.map .str))] []=some (.own 0,[.row 1 (ks.map .str) true false]):=by
 have hm:(ks.length:Int)*16≤140737488355328∧(ks.length:Int)≤140737488355328:=by omega
 refine cE ?_;simp +contextual -implicitDefEqProofs (maxSteps:=10^7) only[go_sem,seval,ZfS,hm,ZM];refine XR Xs Ms (st0:=?st0) (α:=Nat) (fun k=>[(4,.d (J (k:Int)))]) (fun k=>[(0,.row 1 (Zh6 .str (.str []) ks k) true false)]) (fun k=>k≤ks.length) (fun k=>ks.length-k) 0 ?hc (by omega) ?h0 ?step
 case hc=>simp +contextual -implicitDefEqProofs only[go_sem,seval]<;>exact rfl
 case h0=>rw[ZA1];rfl
 case step=>
  intro k ae af;have ag:=ZDy D.str (.str []) ae;by_cases ab:k<ks.length
  ·obtain⟨x,hx⟩:=Zp ab;have ad : (k:Int)<(ks.length:Int):=by omega
   have w1:=Zg (k:=k) (by omega);have aa:=ZDz (f:=D.str) (z:=.str []) hx;have z1:=ZDA (f:=D.str) (z:=.str []) ab;simp +contextual -implicitDefEqProofs only[go_sem,seval,ad,ab,hx,w1,ag,z1,KaB,aa];refine af (k+1) _ (by omega) (by omega) ?_;simp +contextual -implicitDefEqProofs only[go_sem,seval,KaB,aa]
  ·have:k=ks.length:=by omega
   subst this;rw[ZDx];simp +contextual -implicitDefEqProofs only[go_sem,seval]
theorem ZnP (ks:List (List UInt8)) (hk:ks.length≤1048576):Zd Xs Ms 11 [.d (.sl (ks.map .str)),.d (.sl (ks.map .str))] []=some ((.d (.bool true)),[]):=by
 refine cE ?_;simp +contextual -implicitDefEqProofs (maxSteps:=10^7) only[go_sem,seval,ZfH];refine LO (α:=Nat) (fun k=>[(5,.d (J (k:Int)))]) (fun _=>[]) (fun k=>k≤ks.length) (fun k=>ks.length-k) 0 (by omega) ?_;intro k af ad;by_cases ab:k<ks.length
 ·obtain⟨x,hx⟩:=Zp ab;have aa : (k:Int)<(ks.length:Int):=by omega
  have w1:=Zg (k:=k) (by omega);have ae:(x != x)=false:=by simp
  simp +contextual -implicitDefEqProofs only[go_sem,seval,aa,ab,hx,w1,ae];refine ad (k+1) _ (by omega) (by omega) ?_;simp +contextual -implicitDefEqProofs only[go_sem,seval]
 ·have:k=ks.length:=by omega
  subst this;simp +contextual -implicitDefEqProofs only[go_sem,seval]
theorem Zks (aa:List UInt8) (hb:aa.length≤maxLen) (ws:List (List UInt8)) (hw:ws.length≤maxLen) (hs:∀ x∈ws,x.length≤maxLen):Zd Xs Ms 3 [.d (.str aa),.d (.sl (ws.map .str))] []=some ((.d (.bool true)),[]):=by
 by_cases hc:(1048576:Int)<(aa.length:Int)
 ·refine cE ?_;simp +contextual -implicitDefEqProofs (maxSteps:=10^7) only[go_sem,seval,YE,hc]
 ·have e1:=ZrD ws hw hs 1048576 (by omega) (by omega);by_cases hz:szTS 1048576 ws<0
  ·refine cE ?_;simp +contextual -implicitDefEqProofs (maxSteps:=10^7) only[go_sem,seval,YE,hc,e1,hz]
  ·have ab:ws.length≤1048576:=Classical.byContradiction fun h=>hz (by unfold szTS;rw[Kg (by omega)];decide);have e2:=ZrE ws ab;have e3:=Zxt aa (by omega) ws ab;have e4:=Zuw aa (by omega) ws ab;have e5:=ZnP ws ab;generalize Zzl (Zmf ((Zfx aa).map Ev.ev)) ws=T at *;have hT:(T != T)=false:=by simp
   refine cE ?_;simp +contextual -implicitDefEqProofs (maxSteps:=10^7) only[go_sem,seval,YE,hc,e1,hz,e2,e3,e4,e5,hT]
end Go.Proofs.YtfnegoimdljanaaGreatDoor
