/- Own text. -/
import Derived.Test.YtgpiffflfkoocaaDoorACode
import Derived.Test.YtgpiffflfkoocaaDoorAbsParts
import Derived.Test.YtgpiffflfkoocaaDoorAC7
import Derived.Test.YtgpiffflfkoocaaDoorAbsOkD
namespace Go.Proofs.YtgpiffflfkoocaaDoor
open Go Go.Abs Go.Abs.E Go.Abs.L
open Nat (reduceMul reduceSub reduceLeDiff reduceEqDiff)
open Int (reduceLE reduceEq reduceToNat reduceNeg)
set_option linter.unusedSimpArgs false
set_option linter.unusedVariables false
set_option maxRecDepth 20000
set_option maxHeartbeats 4000000
theorem Zhv (ws:List (List UInt8)) (hw:ws.length≤2000000) (hl:∀ w∈ws,w.length≤1048576):Zj Xs Ms Vv [.d (.sl (ws.map .str))] []=some (rnV (Xt ws)):=by
 refine cE ?_;simp +contextual -implicitDefEqProofs (maxSteps:=10^7) only[go_sem,seval,↓gZ,JN];refine LO (α:=Nat×List Int) (fun a=>[(5,.d (J (a.1:Int)))]) (fun a=>[(0,.row 1 (a.2.map U8) true false)]) (fun a=>a.1≤ws.length∧a.2.length≤a.1∧Xt ws=(Xt (ws.drop a.1)).map fun r=>a.2++r) (fun a=>ws.length-a.1) (0,[]) ⟨by simp,by simp,by simp⟩ ?_;intro⟨k,vs⟩ ⟨hk,hv,hp⟩ ih;simp only at hk hv hp ih ⊢;by_cases ad:k<ws.length
 ·obtain⟨x,hx⟩:=VR ad;have aa : (k:Int)<(ws.length:Int):=by omega
  have w:=ZM (k:=k) (by omega);have e1:=Xc x (hl x (Kp hx));rw[Zmb hx] at hp;have ab:(vs.length+1)*8≤140737488355328∧vs.length+1≤140737488355328:=by omega
  have ae:(ws.map D.str)[k]?=some (.str x):=by rw[Lg,hx];rfl
  cases hr:rd x with
  | none=>
   rw[hr] at hp;rw[ZdX hr] at e1;simp only[LA,Option.map_none] at hp;rw[hp];simp +contextual -implicitDefEqProofs (maxSteps:=10^7) only[go_sem,seval,↓gZ,aa,ad,ae,hx,w,e1,rnV]
  | some v=>
   rw[hr] at hp;rw[WX hr] at e1;have af:¬(v:Int)<0:=by omega
   simp +contextual -implicitDefEqProofs (maxSteps:=10^7) only[go_sem,seval,↓gZ,aa,ad,ae,hx,w,e1,ab,af];refine ih (k+1,vs++[(v:Int)]) _ ⟨by omega,by simp;omega,?_⟩ (by omega) ?_
   ·rw[hp];cases Xt (ws.drop (k+1))<;>simp
   ·simp +contextual -implicitDefEqProofs (maxSteps:=10^7) only[go_sem,seval,↓gZ,U8,Lc,Ki,Ku]
 ·have:k=ws.length:=by omega
  subst this;simp only[List.drop_length,Xt,KP,KU] at hp;rw[hp];simp +contextual -implicitDefEqProofs (maxSteps:=10^7) only[go_sem,seval,↓gZ,rnV]
def ZcN:List (List UInt8):=[QA,Q1,Xi,UT,Xj,QY]
theorem Q5:ZcN.length=6:=rfl
def Yd (w:List UInt8):List Int→Zw×Bool
 | [l]=>if w=QY then (⟨5,l,bx0,ln0,BT.waste.plan⟩,true) else (evZ,false)
 | [l,a,b]=>if w=QA then (⟨0,l,⟨0,0,a,b⟩,ln0,BT.waste.plan⟩,true) else (evZ,false)
 | [l,x,y,a,b]=>if w=Q1 then (⟨1,l,⟨x,y,a,b⟩,ln0,BT.waste.plan⟩,true) else (evZ,false)
 | _=>(evZ,false)
def Zdi:List (List UInt8)→Zw×Bool
 | [a,p]=>(⟨3,Us a,bx0,ln0,((J5 p).getD .waste).plan⟩,(J5 p).isSome)
 | _=>(evZ,false)
def lnE (k:Int) (r:List (List UInt8)):Zw×Bool:=match lnS r with
 | some n=>(⟨k,0,bx0,n,BT.waste.plan⟩,true)
 | none=>(⟨k,0,bx0,ln0,BT.waste.plan⟩,false)
def rdE (w:List UInt8) (r:List (List UInt8)):Zw×Bool:=
 if r=[] then (evZ,false) else if w=Xi then lnE 2 r else if w=Xj then lnE 4 r else if w=UT then Zdi r
 else if w=QA∨w=Q1∨w=QY then (match Xt r with
  | none=>(evZ,false)
  | some ns=>Yd w ns) else (evZ,false)
theorem ZgI:Zj Xs Ms Xx [] []=some (.own 0,[.row 1 (ZcN.map .str) true false]):=Zbi
theorem ZsC {w:List UInt8} {k:Nat} (h:∀ j x,j<k→ZcN[j]?=some x→x≠w) (hk:k≤6):∀ j,j<k→∃ x,ZcN[j]?=some x∧(x==w)=false∧(x != w)=true:=by
 intro j hj;obtain⟨x,hx⟩:∃ x,ZcN[j]?=some x:=⟨_,Kj (by show j<6;omega)⟩
 have:=h j x hj hx;exact⟨x,hx,by simpa using this,by simpa using this⟩
theorem ev_ix (w:List UInt8):∃ k:Nat,k≤6∧(∀ j,j<k→∃ x,ZcN[j]?=some x∧(x==w)=false∧(x != w)=true)∧(k<6→ZcN[k]?=some w):=by
 have hk:ZcN.findIdx (fun x=>x==w)≤6:=List.findIdx_le_length;refine⟨ZcN.findIdx fun x=>x==w,hk,ZsC (fun j x hj hx=>?_) hk,fun h=>?_⟩
 ·have:=List.not_of_lt_findIdx hj;obtain⟨h1,h2⟩:=Kb.1 hx;rw[h2] at this;simpa using this
 ·have:=List.findIdx_getElem (w:=h);rw[Kj h];simpa using this
theorem ZjR (r:List (List UInt8)) (h:r≠[]):rdE QA r=match Xt r with
  | none=>(evZ,false)
  | some ns=>Yd QA ns:=by
 unfold rdE;rw[Kf h,Kf (by decide),Kf (by decide),Kf (by decide),Ko (.inl rfl)]
theorem Zmh (r:List (List UInt8)) (h:r≠[]):rdE Q1 r=match Xt r with
  | none=>(evZ,false)
  | some ns=>Yd Q1 ns:=by
 unfold rdE;rw[Kf h,Kf (by decide),Kf (by decide),Kf (by decide),Ko (.inr (.inl rfl))]
theorem ZjS (r:List (List UInt8)) (h:r≠[]):rdE QY r=match Xt r with
  | none=>(evZ,false)
  | some ns=>Yd QY ns:=by
 unfold rdE;rw[Kf h,Kf (by decide),Kf (by decide),Kf (by decide),Ko (.inr (.inr rfl))]
theorem ZjT (r:List (List UInt8)) (h:r≠[]):rdE Xi r=lnE 2 r:=by
 unfold rdE;rw[Kf h,Ko rfl]
theorem ZoY (r:List (List UInt8)) (h:r≠[]):rdE Xj r=lnE 4 r:=by
 unfold rdE;rw[Kf h,Kf (by decide),Ko rfl]
theorem ZoZ (r:List (List UInt8)) (h:r≠[]):rdE UT r=Zdi r:=by
 unfold rdE;rw[Kf h,Kf (by decide),Kf (by decide),Ko rfl]
theorem rdE_no (w:List UInt8) (r:List (List UInt8)) (h:∀ x∈ZcN,x≠w):rdE w r=(evZ,false):=by
 have h0:=h QA (by simp[ZcN]);have h1:=h Q1 (by simp[ZcN]);have h2:=h Xi (by simp[ZcN]);have h3:=h UT (by simp[ZcN]);have h4:=h Xj (by simp[ZcN]);have h5:=h QY (by simp[ZcN]);unfold rdE;rw[Kf (Ne.symm h2),Kf (Ne.symm h4),Kf (Ne.symm h3),Kf (show ¬(w=QA∨w=Q1∨w=QY) from fun e=>e.elim (fun e=>h0 e.symm) fun e=>e.elim (fun e=>h1 e.symm) fun e=>h5 e.symm),ite_self]
theorem Zmi {ns:List Int} (h:ns.length≠3):Yd QA ns=(evZ,false):=by
 unfold Yd;split
 ·exact Kf (by decide)
 ·exact absurd rfl h
 ·exact Kf (by decide)
 ·rfl
theorem ZnJ {ns:List Int} (h:ns.length≠5):Yd Q1 ns=(evZ,false):=by
 unfold Yd;split
 ·exact Kf (by decide)
 ·exact Kf (by decide)
 ·exact absurd rfl h
 ·rfl
theorem Zmj {ns:List Int} (h:ns.length≠1):Yd QY ns=(evZ,false):=by
 unfold Yd;split
 ·exact absurd rfl h
 ·exact Kf (by decide)
 ·exact Kf (by decide)
 ·rfl
theorem Zcn:∀ {ws:List (List UInt8)} {ns:List Int},Xt ws=some ns→ns.length=ws.length
 | [],ns,h=>by cases h;rfl
 | w :: r,ns,h=>by
  simp only[Xt,KE] at h;obtain⟨v,_,vs,h2,h3⟩:=h;cases h3;simp[Zcn h2]
theorem Zhw (w:List UInt8) (r:List (List UInt8)) (hl:r.length≤1048576) (hw:∀ x∈r,x.length≤1048576) (eK eL eX eY eW eH am an:Int) (ao:Bool) (ap eC eo ea ep:Int) (et:Bool) (ek:List Ze) (ok:Bool) (hE:rdE w r=((Zw.mk eK eL (Box.mk eX eY eW eH) (QG.mk (Pane.mk am an ao ap) eC) (Ze.mk eo ea ep et ek)),ok)):Zj Xs Ms Vr [.d (.sl (.str w :: r.map .str))] []=some (.tup [.agg [(.d (J eK)),(.d (J eL)),(.d (J eX)),(.d (J eY)),(.d (J eW)),(.d (J eH)),(.d (J am)),(.d (J an)),(.d (.bool ao)),(.d (J ap)),(.d (J eC)),(.d (J eo)),(.d (J ea)),(.d (J ep)),(.d (.bool et)),.own 0],(.d (.bool ok))],[.row 5 (ek.map Ze.enc) true false]):=by
 have e0:=ZgI;obtain⟨K,hK,aq,ar⟩:=ev_ix w;refine cE ?_;simp +contextual -implicitDefEqProofs (maxSteps:=10^7) only[go_sem,seval,↓gZ,JM];refine LO (α:=Nat) (fun _=>[]) (fun j=>[(0,.box [(.d (J j)),(.d (J 0)),(.d (J 0)),(.d (J 0)),(.d (J 0)),(.d (J 0)),(.d (J 0)),(.d (J 0)),(.d (.bool false)),(.d (J 0)),(.d (J 0)),(.d (J 0)),(.d (J 0)),(.d (J 0)),(.d (.bool false)),.own 2])]) (fun j=>j≤K) (fun j=>K-j) 0 (by omega) ?_;intro j hj ih;by_cases au:j<K
 ·obtain⟨x,hx,hq,av⟩:=aq j au;have ak:(j:Int)<6:=by omega
  have ag : j<6:=by omega
  have w1:=ZM (k:=j) (by omega);simp +contextual -implicitDefEqProofs (maxSteps:=10^7) only[go_sem,seval,↓gZ,e0,Q5,ak,ag,hx,hq,av,w1];refine ih (j+1) _ (by omega) (by omega) ?_;simp +contextual -implicitDefEqProofs (maxSteps:=10^7) only[go_sem,seval,↓gZ]
 ·have aw:j=K:=by omega
  subst aw;clear ih;have ab:(w==w)=true:=by simp
  have aa : (w != w)=false:=by simp
  by_cases h6:j=6
  ·subst h6;rw[rdE_no w r fun x hx=>?_] at hE
   ·cases hE;simp +contextual -implicitDefEqProofs (maxSteps:=10^7) only[go_sem,seval,↓gZ,evZ]
   ·obtain⟨i,hi⟩:=LV.1 hx;obtain⟨ax,_⟩:=Kb.1 hi;obtain⟨y,hy,hq,_⟩:=aq i ax;rw[hi] at hy;cases hy;simpa using hq
  ·have hx:=ar (by omega);have ak:(j:Int)<6:=by omega
   have ag : j<6:=by omega
   have ay:¬(j:Int)=6:=by omega
   by_cases hr:r=[]
   ·subst hr;rw[show rdE w []=(evZ,false) from rfl] at hE;cases hE;simp only[Ku];simp +contextual -implicitDefEqProofs (maxSteps:=10^7) only[go_sem,seval,↓gZ,e0,Q5,ak,ag,hx,ab,aa,ay]
   ·have h2:1≤r.length:=by
     cases r with
     | nil=>exact absurd rfl hr
     | cons _ _=>simp
    have ad:¬((r.length+1:Nat):Int)<2:=by omega
    have ae:(1:Int)≤((r.length+1:Nat):Int):=by omega
    have hc:j=0∨j=1∨j=2∨j=3∨j=4∨j=5:=by omega
    have e1:=Zhv r (by omega) hw;have e2:=Zjo r hw;have hu:∀ x:List UInt8,uni 1 (.str x :: r.map D.str):=fun x y hy=>by
     rcases Ke.1 hy with rfl | hy
     ·rfl
     ·obtain⟨z,_,rfl⟩:=Le.1 hy;rfl
    have af:List.take r.length r=r:=KN;rcases hc with rfl | rfl | rfl | rfl | rfl | rfl
    ·obtain rfl:QA=w:=Option.some.inj hx;rw[ZjR r hr] at hE;cases hn:Xt r with
     | none=>
      rw[hn] at hE e1;simp only[rnV] at e1;cases hE;simp +contextual -implicitDefEqProofs (maxSteps:=10^7) only[go_sem,seval,↓gZ,e0,Q5,hx,ab,aa,ad,ae,hu,af,e1]
     | some ns=>
      have aj:=Zcn hn;rw[hn] at hE e1;replace hE:Yd QA ns=_:=hE;simp only[rnV] at e1;by_cases h3:ns.length=3
      ·obtain⟨l,a,b,rfl⟩:∃ l a b,ns=[l,a,b]:=by
        match ns,h3 with
        | [l,a,b],_=>exact⟨l,a,b,rfl⟩
       rw[show Yd QA [l,a,b]=(⟨0,l,⟨0,0,a,b⟩,ln0,BT.waste.plan⟩,true) from by simp[Yd]] at hE;cases hE;simp only[Ki,Ku,U8] at e1;simp +contextual -implicitDefEqProofs (maxSteps:=10^7) only[go_sem,seval,↓gZ,e0,Q5,hx,ab,aa,ad,ae,hu,af,e1]
       all_goals rfl
      ·rw[show Yd QA ns=_ from Zmi h3] at hE;cases hE;obtain⟨v,vs,rfl⟩:∃ v vs,ns=v :: vs:=by
        cases ns with
        | nil=>simp at aj;omega
        | cons v vs=>exact⟨v,vs,rfl⟩
       have ah : ¬((vs.length+1:Nat):Int)=3:=by simp only[Km] at h3;omega
       have hz:0<vs.length+1:=by omega
       have ai:¬vs.length+1=3:=by simp only[Km] at h3;omega
       simp +contextual -implicitDefEqProofs (maxSteps:=10^7) only[go_sem,seval,↓gZ,e0,Q5,hx,ab,aa,ad,ae,hu,af,e1,ah,ai,hz,Ki,U8,Km]
    ·obtain rfl:Q1=w:=Option.some.inj hx;rw[Zmh r hr] at hE;cases hn:Xt r with
     | none=>
      rw[hn] at hE e1;simp only[rnV] at e1;cases hE;simp +contextual -implicitDefEqProofs (maxSteps:=10^7) only[go_sem,seval,↓gZ,e0,Q5,hx,ab,aa,ad,ae,hu,af,e1]
     | some ns=>
      have aj:=Zcn hn;rw[hn] at hE e1;replace hE:Yd Q1 ns=_:=hE;simp only[rnV] at e1;by_cases h3:ns.length=5
      ·obtain⟨l,a,b,c,d,rfl⟩:∃ l a b c d,ns=[l,a,b,c,d]:=by
        match ns,h3 with
        | [l,a,b,c,d],_=>exact⟨l,a,b,c,d,rfl⟩
       rw[show Yd Q1 [l,a,b,c,d]=(⟨1,l,⟨a,b,c,d⟩,ln0,BT.waste.plan⟩,true) from by simp[Yd]] at hE;cases hE;simp only[Ki,Ku,U8] at e1;simp +contextual -implicitDefEqProofs (maxSteps:=10^7) only[go_sem,seval,↓gZ,e0,Q5,hx,ab,aa,ad,ae,hu,af,e1]
       all_goals rfl
      ·rw[show Yd Q1 ns=_ from ZnJ h3] at hE;cases hE;obtain⟨v,vs,rfl⟩:∃ v vs,ns=v :: vs:=by
        cases ns with
        | nil=>simp at aj;omega
        | cons v vs=>exact⟨v,vs,rfl⟩
       have ah : ¬((vs.length+1:Nat):Int)=5:=by simp only[Km] at h3;omega
       have hz:0<vs.length+1:=by omega
       have ai:¬vs.length+1=5:=by simp only[Km] at h3;omega
       simp +contextual -implicitDefEqProofs (maxSteps:=10^7) only[go_sem,seval,↓gZ,e0,Q5,hx,ab,aa,ad,ae,hu,af,e1,ah,ai,hz,Ki,U8,Km]
    ·obtain rfl:Xi=w:=Option.some.inj hx;rw[ZjT r hr] at hE;unfold lnE at hE;cases hn:lnS r with
     | none=>
      rw[hn] at hE e2;simp only[rlV] at e2;cases hE;simp +contextual -implicitDefEqProofs (maxSteps:=10^7) only[go_sem,seval,↓gZ,e0,Q5,hx,ab,aa,ad,ae,hu,af,e2]
     | some n=>
      obtain⟨⟨nW,nH,nT,nK⟩,nC⟩:=n;rw[hn] at hE e2;simp only[rlV,QG.enc] at e2;cases hE;simp +contextual -implicitDefEqProofs (maxSteps:=10^7) only[go_sem,seval,↓gZ,e0,Q5,hx,ab,aa,ad,ae,hu,af,e2]
      all_goals rfl
    ·obtain rfl:UT=w:=Option.some.inj hx;rw[ZoZ r hr] at hE;obtain⟨a,r,rfl⟩:∃ a r',r=a :: r':=by
      cases r with
      | nil=>exact absurd rfl hr
      | cons a r=>exact⟨a,r,rfl⟩
     have e3:=Xc a (hw a (by simp));by_cases h3:r.length=1
     ·obtain⟨b,rfl⟩:∃ b,r=[b]:=by
       match r,h3 with
       | [b],_=>exact⟨b,rfl⟩
      obtain⟨o,a',q,t,ks,e4,h4⟩:=Zho b (hw b (by simp));simp only[Zdi,← h4] at hE;cases hE;simp only[Ki,Ku];simp +contextual -implicitDefEqProofs (maxSteps:=10^7) only[go_sem,seval,↓gZ,e0,Q5,hx,ab,aa,e3,e4]
      all_goals rfl
     ·rw[show Zdi (a :: r)=(evZ,false) from ?_] at hE
      ·cases hE;have ah : ¬((r.length+1+1:Nat):Int)=3:=by omega
       have ai:¬r.length+1+1=3:=by omega
       have al : ¬((r.length+1+1:Nat):Int)<2:=by omega
       simp only[Ki];simp +contextual -implicitDefEqProofs (maxSteps:=10^7) only[go_sem,seval,↓gZ,e0,Q5,hx,ab,aa,al,e3,ah,ai,Km]
      ·unfold Zdi;split
       ·rename_i az;cases az;exact absurd rfl h3
       ·rfl
    ·obtain rfl:Xj=w:=Option.some.inj hx;rw[ZoY r hr] at hE;unfold lnE at hE;cases hn:lnS r with
     | none=>
      rw[hn] at hE e2;simp only[rlV] at e2;cases hE;simp +contextual -implicitDefEqProofs (maxSteps:=10^7) only[go_sem,seval,↓gZ,e0,Q5,hx,ab,aa,ad,ae,hu,af,e2]
     | some n=>
      obtain⟨⟨nW,nH,nT,nK⟩,nC⟩:=n;rw[hn] at hE e2;simp only[rlV,QG.enc] at e2;cases hE;simp +contextual -implicitDefEqProofs (maxSteps:=10^7) only[go_sem,seval,↓gZ,e0,Q5,hx,ab,aa,ad,ae,hu,af,e2]
      all_goals rfl
    ·obtain rfl:QY=w:=Option.some.inj hx;rw[ZjS r hr] at hE;cases hn:Xt r with
     | none=>
      rw[hn] at hE e1;simp only[rnV] at e1;cases hE;simp +contextual -implicitDefEqProofs (maxSteps:=10^7) only[go_sem,seval,↓gZ,e0,Q5,hx,ab,aa,ad,ae,hu,af,e1]
     | some ns=>
      have aj:=Zcn hn;rw[hn] at hE e1;replace hE:Yd QY ns=_:=hE;simp only[rnV] at e1;by_cases h3:ns.length=1
      ·obtain⟨l,rfl⟩:∃ l,ns=[l]:=by
        match ns,h3 with
        | [l],_=>exact⟨l,rfl⟩
       rw[show Yd QY [l]=(⟨5,l,bx0,ln0,BT.waste.plan⟩,true) from by simp[Yd]] at hE;cases hE;simp only[Ki,Ku,U8] at e1;simp +contextual -implicitDefEqProofs (maxSteps:=10^7) only[go_sem,seval,↓gZ,e0,Q5,hx,ab,aa,ad,ae,hu,af,e1]
       all_goals rfl
      ·rw[show Yd QY ns=_ from Zmj h3] at hE;cases hE;obtain⟨v,vs,rfl⟩:∃ v vs,ns=v :: vs:=by
        cases ns with
        | nil=>simp at aj;omega
        | cons v vs=>exact⟨v,vs,rfl⟩
       have ah : ¬((vs.length+1:Nat):Int)=1:=by simp only[Km] at h3;omega
       have hz:0<vs.length+1:=by omega
       have ai:¬vs.length+1=1:=by simp only[Km] at h3;omega
       simp +contextual -implicitDefEqProofs (maxSteps:=10^7) only[go_sem,seval,↓gZ,e0,Q5,hx,ab,aa,ad,ae,hu,af,e1,ah,ai,hz,Ki,U8,Km]
theorem Zrk {w:List UInt8} {r:List (List UInt8)} {e:Zw} {v:Ev} (h:rdE w r=(e,true)) (hv:Js e=some v):v.ev=e:=by
 have aa:∀ n∈Yy e,six n:=Classical.byContradiction fun h=>by rw[Zd2 h] at hv;cases hv
 obtain⟨b,hb,ab⟩:∃ b,QV e.plan=some b∧Ze4 b:=Classical.byContradiction fun h=>by
  rw[Zbx (e:=e) fun b hb hp=>h ⟨b,hb,hp⟩] at hv;cases hv
 rw[Yv aa hb ab] at hv;simp only[Yy,Ke,KI,or_false,forall_eq_or_imp,forall_eq] at aa;obtain⟨n1,n2,n3,n4,n5,n6,n7,n8,n9,ad⟩:=aa;simp only[six] at n2 n3 n4 n5 n6;unfold rdE at h;split at h
 ·cases h
 split at h
 ·unfold lnE at h;split at h
  ·cases h;simp[XE] at hv;rw[← hv];rfl
  ·cases h
 split at h
 ·unfold lnE at h;split at h
  ·cases h;simp[XE] at hv;rw[← hv];rfl
  ·cases h
 split at h
 ·unfold Zdi at h;split at h
  ·rename_i p;obtain⟨rfl,hs⟩:=Prod.mk.inj h;simp only[XK,Option.some.injEq] at hb;subst hb;simp[XE] at hv;simp only at n2;rw[← hv];simp only[Ev.ev,KD n2.1]
  ·cases h
 split at h
 ·split at h
  ·cases h
  ·unfold Yd at h;split at h
   ·split at h
    ·cases h;simp[XE] at hv;simp only at n2;rw[← hv];simp only[Ev.ev,KD n2.1]
    ·cases h
   ·split at h
    ·cases h;simp[XE] at hv;simp only at n2 n5 n6;rw[← hv];simp only[Ev.ev,KD n2.1,KD n5.1,KD n6.1]
    ·cases h
   ·split at h
    ·cases h;simp[XE] at hv;simp only at n2 n3 n4 n5 n6;rw[← hv];simp only[Ev.ev,KD n2.1,KD n3.1,KD n4.1,KD n5.1,KD n6.1]
    ·cases h
   ·cases h
 ·cases h
theorem Ze6 {ns:List Nat} (h:∀ n∈ns,n≤999999):Xt (ns.map num)=some (ns.map fun n:Nat=>(n:Int)):=by
 rw[Zdh,UU h];rfl
theorem Zrl {b:BT} (h:Ze4 b):J5 (shw b)=some b:=Zcm.2 ⟨h.2.2,rfl,h.1,h.2.1⟩
theorem ZpR {v:Ev} (h:v.ok):∃ w r,v.words=w :: r∧rdE w r=(v.ev,true):=by
 cases v with
 | sheet l a b=>
  obtain⟨h1,h2,h3⟩:=h;refine⟨_,_,rfl,?_⟩;rw[ZjR _ (by simp),show [num l,num a,num b]=[l,a,b].map num from rfl,Ze6 (by simp[h1,h2,h3])];simp[Yd,Ev.ev]
 | flaw l x y a b=>
  obtain⟨h1,h2,h3,h4,h5⟩:=h;refine⟨_,_,rfl,?_⟩;rw[Zmh _ (by simp),show [num l,num x,num y,num a,num b]=[l,x,y,a,b].map num from rfl,Ze6 (by simp[h1,h2,h3,h4,h5])];simp[Yd,Ev.ev]
 | order n=>
  refine⟨_,_,rfl,?_⟩;rw[ZjT _ (by simp[YC])];unfold lnE;rw[Zmc (ZaD h)];rfl
 | cut l b=>
  obtain⟨h1,h2⟩:=h;refine⟨_,_,rfl,?_⟩;rw[ZoZ _ (by simp)];simp only[Zdi,Zrl h2,WX (UP h1)];rfl
 | brk n=>
  refine⟨_,_,rfl,?_⟩;rw[ZoY _ (by simp[YC])];unfold lnE;rw[Zmc (ZaD h)];rfl
 | scrap l=>
  have h1:l≤999999:=h;refine⟨_,_,rfl,?_⟩;rw[ZjS _ (by simp),show [num l]=[l].map num from rfl,Ze6 (by simp[h1])];simp[Yd,Ev.ev]
theorem Zmk {s w:List UInt8} {r:List (List UInt8)} {v:Ev} (hs:Zt 32 s=w :: r) (h:Zac s=some v):rdE w r=(v.ev,true):=by
 obtain⟨rfl,ho⟩:=UJ.1 h;obtain⟨w',r',h1,h2⟩:=ZpR ho;rw[Ev.text,Zdb (Zmd v) (ZoX v),h1] at hs;obtain⟨rfl,rfl⟩:=List.cons.inj hs;exact h2
theorem ZgJ (s:List UInt8) (hs:s.length≤1048576):PeR (Zj Xs Ms YQ [.d (.str s)] []) (Zac s):=by
 have e1:=Zd0 s 32 32 rfl hs;obtain⟨w,r,ad⟩:∃ w r,Zt 32 s=w :: r:=by
  cases h:Zt 32 s with
  | nil=>exact absurd h (Y7 32 s)
  | cons w r=>exact⟨w,r,rfl⟩
 have af:=Zdf 32 s;have ag:=J9 32 s;have ai:s.count 32≤s.length:=L0;rw[ad] at e1 af ag;simp only[Km] at ag;simp only[Ki] at e1;obtain⟨⟨⟨K,L,⟨X,Y,W,H⟩,⟨⟨pW,pH,pT,pK⟩,C⟩,⟨o,a,q,t,ks⟩⟩,ok⟩,hE⟩:∃ x,rdE w r=x:=⟨_,rfl⟩
 have e2:=Zhw w r (by omega) (fun x hx=>by have:=af x (by simp[hx]);omega) K L X Y W H pW pH pT pK C o a q t ks ok hE;have aa:(∀ v,Zac s=some v→False)→Zac s=none:=fun h=>by
  cases hp:Zac s with
  | none=>rfl
  | some v=>exact absurd (h v hp) id
 cases ok with
 | false=>
  rw[aa fun v h=>by rw[Zmk ad h] at hE;exact absurd (Prod.mk.inj hE).2 (by simp)];refine ZnI ?_;refine cE ?_;simp +contextual -implicitDefEqProofs (maxSteps:=10^7) only[go_sem,seval,↓gZ,X5,e1,e2]
 | true=>
  have e3:=ZcM K L X Y W H pW pH pT pK C o a q t ks;have ab:∀ v,Zac s=some v→Js ⟨K,L,⟨X,Y,W,H⟩,⟨⟨pW,pH,pT,pK⟩,C⟩,.mk o a q t ks⟩=some v∧v.text=s:=fun v h=>by
   have h1:=Zmk ad h;rw[hE] at h1;obtain⟨h2,h3⟩:=UJ.1 h;rw[(Prod.mk.inj h1).1];exact⟨ZsA h3,h2.symm⟩
  cases hv:Js ⟨K,L,⟨X,Y,W,H⟩,⟨⟨pW,pH,pT,pK⟩,C⟩,.mk o a q t ks⟩ with
  | none=>
   rw[aa fun v h=>by rw[(ab v h).1] at hv;cases hv];rw[hv,Ky] at e3;refine ZnI ?_;refine cE ?_;simp +contextual -implicitDefEqProofs (maxSteps:=10^7) only[go_sem,seval,↓gZ,X5,e1,e2,e3]
  | some v=>
   have e4:=Zht K L X Y W H pW pH pT pK C o a q t ks v hv;rw[hv,L9] at e3;by_cases ht:v.text=s
   ·have ah:=(ZsB hv).1;rw[UJ.2 ⟨ht.symm,ah⟩];rw[ht] at e4;have ae:(s != s)=false:=by simp
    refine⟨K,L,X,Y,W,H,pW,pH,pT,pK,C,o,a,q,t,ks,?_,(Zrk hE hv).symm⟩;refine cE ?_;simp +contextual -implicitDefEqProofs (maxSteps:=10^7) only[go_sem,seval,↓gZ,X5,e1,e2,e3,e4,ae]
    all_goals rfl
   ·have ae:(v.text==s)=false:=by simp[ht]
    rw[aa fun v' h=>ht (by obtain⟨h1,h2⟩:=ab v' h;rw[hv] at h1;cases h1;exact h2)];refine ZnI ?_;refine cE ?_;simp +contextual -implicitDefEqProofs (maxSteps:=10^7) only[go_sem,seval,↓gZ,X5,e1,e2,e3,e4,ae]
end Go.Proofs.YtgpiffflfkoocaaDoor
