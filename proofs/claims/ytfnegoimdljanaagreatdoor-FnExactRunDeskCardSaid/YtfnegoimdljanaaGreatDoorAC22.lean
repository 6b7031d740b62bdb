/- Own text. -/
import Derived.Test.YtfnegoimdljanaaGreatDoorACode
import Derived.Test.YtfnegoimdljanaaGreatDoorAC1
import Derived.Test.YtfnegoimdljanaaGreatDoorAC13
import Derived.Test.YtfnegoimdljanaaGreatDoorAbsOkD
import Derived.Test.YtfnegoimdljanaaGreatDoorAC10
import Derived.Test.YtfnegoimdljanaaGreatDoorAC20
namespace Go.Proofs.YtfnegoimdljanaaGreatDoor
open Go Go.Abs Go.Abs.E Go.Abs.L
set_option linter.unusedSimpArgs false
set_option linter.unusedVariables false
set_option maxRecDepth 20000
set_option maxHeartbeats 4000000
theorem Zdy (p:Pane) (c:Int):∀ (l:List Zc),Qp (YB p c l)=Qp l+c
 | []=>by simp[YB,Qp]
 | x :: l=>by
  unfold YB;split
  ·simp only[Qp];omega
  ·simp only[Qp,Zdy p c l];omega
theorem Zzb:∀ {l:List Zc} {a:Nat} {x y:Zc},l[a]?=some x→Qp (l.set a y)=Qp l-x.Count+y.Count
 | [],a,x,y,h=>by simp at h
 | z :: l,0,x,y,h=>by
  simp only[KX,Option.some.injEq] at h;subst h;simp only[Kah,Qp];omega
 | z :: l,a+1,x,y,h=>by
  simp only[KY] at h;simp only[Kaj,Qp,Zzb h];omega
theorem Zry:∀ {l:List Zc} {a:Nat} {x:Zc},l[a]?=some x→Qp (l.eraseIdx a)=Qp l-x.Count
 | [],a,x,h=>by simp at h
 | z :: l,0,x,h=>by
  simp only[KX,Option.some.injEq] at h;subst h;simp only[List.eraseIdx_cons_zero,Qp];omega
 | z :: l,a+1,x,h=>by
  simp only[KY] at h;simp only[List.eraseIdx_cons_succ,Qp,Zry h];omega
theorem Zrz {l:List Zc} {p:Pane} {c:Int} (hu:UL l) (h:Xr p c false l=true):Qp (XY l p c)=Qp l-c:=by
 by_cases hf:Vw 0 l p<0
 ·rw[ZjK (Zl1 hf)] at h;cases h
 ·obtain⟨a,x,h1,h2,h3,h4⟩:=ZjJ (by omega:0≤Vw 0 l p);obtain⟨k1,k2⟩:=Zq9 (c:=c) hu h2 h3;rw[k1,Ko] at h;rw[k2];split
  ·rw[Zzb h2];simp only;omega
  ·rw[Zry h2];omega
theorem ZnK:∀ {ps:List Pane} {us:List Int} {o d o' d' : List Zc},us.length=ps.length→Vi ps us o d=some (o',d')→UL o→(∀ v∈us,0≤v) →
  Qp o'+Qp d'=Qp o+Qp d∧Qp d≤Qp d'∧((∃ v∈us,v≠0)→Qp d<Qp d')
 | [],us,o,d,o',d',hl,h,hu,hv=>by
  cases us with
  | nil=>unfold Vi at h;cases h;simp
  | cons c us=>simp at hl
 | p :: ps,[],o,d,o',d',hl,h,hu,hv=>by simp at hl
 | p :: ps,c :: us,o,d,o',d',hl,h,hu,hv=>by
  rw[Vi] at h;simp only[Kl,Nat.add_right_cancel_iff] at hl;have hc:=hv c (by simp);split at h
  ·rename_i h0;obtain⟨a,b,e⟩:=ZnK hl h hu (fun v h=>hv v (by simp[h]));refine⟨a,b,fun ⟨v,hm,hn⟩=>?_⟩;rcases Ke.1 hm with rfl | hm
   ·exact absurd h0 hn
   ·exact e ⟨v,hm,hn⟩
  ·rename_i h0;split at h
   ·rename_i ht;obtain⟨a,b,e⟩:=ZnK hl h (Zra hu) (fun v h=>hv v (by simp[h]));rw[Zrz hu ht,Zdy] at a;rw[Zdy] at b;exact⟨by omega,by omega,fun _=>by omega⟩
   ·cases h
structure AFacts (s:Zq) (e:Zn) (t:Zq):Prop where
 vs:ZK t
 came:t.Came=s.Came+(if e.kind=0 then e.box.W*e.box.H else 0)
 lost:s.Lost≤t.Lost
 cnt:Qp t.Opn+Qp t.Done=Qp s.Opn+Qp s.Done+(if e.kind=2 then e.line.Count else 0)
 lt:Qp t.Done<Qp s.Done↔e.kind=4
 gt:Qp s.Done<Qp t.Done↔e.kind=3
 sheet:e.kind=0→VC ⟨e.label,e.box.W,e.box.H,[]⟩ s.Stock∧e.box.X=0∧e.box.Y=0∧t = { s with Stock:=QC ⟨e.label,e.box.W,e.box.H,[]⟩ s.Stock,Came:=s.Came+e.box.W*e.box.H }
 ord:e.kind=2→VT e.line
theorem Zzc {s t:Zq} {e:Zn} (h:Qt s e=some t):evS s e=some t∧ZK t:=by
 have hv:=ZgY h;unfold Qt Y0 at h;split at h
 ·split at h
  ·cases h;exact⟨by assumption,hv⟩
  ·cases h
 ·cases h
theorem ZBh {s t:Zq} {e:Zn} (hs:ZK s) (h:Qt s e=some t):AFacts s e t:=by
 obtain⟨h,hv⟩:=Zzc h;unfold evS at h;split at h
 ·rename_i k;split at h
  ·rename_i hr;cases h;exact⟨hv,by simp[k],Kag _,by simp[k],by simp[k],by simp[k],fun _=>⟨hr.1.1,hr.1.2,hr.2,rfl⟩,fun h=>by omega⟩
  ·cases h
 ·rename_i k0;split at h
  ·rename_i k;split at h
   ·cases h
   ·split at h
    ·cases h;exact⟨hv,by simp[k],Kag _,by simp[k],by simp[k],by simp[k],fun h=>absurd h k0,fun h=>by omega⟩
    ·cases h
  ·rename_i k1;split at h
   ·rename_i k;split at h
    ·cases h
    ·rename_i a q hq;cases h;have ae:q∈s.Stock:=by
      unfold Zzx at hq;split at hq
      ·obtain⟨x,hx,e⟩:=Option.map_eq_some_iff.1 hq;cases e;exact Kc hx
      ·cases hq
     have af:=(ZW hs.1.2 q ae).1;have:=Jy (b:=⟨0,0,q.W,q.H⟩) (by simp only[VB];omega);simp only at this;exact⟨hv,by simp[k],by simp only;omega,by simp[k],by simp[k],by simp[k],fun h=>absurd h k0,fun h=>by omega⟩
   ·rename_i k5;split at h
    ·rename_i k;split at h
     ·rename_i hl;cases h;have hc:=hl.2;refine⟨hv,by simp[k],Kag _,?_,by simp[k],by simp[k],fun h=>absurd h k0,fun _=>hl⟩;simp only[Zdy,k,Km];omega
     ·cases h
    ·rename_i k2;split at h
     ·rename_i k;split at h
      ·rename_i hl;cases h;have hc:=hl.1.2;have ha:=ZdA hl.1;have h1:=Zrz (ZgP hs.2.2.1) hl.2;refine⟨hv,by simp[k],by simp only;omega,?_,?_,?_,fun h=>absurd h k0,fun h=>absurd h k2⟩
       ·simp only[Zdy,h1,k];simp;omega
       ·simp only[h1,k,iff_true];omega
       ·simp only[h1,k];omega
      ·cases h
     ·rename_i k4;split at h
      ·rename_i k;unfold ZeG at h;split at h
       ·cases h
       ·rename_i x hx;split at h
        ·cases h
        ·rename_i R hR;obtain⟨ab,_,_⟩:=Zmp hR;split at h
         ·rename_i hp;split at h
          ·cases h
          ·rename_i o d hg;cases h;have hu:=ZeO ab;have ad:=ZvC ab hp;obtain⟨a,b,c⟩:=ZnK (by rw[hu.1]) hg (ZgP hs.2.1) (fun v h=>(hu.2 v h).1);have c:=c ad;have ag:=Zgc (l:=ZeK ⟨x.W,x.H,s.Opn.map Zc.Pane⟩ e.plan 5) (fun c hc=>by
            obtain⟨z,hz,aa⟩:=Lw.1 hc;unfold UB at aa;split at aa
            ·cases aa;exact Zdw ab c hz
            ·cases aa)
           refine⟨hv,by simp[k],by simp only;omega,?_,?_,?_,fun h=>absurd h k0,fun h=>absurd h k2⟩
           ·simp only[k];simp;omega
           ·simp only[k];omega
           ·simp only[k,iff_true];omega
         ·cases h
      ·cases h
theorem Zkr (sS:List Zb) (sO sD:List Zc) (sL sC:Int) (eK eL eX eY eW eH aa ab:Int) (ad:Bool) (ae eC eo ea ep:Int) (et:Bool) (ek:List Ze) (hs:SmS (Zq.mk sS sO sD sL sC)) (hk:eK=0) (hW:R64 eW) (hH:R64 eH) (hn:¬VC ⟨eL,eW,eH,[]⟩ sS):∃ c:Int,Zd Xs Ms 100 [(.d (.agg [.sl (sS.map Zb.enc),.sl (sO.map Zc.enc),.sl (sD.map Zc.enc),J sL,J sC])),(.d (.agg [J eK,J eL,J eX,J eY,J eW,J eH,J aa,J ab,.bool ad,J ae,J eC,J eo,J ea,J ep,.bool et,.sl (ek.map Ze.enc)]))] [] =
  some (.tup [.agg [.own 0,.d (.sl (sO.map Zc.enc)),.d (.sl (sD.map Zc.enc)),(.d (J sL)),(.d (J c))],(.d (.bool false))],[.row 4 [] true false]):=by
 obtain⟨⟨h1,h2,h3,h4⟩,h5,h6,h7,h8,h9⟩:=hs;simp only at h1 h2 h3 h4 h5 h6 h7 h8 h9;subst hk;have e1:=XX sS eL (by omega);have e2:=ZfA sS eL eW eH [] h5 h2 ⟨by simp,hW,hH⟩;simp only[Ks] at e2;rw[Kj hn,Kd hn] at e2;simp only[Ks] at e2;refine⟨IntKind.i64.wrap (sC+IntKind.i64.wrap (eW*eH)),?_⟩;refine cE ?_;simp +contextual -implicitDefEqProofs (maxSteps:=10^7) only[go_sem,seval,Xx,e1,e2]
theorem ZnL (sS:List Zb) (sO sD:List Zc) (sL sC:Int) (eK eL eX eY eW eH aa ab:Int) (ad:Bool) (ae eC eo ea ep:Int) (et:Bool) (ek:List Ze) (hv:ZK (Zq.mk sS sO sD sL sC)) (hW:R64 eW) (hH:R64 eH):Zd Xs Ms 52 [(.d (.agg [.sl (sS.map Zb.enc),.sl (sO.map Zc.enc),.sl (sD.map Zc.enc),J sL,J sC])),(.d (.agg [J eK,J eL,J eX,J eY,J eW,J eH,J aa,J ab,.bool ad,J ae,J eC,J eo,J ea,J ep,.bool et,.sl (ek.map Ze.enc)]))] []=some (shV (Qt (Zq.mk sS sO sD sL sC) (Zn.mk eK eL (Box.mk eX eY eW eH) (Zc.mk (Pane.mk aa ab ad ae) eC) (Ze.mk eo ea ep et ek)))):=by
 by_cases k0:eK=0
 ·by_cases ha:VC ⟨eL,eW,eH,[]⟩ sS
  ·have hp:=ha.1.2.1;simp only at hp;exact Zig sS sO sD sL sC eK eL eX eY eW eH aa ab ad ae eC eo ea ep et ek hv (fun _=>by unfold I5;omega) (fun _=>by unfold I5;omega)
  ·obtain⟨c,af⟩:=Zkr sS sO sD sL sC eK eL eX eY eW eH aa ab ad ae eC eo ea ep et ek (ZjR hv) k0 hW hH ha;rw[k0] at af;have ee:Qt (Zq.mk sS sO sD sL sC) (Zn.mk eK eL (Box.mk eX eY eW eH) (Zc.mk (Pane.mk aa ab ad ae) eC) (Ze.mk eo ea ep et ek))=none:=by unfold Qt evS;simp only[k0,Km];rw[Kd (fun h=>ha h.1.1)];rfl
   rw[ee];unfold shV;refine cE ?_;simp +contextual -implicitDefEqProofs (maxSteps:=10^7) only[go_sem,seval,Zx,k0,af]
 ·exact Zig sS sO sD sL sC eK eL eX eY eW eH aa ab ad ae eC eo ea ep et ek hv (fun h=>absurd h k0) (fun h=>absurd h k0)
def runL:Zq→List Zn→Option Zq
 | s,[]=>some s
 | s,e :: l=>match Qt s e with
  | some t=>runL t l
  | none=>none
def Zmf (l:List Zn):Option Zq:=if l.length≤40 then runL ⟨[],[],[],0,0⟩ l else none
theorem ZvN {s:Zq} {l:List Zn} {k:Nat} {e:Zn} (hx:l[k]?=some e):runL s (l.drop k)=match Qt s e with
  | some t=>runL t (l.drop (k+1))
  | none=>none:=by
 obtain⟨h1,h2⟩:=Kb.1 hx;rw[Ku h1,h2,runL]
theorem Zzd {s:Zq} {l:List Zn}:runL s (l.drop l.length)=some s:=by simp[runL]
theorem ZrA:∀ {l:List Zn} {s t:Zq},ZK s→runL s l=some t→ZK t
 | [],s,t,hv,h=>by cases h;exact hv
 | e :: l,s,t,hv,h=>by
  unfold runL at h;cases ha:Qt s e with
  | none=>rw[ha] at h;cases h
  | some u=>rw[ha] at h;exact ZrA (ZgY ha) h
def shO (r:Option Zq) (x:AV×List Zm):Prop:=match r with
 | none=>x=shT none
 | some s=>∃ o,Tr4 s.Stock o∧x=(.tup [.agg [.own 0,.own 1,.own 2,(.d (J (s.Lost))),(.d (J (s.Came)))],(.d (.bool true))],[o,.row 5 (s.Opn.map Zc.enc) true false,.row 5 (s.Done.map Zc.enc) true false])
def stO (b:Bool) (S:List Zb):Zm:=if b=true then .tree 4 4 (S.map Zb.enc) none else .row 4 [] true false
theorem Zze (S:List Zb):stO true S=.tree 4 4 (S.map Zb.enc) none:=rfl
theorem ZFg (S:List Zb):stO false S=.row 4 [] true false:=rfl
theorem Zxn (l:List Zn) (hl:l.length≤1048576):∃ r,Zd Xs Ms 13 [(.d (.sl (l.map Zn.enc)))] []=some r∧shO (Zmf l) r:=by
 by_cases ab:(40:Int)<(l.length:Int)
 ·have hr:Zmf l=none:=by unfold Zmf;rw[Kd (by omega)]
  rw[hr];unfold shO;refine cW ?_;simp +contextual -implicitDefEqProofs (maxSteps:=10^7) only[go_sem,seval,Zfb,ab,shT]
 ·have hr:Zmf l=runL ⟨[],[],[],0,0⟩ l:=by unfold Zmf;rw[Kg (by omega)]
  rw[hr];refine cW ?_;simp +contextual -implicitDefEqProofs (maxSteps:=10^7) only[go_sem,seval,Zfb,ab];refine LO (α:=Nat×Bool×Zq) (fun s=>[(15,.d (J (s.1:Int)))]) (fun s=>[(0,.box [.own 2,.own 3,.own 4,(.d (J (s.2.2.Lost))),(.d (J (s.2.2.Came)))]),(2,stO s.2.1 s.2.2.Stock),(3,.row 5 (s.2.2.Opn.map Zc.enc) true false),(4,.row 5 (s.2.2.Done.map Zc.enc) true false)]) (fun s=>s.1≤l.length∧ZK s.2.2∧(s.2.1=false→s.2.2.Stock=[])∧runL s.2.2 (l.drop s.1)=runL ⟨[],[],[],0,0⟩ l) (fun s=>l.length-s.1) (0,false,⟨[],[],[],0,0⟩) ⟨by simp,Zlh,by simp,by simp⟩ ?_;intro⟨i,b,⟨S,O,D,L,C⟩⟩ ⟨hi,hv,hb,hp⟩ ih;simp only at hi hv hb hp
  by_cases aa:i<l.length
  ·obtain⟨e,he⟩:=Zp aa;have hw:=Zg (k:=i) (by omega);rw[ZvN he] at hp;obtain⟨K,Lb,⟨X,Y,W,H⟩,⟨⟨pW,pH,pT,pK⟩,Ct⟩,⟨o,a,q,t,ks⟩⟩:=e;have ea:=Zcd S O D L C K Lb X Y W H pW pH pT pK Ct o a q t ks;rw[Kg hv] at ea;cases hap:Qt ⟨S,O,D,L,C⟩ ⟨K,Lb,⟨X,Y,W,H⟩,⟨⟨pW,pH,pT,pK⟩,Ct⟩,.mk o a q t ks⟩ with
   | none=>
    rw[hap] at ea hp;simp only at hp;unfold shT at ea;rw[← hp];cases b with
    | true=>simp +contextual -implicitDefEqProofs only[go_sem,seval,aa,he,hw,ea,shO,shT,Zze]
    | false=>
     have hS:=hb rfl;subst hS;simp only[Ks] at ea;simp +contextual -implicitDefEqProofs only[go_sem,seval,aa,he,hw,ea,shO,shT,ZFg]
   | some u=>
    have ad:=ZgY hap;rw[hap] at ea hp;simp only at hp;obtain⟨S',O',D',L',C'⟩:=u;unfold shT at ea;simp only at ea;cases b with
    | true=>
     simp +contextual -implicitDefEqProofs only[go_sem,seval,aa,he,hw,ea,Zze];refine ih (i+1,true,⟨S',O',D',L',C'⟩) _ ⟨by simp only;omega,ad,by simp,hp⟩ (by simp only;omega) ?_;simp +contextual -implicitDefEqProofs only[go_sem,seval,Zze]
    | false=>
     have hS:=hb rfl;subst hS;simp only[Ks] at ea;simp +contextual -implicitDefEqProofs only[go_sem,seval,aa,he,hw,ea,ZFg];refine ih (i+1,true,⟨S',O',D',L',C'⟩) _ ⟨by simp only;omega,ad,by simp,hp⟩ (by simp only;omega) ?_;simp +contextual -implicitDefEqProofs only[go_sem,seval,Zze]
  ·have:i=l.length:=by omega
   subst this;rw[Zzd] at hp;rw[← hp];cases b with
   | true=>
    simp +contextual -implicitDefEqProofs only[go_sem,seval,Zze,shO];exact⟨_,.inl rfl,rfl⟩
   | false=>
    have hS:=hb rfl;subst hS;simp +contextual -implicitDefEqProofs only[go_sem,seval,ZFg,shO];exact⟨_,.inr ⟨rfl,rfl⟩,rfl⟩
theorem Zxo (l:List Zn) (hl:l.length≤1048576) (hE:∀ e∈l,R64 e.box.W∧R64 e.box.H):Zd Xs Ms 25 [(.d (.sl (l.map Zn.enc)))] []=some (shV (runL ⟨[],[],[],0,0⟩ l)):=by
 refine cE ?_;simp +contextual -implicitDefEqProofs (maxSteps:=10^7) only[go_sem,seval,ZiS];refine LO (α:=Nat×Zq) (fun s=>[(5,.d (J (s.1:Int)))]) (fun s=>[(0,.box [.own 2,.own 3,.own 4,(.d (J (s.2.Lost))),(.d (J (s.2.Came)))]),(2,.row 4 (s.2.Stock.map Zb.enc) true false),(3,.row 5 (s.2.Opn.map Zc.enc) true false),(4,.row 5 (s.2.Done.map Zc.enc) true false)]) (fun s=>s.1≤l.length∧ZK s.2∧runL s.2 (l.drop s.1)=runL ⟨[],[],[],0,0⟩ l) (fun s=>l.length-s.1) (0,⟨[],[],[],0,0⟩) ⟨by simp,Zlh,by simp⟩ ?_;intro⟨i,⟨S,O,D,L,C⟩⟩ ⟨hi,hv,hp⟩ ih;simp only at hi hv hp;by_cases aa:i<l.length
 ·obtain⟨e,he⟩:=Zp aa;have hw:=Zg (k:=i) (by omega);have ab:=hE e (Kc he);rw[ZvN he] at hp;obtain⟨K,Lb,⟨X,Y,W,H⟩,⟨⟨pW,pH,pT,pK⟩,Ct⟩,⟨o,a,q,t,ks⟩⟩:=e;have ea:=ZnL S O D L C K Lb X Y W H pW pH pT pK Ct o a q t ks hv ab.1 ab.2;cases hap:Qt ⟨S,O,D,L,C⟩ ⟨K,Lb,⟨X,Y,W,H⟩,⟨⟨pW,pH,pT,pK⟩,Ct⟩,.mk o a q t ks⟩ with
  | none=>
   rw[hap] at ea hp;simp only at hp;unfold shV at ea;rw[← hp];unfold shV;simp +contextual -implicitDefEqProofs only[go_sem,seval,aa,he,hw,ea]
  | some u=>
   have ad:=ZgY hap;rw[hap] at ea hp;simp only at hp;obtain⟨S',O',D',L',C'⟩:=u;unfold shV at ea;simp only at ea;simp +contextual -implicitDefEqProofs only[go_sem,seval,aa,he,hw,ea];refine ih (i+1,⟨S',O',D',L',C'⟩) _ ⟨by simp only;omega,ad,hp⟩ (by simp only;omega) ?_;simp +contextual -implicitDefEqProofs only[go_sem,seval]
 ·have:i=l.length:=by omega
  subst this;rw[Zzd] at hp;rw[← hp];unfold shV;simp +contextual -implicitDefEqProofs only[go_sem,seval]
end Go.Proofs.YtfnegoimdljanaaGreatDoor
namespace Go.Proofs.YtfnegoimdljanaaGreatDoor
open Go Go.Abs Go.Abs.E Go.Abs.L
set_option linter.unusedSimpArgs false
set_option linter.unusedVariables false
set_option maxRecDepth 20000
set_option maxHeartbeats 4000000
theorem UU (qL qW qH:Int) (qF:List Box) (w h:Int) (hq:VPc (Zb.mk qL qW qH qF)) (hw:1≤w∧w≤200) (hh:1≤h∧h≤200):Zd Xs Ms 84 [(.d (.agg [J qL,J qW,J qH,.sl (qF.map Box.enc)])),(.d (J w)),(.d (J h))] []=some (fcV (Xk (Zb.mk qL qW qH qF) w h)):=by
 have e0:=Q9 qL qW qH qF;rw[Kh hq] at e0;have hF:∀ f∈qF,VB f:=fun f hf=>(hq.2 f hf).1;obtain⟨_,_,af,ag,ah,ai,aj⟩:=hq.1;simp only at af ag ah ai aj;clear hq;have n1:¬w<1:=by omega
 have n2:¬(200:Int)<w:=by omega
 have n3:¬h<1:=by omega
 have n4:¬(200:Int)<h:=by omega
 unfold Xk;simp only;refine cE ?_;simp +contextual -implicitDefEqProofs (maxSteps:=10^7) only[go_sem,seval,Zd6,e0,n1,n2,n3,n4];refine LO (α:=Nat) (fun y=>[(8,.d (J (y:Int)))]) (fun _=>[]) (fun y=>(y:Int)≤qH∧ZrU qF qW qH w h (qH.toNat+1-y) y=ZrU qF qW qH w h (qH.toNat+1) 0) (fun y=>qH.toNat+1-y) 0 ⟨by omega,by simp⟩ ?_;intro y ⟨hy,hp⟩ ih;obtain⟨n,hn⟩:∃ n,qH.toNat+1-y=n+1:=⟨qH.toNat-y,by omega⟩
 rw[hn,ZrU] at hp;have wy:=wi ((y:Int)+h) (by omega) (by omega);by_cases ad:(y:Int)+h≤qH
 ·rw[Kg ad] at hp;simp +contextual -implicitDefEqProofs only[go_sem,seval,wy,ad];refine XR Xs Ms (st0:=?st1) (α:=Nat) (fun x=>[(9,.d (J (x:Int)))]) (fun _=>[]) (fun x=>(x:Int)≤qW∧ZrT qF qW w h y (qW.toNat+1-x) x=ZrT qF qW w h y (qW.toNat+1) 0) (fun x=>qW.toNat+1-x) 0 ?hc2 ⟨by omega,by simp⟩ ?h02 ?step2
  case hc2=>simp +contextual -implicitDefEqProofs only[go_sem,seval]<;>exact rfl
  case h02=>rfl
  case step2=>
   intro x ⟨hx,aa⟩ ak;obtain⟨m,hm⟩:∃ m,qW.toNat+1-x=m+1:=⟨qW.toNat-x,by omega⟩
   rw[hm,ZrT] at aa;have wx:=wi ((x:Int)+w) (by omega) (by omega);have al:=Zg (k:=x) (by omega);have am:=Zg (k:=y) (by omega);by_cases ab:(x:Int)+w≤qW
   ·rw[Kg ab] at aa;have ec:=ZiA qF x y w h hF (by simp only[VB];omega) (by omega);by_cases ae:Z6 qF ⟨x,y,w,h⟩
    ·rw[Kg ae] at aa;rw[← aa] at hp;simp only at hp;rw[Kh ae] at ec;simp +contextual -implicitDefEqProofs only[go_sem,seval,wx,ab,ec,Bool.not_true];rw[← hp];rfl
    ·rw[Kd ae] at aa;rw[Kj ae] at ec;simp +contextual -implicitDefEqProofs only[go_sem,seval,wx,ab,ec,al,Kas];refine ak (x+1) _ ⟨by omega,?_⟩ (by omega) ?_
     ·rw[← aa];have:qW.toNat+1-(x+1)=m:=by omega
      rw[this];rfl
     ·simp +contextual -implicitDefEqProofs only[go_sem,seval]
   ·rw[Kd ab] at aa;rw[← aa] at hp;simp only at hp;simp +contextual -implicitDefEqProofs only[go_sem,seval,wx,ab,am];refine ih (y+1) _ ⟨by omega,?_⟩ (by omega) ?_
    ·rw[← hp];have:qH.toNat+1-(y+1)=n:=by omega
     rw[this];rfl
    ·simp +contextual -implicitDefEqProofs only[go_sem,seval]
 ·rw[Kd ad] at hp;simp +contextual -implicitDefEqProofs only[go_sem,seval,wy,ad];rw[← hp];rfl
theorem ZrB (qL qW qH:Int) (qF:List Box) (pW pH:Int) (pT:Bool) (pK:Int) (hq:VPc (Zb.mk qL qW qH qF)) (hp:VP (Pane.mk pW pH pT pK)):Zd Xs Ms 80 [(.d (.agg [J qL,J qW,J qH,.sl (qF.map Box.enc)])),(.d (.agg [J pW,J pH,.bool pT,J pK]))] []=some ((.d (.bool (okP (Pane.mk pW pH pT pK) (Zb.mk qL qW qH qF)))),[]):=by
 have aa:1≤pW∧pW≤200∧1≤pH∧pH≤200:=⟨hp.1,hp.2.1,hp.2.2.1,hp.2.2.2.1⟩
 have f1:=UU qL qW qH qF pW pH hq ⟨aa.1,aa.2.1⟩ aa.2.2;have f2:=UU qL qW qH qF pH pW hq aa.2.2 ⟨aa.1,aa.2.1⟩;have ab:okP (Pane.mk pW pH pT pK) (Zb.mk qL qW qH qF)=((Xk ⟨qL,qW,qH,qF⟩ pW pH).isSome || (pT&&(Xk ⟨qL,qW,qH,qF⟩ pH pW).isSome)):=rfl;rw[ab];cases h1:Xk ⟨qL,qW,qH,qF⟩ pW pH with
 | some b1=>
  rw[h1] at f1;unfold fcV at f1;obtain⟨bX,bY,bW,bH⟩:=b1;refine cE ?_;simp +contextual -implicitDefEqProofs (maxSteps:=10^7) only[go_sem,seval,Wb,f1,K4,Bool.true_or]
 | none=>
  rw[h1] at f1;unfold fcV at f1;cases pT with
  | false=>
   refine cE ?_;simp +contextual -implicitDefEqProofs (maxSteps:=10^7) only[go_sem,seval,Wb,f1,Kw,LR,Bool.false_and]
  | true=>
   cases h2:Xk ⟨qL,qW,qH,qF⟩ pH pW with
   | some b2=>
    rw[h2] at f2;unfold fcV at f2;obtain⟨bX,bY,bW,bH⟩:=b2;refine cE ?_;simp +contextual -implicitDefEqProofs (maxSteps:=10^7) only[go_sem,seval,Wb,f1,f2,Kw,K4,LR,Kak]
   | none=>
    rw[h2] at f2;unfold fcV at f2;refine cE ?_;simp +contextual -implicitDefEqProofs (maxSteps:=10^7) only[go_sem,seval,Wb,f1,f2,Kw,LR,Kak]
theorem ZrC (l:List Zb) (pW pH:Int) (pT:Bool) (pK:Int) (hv:VSt l) (hp:VP (Pane.mk pW pH pT pK)):Zd Xs Ms 39 [(.d (.sl (l.map Zb.enc))),(.d (.agg [J pW,J pH,.bool pT,J pK]))] []=some ((.d (J (Zv5 l (Pane.mk pW pH pT pK)))),[]):=by
 have e1:=YP l;have e2:=Jz pW pH pT pK;rw[Kh hv] at e1;rw[Kh hp] at e2;have ab:=fun x hx=>ZW hv.2 x hx;have af:=hv.1;unfold Zv5;rw[Kg ⟨hv,hp⟩];refine cE ?_;simp +contextual -implicitDefEqProofs (maxSteps:=10^7) only[go_sem,seval,ZfI,e1,e2];refine LO (α:=Nat×Int×Int×Int) (fun s=>[(20,.d (J (s.1:Int))),(5,.d (J s.2.2.1)),(6,.d (J s.2.2.2))]) (fun _=>[]) (fun s=>s.1≤l.length∧Zcg l (Pane.mk pW pH pT pK) (l.drop s.1) s.1 s.2.1=ZeP l (Pane.mk pW pH pT pK)∧((s.2.1=-1∧s.2.2.1=0)∨∃ (j:Nat) (y:Zb),s.2.1=(j:Int)∧l[j]?=some y∧s.2.2.1=y.Label∧s.2.2.2=y.W*y.H)) (fun s=>l.length-s.1) (0,-1,0,0) ⟨by simp,by simp[ZeP],.inl ⟨rfl,rfl⟩⟩ ?_
 intro⟨i,b,lb,ls⟩ ⟨hi,hq,hb⟩ ih;simp only at hi hq hb;by_cases aa:i<l.length
 ·obtain⟨x,hx⟩:=Zp aa;have hw:=Zg (k:=i) (by omega);rw[ZoY hx] at hq;have ae:=ab x (Kc hx);have f1:=ZrB x.Label x.W x.H x.Flaws pW pH pT pK ae hp;have ag:=ae.1;have ah:0≤x.W*x.H∧x.W*x.H≤40000:=Jy (b:=⟨0,0,x.W,x.H⟩) (by simp only[VB];omega);obtain⟨L,W,H,F⟩:=x;simp only at f1 ah hq ag;have u1:=wi (W*H) (by omega) (by omega);by_cases hc:lb=0∨W*H<ls
  ·have hcb:b<0∨W*H<ZgZ l b:=by
    rcases hb with ⟨h1,h2⟩ | ⟨j,y,h1,h2,h3,h4⟩
    ·left;omega
    ·have:=(ab y (Kc h2)).1;right
     unfold ZgZ;rw[h1,Ky,h2];simp only;rcases hc with hc | hc
     ·omega
     ·omega
   by_cases ad:okP (Pane.mk pW pH pT pK) ⟨L,W,H,F⟩=true
   ·rw[ad] at f1;rw[Kg ⟨ad,hcb⟩] at hq;rcases hc with hc | hc
    ·simp +contextual -implicitDefEqProofs only[go_sem,seval,hx,aa,hw,f1,u1,hc];refine ih (i+1,(i:Int),L,W*H) _ ⟨by simp only;omega,hq,.inr ⟨i,⟨L,W,H,F⟩,rfl,hx,rfl,rfl⟩⟩ (by simp only;omega) ?_;simp +contextual -implicitDefEqProofs only[go_sem,seval]
    ·by_cases h0:lb=0
     ·simp +contextual -implicitDefEqProofs only[go_sem,seval,hx,aa,hw,f1,u1,h0];refine ih (i+1,(i:Int),L,W*H) _ ⟨by simp only;omega,hq,.inr ⟨i,⟨L,W,H,F⟩,rfl,hx,rfl,rfl⟩⟩ (by simp only;omega) ?_;simp +contextual -implicitDefEqProofs only[go_sem,seval]
     ·simp +contextual -implicitDefEqProofs only[go_sem,seval,hx,aa,hw,f1,u1,h0,hc];refine ih (i+1,(i:Int),L,W*H) _ ⟨by simp only;omega,hq,.inr ⟨i,⟨L,W,H,F⟩,rfl,hx,rfl,rfl⟩⟩ (by simp only;omega) ?_;simp +contextual -implicitDefEqProofs only[go_sem,seval]
   ·rw[Kd (fun h=>ad h.1)] at hq;simp only[LD] at ad;rw[ad] at f1;by_cases h0:lb=0
    ·simp +contextual -implicitDefEqProofs only[go_sem,seval,hx,aa,hw,f1,u1,h0];refine ih (i+1,b,0,ls) _ ⟨by simp only;omega,hq,by rw[h0] at hb;exact hb⟩ (by simp only;omega) ?_;simp +contextual -implicitDefEqProofs only[go_sem,seval]
    ·have hc:W*H<ls:=hc.resolve_left h0;simp +contextual -implicitDefEqProofs only[go_sem,seval,hx,aa,hw,f1,u1,h0,hc];refine ih (i+1,b,lb,ls) _ ⟨by simp only;omega,hq,hb⟩ (by simp only;omega) ?_;simp +contextual -implicitDefEqProofs only[go_sem,seval]
  ·have h0:¬lb=0:=fun h=>hc (.inl h);have h1:¬W*H<ls:=fun h=>hc (.inr h);rw[Kd (fun h=>by
    rcases hb with ⟨h2,h3⟩ | ⟨j,y,h2,h3,h4,h5⟩
    ·exact h0 h3
    ·rcases h.2 with h6 | h6
     ·omega
     ·unfold ZgZ at h6;rw[h2,Ky,h3] at h6;simp only at h6;omega)] at hq
   simp +contextual -implicitDefEqProofs only[go_sem,seval,hx,aa,hw,f1,u1,h0,h1];refine ih (i+1,b,lb,ls) _ ⟨by simp only;omega,hq,hb⟩ (by simp only;omega) ?_;simp +contextual -implicitDefEqProofs only[go_sem,seval]
 ·have:i=l.length:=by omega
  subst this;rw[ZrV] at hq;rcases hb with ⟨h1,h2⟩ | ⟨j,y,h1,h2,h3,h4⟩
  ·have hn:ZeP l (Pane.mk pW pH pT pK)<0:=by omega
   simp +contextual -implicitDefEqProofs only[go_sem,seval];rw[Kg hn,h2]
  ·have hn:¬ZeP l (Pane.mk pW pH pT pK)<0:=by omega
   simp +contextual -implicitDefEqProofs only[go_sem,seval];rw[Kd hn,← hq,h1,Ky,h2,h3]
mutual
theorem Ze.enc_inj:∀ (p q:Ze),p.enc=q.enc→p=q
 | .mk o a i t ks,.mk o' a' i' t' ks',h=>by
  rw[Ze.enc_mk,Ze.enc_mk] at h;injection h with h;simp only[List.cons.injEq,D.int.injEq,D.bool.injEq,D.sl.injEq,true_and,and_true] at h;obtain⟨rfl,rfl,rfl,rfl,h⟩:=h;rw[Ze.encL_inj ks ks' h]
theorem Ze.encL_inj:∀ (l m:List Ze),l.map Ze.enc=m.map Ze.enc→l=m
 | [],[],_=>rfl
 | [],_ :: _,h=>by simp at h
 | _ :: _,[],h=>by simp at h
 | x :: l,y :: m,h=>by
  rw[Kk,Kk] at h;injection h with h1 h2;rw[Ze.enc_inj x y h1,Ze.encL_inj l m h2]
end
theorem ZDN {X:Option BT} {p:Ze} (h:plV X=JG p):∃ b,X=some b∧b.plan=p:=by
 obtain⟨o,a,q,t,ks⟩:=p;cases X with
 | none=>simp[plV,JG] at h
 | some b=>
  obtain⟨o',a',q',t',aa,eb⟩:=ZdZ b;simp only[plV,JG,eb] at h;simp only[Prod.mk.injEq,AV.tup.injEq,List.cons.injEq,AV.agg.injEq,AV.d.injEq,D.int.injEq,D.bool.injEq,Zm.row.injEq,true_and,and_true] at h;obtain⟨⟨rfl,rfl,rfl,rfl⟩,h⟩:=h;exact⟨b,rfl,by rw[eb,Ze.encL_inj _ _ h]⟩
theorem ZFh {k:Zw} {c:L.Place} (hw:VW k) (hc:ZdJ k c):plT (popL k [c])=plT (some (Qd c.Pane c.Turned c.Box.X c.Box.Y c.Box.W c.Box.H 0 0 k.W k.H))∧VPl k [c]:=by
 have hv:VPl k [c]:=by
  refine⟨⟨hw,by simp⟩,fun d hd=>?_,?_⟩
  ·rw[KE.1 hd];exact hc
  ·unfold Zh7;simp
 refine⟨?_,hv⟩;obtain⟨h1,h2,h3,h4⟩:=ZvB hv;have hG:=ZuF (k.W+k.H).toNat [c] 0 0 k.W k.H h1 h2 (Kp _) (by simp);have hi:=h2 c (by simp);obtain⟨P,T,⟨X,Y,W,H⟩⟩:=c;have hO:=ZkJ P T X Y W H 0 0 k.W k.H (by simp only[VB] at h1;simp only[VB,QI] at hi;unfold ZdX;omega);have h:some (plV (Y9 (k.W+k.H).toNat [⟨P,T,⟨X,Y,W,H⟩⟩] ⟨0,0,k.W,k.H⟩))=some (JG (Qd P T X Y W H 0 0 k.W k.H).plan):=hG.symm.trans hO;unfold popL;rw[Kg hv];obtain⟨b,hb,aa⟩:=ZDN (Option.some.inj h);rw[hb];simp only[plT,aa]
def nxT:Option Zn→AV×List Zm
 | some ⟨k,l,⟨x,y,w,h⟩,⟨⟨pw,ph,pt,pk⟩,c⟩,.mk o a q t ks⟩=>(.tup [.agg [(.d (J k)),(.d (J l)),(.d (J x)),(.d (J y)),(.d (J w)),(.d (J h)),(.d (J pw)),(.d (J ph)),(.d (.bool pt)),(.d (J pk)),(.d (J c)),(.d (J o)),(.d (J a)),(.d (J q)),(.d (.bool t)),.own 0],(.d (.bool true))],[plO ks])
 | none=>(.tup [.agg [(.d (J 0)),(.d (J 0)),(.d (J 0)),(.d (J 0)),(.d (J 0)),(.d (J 0)),(.d (J 0)),(.d (J 0)),(.d (.bool false)),(.d (J 0)),(.d (J 0)),(.d (J 0)),(.d (J 0)),(.d (J 0)),(.d (.bool false)),.own 0],(.d (.bool false))],[.row 5 [] true false])
def cfV (ok:Bool):Zn→AV×List Zm
 | ⟨k,l,⟨x,y,w,h⟩,⟨⟨pw,ph,pt,pk⟩,c⟩,.mk o a q t ks⟩=>(.tup [.agg [(.d (J k)),(.d (J l)),(.d (J x)),(.d (J y)),(.d (J w)),(.d (J h)),(.d (J pw)),(.d (J ph)),(.d (.bool pt)),(.d (J pk)),(.d (J c)),(.d (J o)),(.d (J a)),(.d (J q)),(.d (.bool t)),.own 0],(.d (.bool ok))],[plO ks])
theorem Zzf (sS:List Zb) (sO sD:List Zc) (sL sC:Int) (qL qW qH:Int) (qF:List Box) (i:Nat) (pW pH:Int) (pT:Bool) (pK:Int) (hv:ZK (Zq.mk sS sO sD sL sC)) (a:Nat) (ha:sS[a]?=some (Zb.mk qL qW qH qF)) (y:Zc) (hy:sO[i]?=some y) (ai:y.Pane=(Pane.mk pW pH pT pK)) (af:okP (Pane.mk pW pH pT pK) (Zb.mk qL qW qH qF)=true) :
  ∃ (t:Bool) (b:Box),((Xk (Zb.mk qL qW qH qF) pW pH=some b∧t=false)∨(Xk (Zb.mk qL qW qH qF) pW pH=none∧Xk (Zb.mk qL qW qH qF) pH pW=some b∧t=true))∧ZdJ ⟨qW,qH,sO.map Zc.Pane⟩ ⟨i,t,b⟩∧VW ⟨qW,qH,sO.map Zc.Pane⟩ ∧
   Zd Xs Ms 41 [(.d (.agg [.sl (sS.map Zb.enc),.sl (sO.map Zc.enc),.sl (sD.map Zc.enc),J sL,J sC])),(.d (.agg [J qL,J qW,J qH,.sl (qF.map Box.enc)])),(.d (J i)),(.d (.agg [J pW,J pH,.bool pT,J pK]))] []=some (cfV (Qt (Zq.mk sS sO sD sL sC) (Zlg i t b (Zb.mk qL qW qH qF))).isSome (Zlg i t b (Zb.mk qL qW qH qF))):=by
 have ag:=ZW hv.1.2 _ (Kc ha);have al:=ag.1;simp only at al;have hp:VP (Pane.mk pW pH pT pK):=by rw[← ai];exact(Z5 hv.2.1 y (Kc hy)).1
 have ae:1≤pW∧pW≤200∧1≤pH∧pH≤200:=⟨hp.1,hp.2.1,hp.2.2.1,hp.2.2.2.1⟩
 have e1:=Zms sS sO sD sL sC qL;unfold ZCP at e1;have ab:=Zmr (k:=0) hv.1.2 ha;rw[K7] at ab;rw[Kg hv] at e1;simp only at ab;simp only[ZdB ab ha] at e1;unfold wkV at e1;simp only at e1;have f1:=UU qL qW qH qF pW pH ag ⟨ae.1,ae.2.1⟩ ae.2.2;have f2:=UU qL qW qH qF pH pW ag ae.2.2 ⟨ae.1,ae.2.1⟩;have am:=hv.2.1.1;simp only at am;have ah:VW ⟨qW,qH,sO.map Zc.Pane⟩:=by
  refine⟨by simp only;omega,by simp only;omega,by simp only;omega,by simp only;omega,by simp;omega,fun z hz=>?_⟩;obtain⟨x,hx,rfl⟩:=Li.1 hz;exact(Z5 hv.2.1 x hx).1
 have aj:(sO.map Zc.Pane)[i]?=some (Pane.mk pW pH pT pK):=by rw[K0,hy,← ai];rfl
 have ak:∀ (t:Bool) (b:Box),ZdJ ⟨qW,qH,sO.map Zc.Pane⟩ ⟨i,t,b⟩→∃ (o a' p' : Int) (t' : Bool) (ks:List Ze),(Qd i t b.X b.Y b.W b.H 0 0 qW qH).plan=.mk o a' p' t' ks ∧
   Zd Xs Ms 85 [.d (.agg [J qW,J qH,.sl ((sO.map Zc.Pane).map Pane.enc)]),.d (.sl [.agg [J (i:Int),.bool t,J b.X,J b.Y,J b.W,J b.H]])] []=some (.tup [.agg [(.d (J o)),(.d (J (a'))),(.d (J (p'))),(.d (.bool (t'))),.own 0],(.d (.bool true))],[plO ks]):=by
  intro t b hc;have e:=Zl0 qW qH (sO.map Zc.Pane) [⟨i,t,b⟩];rw[(ZFh ah hc).1] at e;simp only[plT] at e;cases hpp:(Qd i t b.X b.Y b.W b.H 0 0 qW qH).plan with
  | mk o a' p' t' ks=>
   rw[hpp] at e;exact⟨o,a',p',t',ks,rfl,e⟩
 cases h1:Xk (Zb.mk qL qW qH qF) pW pH with
 | some b=>
  obtain⟨g1,g2,g3,g4,g5,g6,_⟩:=ZbX h1;simp only at g2 g4;have hc:ZdJ ⟨qW,qH,sO.map Zc.Pane⟩ ⟨i,false,b⟩:=by
   refine⟨⟨?_,?_⟩,?_⟩
   ·simp only[VB];omega
   ·simp only[QI];omega
   ·simp[XU,aj,g5,g6]
  refine⟨false,b,.inl ⟨rfl,rfl⟩,hc,ah,?_⟩;obtain⟨o,a',p',t',ks,k1,k2⟩:=ak false b hc;rw[h1] at f1;have e5:=Zcd sS sO sD sL sC 3 qL 0 0 0 0 0 0 false 0 0 o a' p' t' ks;rw[Kg hv] at e5;unfold Zlg;simp only[k1];obtain⟨bX,bY,bW,bH⟩:=b;unfold fcV at f1;simp only at f1 k2;cases hap:Qt (Zq.mk sS sO sD sL sC) ⟨3,qL,⟨0,0,0,0⟩,⟨⟨0,0,false,0⟩,0⟩,.mk o a' p' t' ks⟩ with
  | none=>
   rw[hap] at e5;unfold shT at e5;unfold cfV;refine cE ?_;by_cases aa:ks=[]
   ·subst aa;simp only[Ks] at e5;simp +contextual -implicitDefEqProofs (maxSteps:=10^7) only[go_sem,seval,Y5,e1,f1,k2,e5,Kw]
   ·have ad:=ZgO aa;simp +contextual -implicitDefEqProofs (maxSteps:=10^7) only[go_sem,seval,Y5,e1,f1,k2,e5,Kw,ad]
  | some u=>
   rw[hap] at e5;obtain⟨a1,a2,a3,a4,a5⟩:=u;unfold shT at e5;simp only at e5;unfold cfV;refine cE ?_;by_cases aa:ks=[]
   ·subst aa;simp only[Ks] at e5;simp +contextual -implicitDefEqProofs (maxSteps:=10^7) only[go_sem,seval,Y5,e1,f1,k2,e5,K4]
   ·have ad:=ZgO aa;simp +contextual -implicitDefEqProofs (maxSteps:=10^7) only[go_sem,seval,Y5,e1,f1,k2,e5,K4,ad]
 | none=>
  unfold okP at af;simp only[h1,Kw,LR,Kf] at af;obtain⟨hT,hs⟩:=af;subst hT;cases h2:Xk (Zb.mk qL qW qH qF) pH pW with
  | none=>rw[h2] at hs;cases hs
  | some b=>
   obtain⟨g1,g2,g3,g4,g5,g6,_⟩:=ZbX h2;simp only at g2 g4;have an:¬pW=pH:=fun h=>by rw[h] at h1 h2;rw[h1] at h2;cases h2
   have hc:ZdJ ⟨qW,qH,sO.map Zc.Pane⟩ ⟨i,true,b⟩:=by
    refine⟨⟨?_,?_⟩,?_⟩
    ·simp only[VB];omega
    ·simp only[QI];omega
    ·simp[XU,aj,g5,g6,an]
   refine⟨true,b,.inr ⟨rfl,rfl,rfl⟩,hc,ah,?_⟩;obtain⟨o,a',p',t',ks,k1,k2⟩:=ak true b hc;rw[h1] at f1;rw[h2] at f2;have e5:=Zcd sS sO sD sL sC 3 qL 0 0 0 0 0 0 false 0 0 o a' p' t' ks;rw[Kg hv] at e5;unfold Zlg;simp only[k1];obtain⟨bX,bY,bW,bH⟩:=b;unfold fcV at f1 f2;simp only at f1 f2 k2;cases hap:Qt (Zq.mk sS sO sD sL sC) ⟨3,qL,⟨0,0,0,0⟩,⟨⟨0,0,false,0⟩,0⟩,.mk o a' p' t' ks⟩ with
   | none=>
    rw[hap] at e5;unfold shT at e5;unfold cfV;refine cE ?_;by_cases aa:ks=[]
    ·subst aa;simp only[Ks] at e5;simp +contextual -implicitDefEqProofs (maxSteps:=10^7) only[go_sem,seval,Y5,e1,f1,f2,k2,e5,Kw]
    ·have ad:=ZgO aa;simp +contextual -implicitDefEqProofs (maxSteps:=10^7) only[go_sem,seval,Y5,e1,f1,f2,k2,e5,Kw,ad]
   | some u=>
    rw[hap] at e5;obtain⟨a1,a2,a3,a4,a5⟩:=u;unfold shT at e5;simp only at e5;unfold cfV;refine cE ?_;by_cases aa:ks=[]
    ·subst aa;simp only[Ks] at e5;simp +contextual -implicitDefEqProofs (maxSteps:=10^7) only[go_sem,seval,Y5,e1,f1,f2,k2,e5,K4]
    ·have ad:=ZgO aa;simp +contextual -implicitDefEqProofs (maxSteps:=10^7) only[go_sem,seval,Y5,e1,f1,f2,k2,e5,K4,ad]
theorem Zxp (sS:List Zb) (sO sD:List Zc) (sL sC:Int) (hv:ZK (Zq.mk sS sO sD sL sC)):Zd Xs Ms 15 [(.d (.agg [.sl (sS.map Zb.enc),.sl (sO.map Zc.enc),.sl (sD.map Zc.enc),J sL,J sC]))] []=some (nxT (ZeQ (Zq.mk sS sO sD sL sC))):=by
 have e1:=Z7 sS sO sD sL sC;rw[Kh hv] at e1;have ai:=hv.2.1.1;have af:=hv.1.1;simp only at ai af;refine cE ?_;simp +contextual -implicitDefEqProofs (maxSteps:=10^7) only[go_sem,seval,ZiV,e1];refine LO (α:=Nat) (fun i=>[(17,.d (J (i:Int)))]) (fun _=>[]) (fun i=>i≤sO.length∧JJ (Zq.mk sS sO sD sL sC) (sO.drop i) i=ZeQ (Zq.mk sS sO sD sL sC)) (fun i=>sO.length-i) 0 ⟨by omega,by simp[ZeQ]⟩ ?_;intro i ⟨hi,hp⟩ ih;by_cases aa:i<sO.length
 ·obtain⟨x,hx⟩:=Zp aa;have hw:=Zg (k:=i) (by omega);rw[ZiL hx] at hp;have ag:=Z5 hv.2.1 x (Kc hx);have aj:=hx;obtain⟨⟨W,H,T,K⟩,C⟩:=x;simp only at ag;have ef:=ZrC sS W H T K hv.1 ag.1;unfold Zv5 at ef;rw[Kg ⟨hv.1,ag.1⟩] at ef;unfold Zzz at hp;simp only at hp;rcases ZrW sS ⟨W,H,T,K⟩ with h0 | ⟨j,q,hj,hq,ak⟩
  ·rw[Kg h0] at ef hp;simp only at hp;simp +contextual -implicitDefEqProofs only[go_sem,seval,hx,aa,hw,ef];refine ih (i+1) _ ⟨by omega,hp⟩ (by omega) ?_;simp +contextual -implicitDefEqProofs only[go_sem,seval]
  ·have al:¬(j:Int)<0:=by omega
   rw[hj,Kd al,Ky,hq] at ef hp;simp only at hp ef;have am:=ZW hv.1.2 q (Kc hq);have ae:=(Kb.1 hq).1;have el:=YA sS q.Label (by omega);rw[Zmr hv.1.2 hq,K7] at el;have ab:0<q.Label:=by have:=am.1;omega
   obtain⟨qL,qW,qH,qF⟩:=q;simp only at ef el hp ab;obtain⟨t,b,hb,_,_,ec⟩:=Zzf sS sO sD sL sC qL qW qH qF i W H T K hv j hq _ aj rfl ak;have hp:(if (Qt (Zq.mk sS sO sD sL sC) (Zlg i t b ⟨qL,qW,qH,qF⟩)).isSome=true then some (Zlg i t b ⟨qL,qW,qH,qF⟩) else JJ (Zq.mk sS sO sD sL sC) (sO.drop (i+1)) (i+1))=ZeQ (Zq.mk sS sO sD sL sC):=by
    rcases hb with ⟨k1,rfl⟩ | ⟨k1,k2,rfl⟩
    ·rw[k1] at hp;exact hp
    ·rw[k1,k2] at hp;exact hp
   unfold Zlg at ec hp;cases hpp:(Qd i t b.X b.Y b.W b.H 0 0 qW qH).plan with
   | mk o a p t' ks=>
    simp only[hpp] at ec hp;unfold cfV at ec;simp only at ec;cases hap:Qt (Zq.mk sS sO sD sL sC) ⟨3,qL,⟨0,0,0,0⟩,⟨⟨0,0,false,0⟩,0⟩,.mk o a p t' ks⟩ with
    | none=>
     rw[hap] at ec hp;simp only[Kw,Ka,Kn] at ec hp;by_cases ad:ks=[]
     ·subst ad;simp +contextual -implicitDefEqProofs only[go_sem,seval,hx,aa,hw,ef,el,ec,ab,ae,hq,ZCA];refine ih (i+1) _ ⟨by omega,hp⟩ (by omega) ?_;simp +contextual -implicitDefEqProofs only[go_sem,seval]
     ·have ah:=ZgO ad;simp +contextual -implicitDefEqProofs only[go_sem,seval,hx,aa,hw,ef,el,ec,ab,ae,hq,ah];refine ih (i+1) _ ⟨by omega,hp⟩ (by omega) ?_;simp +contextual -implicitDefEqProofs only[go_sem,seval]
    | some u=>
     rw[hap] at ec hp;simp only[K4,Km] at ec hp;rw[← hp];unfold nxT;by_cases ad:ks=[]
     ·subst ad;simp +contextual -implicitDefEqProofs only[go_sem,seval,hx,aa,hw,ef,el,ec,ab,ae,hq,ZCA]
     ·have ah:=ZgO ad;simp +contextual -implicitDefEqProofs only[go_sem,seval,hx,aa,hw,ef,el,ec,ab,ae,hq,ah]
 ·have:i=sO.length:=by omega
  subst this;rw[ZrZ] at hp;rw[← hp];unfold nxT;simp +contextual -implicitDefEqProofs only[go_sem,seval]
def Zmg:List Int→Int
 | []=>0
 | x :: l=>x+Zmg l
theorem Zzg:∀ {u:List Int} {n:Nat} {v w:Int},u[n]?=some v→Zmg (u.set n w)=Zmg u-v+w
 | [],n,v,w,h=>by simp at h
 | x :: u,0,v,w,h=>by
  simp only[KX,Option.some.injEq] at h;subst h;simp only[Kah,Zmg];omega
 | x :: u,n+1,v,w,h=>by
  simp only[KY] at h;simp only[Kaj,Zmg,Zzg h];omega
theorem ZvO:∀ (l:List L.Place) (u:List Int),(∀ c∈l,∃ n:Nat,c.Pane=(n:Int)∧n<u.length)→Zmg (UE u l)=Zmg u+l.length
 | [],u,_=>by simp[UE]
 | x :: l,u,h=>by
  obtain⟨n,h1,h2⟩:=h x (by simp);obtain⟨v,hv⟩:=Zp h2;rw[UE,h1,Ky,hv,ZvO l _ (fun c hc=>by
   obtain⟨m,a,b⟩:=h c (by simp[hc]);exact⟨m,a,by simpa using b⟩),Zzg hv]
  simp only[Option.getD_some,Kl];omega
theorem Zzh:∀ n:Nat,Zmg (List.replicate n 0)=0
 | 0=>rfl
 | n+1=>by simp[LJ,Zmg,Zzh n]
theorem ZDO {k:Zw} {p:Ze} (hv:Ve k p=true):Zmg (Zcx k p)=((Qs k p).filterMap Xi).length:=by
 obtain⟨b,hb,ae,af,ab,aa,ad⟩:=QW hv;unfold Zcx;rw[ad,YN,ZvO _ _ (fun c hc=>by
  obtain⟨n,h1,h2⟩:=ZbW aa c hc;exact⟨n,h1,by simpa using h2⟩),Zzh]
 omega
theorem Zla:∀ {ps:List Pane} {us:List Int} {o d o' d' : List Zc},us.length=ps.length→Vi ps us o d=some (o',d')→Qp d'=Qp d+Zmg us
 | [],us,o,d,o',d',hl,h=>by
  cases us with
  | nil=>unfold Vi at h;cases h;simp[Zmg]
  | cons c us=>simp at hl
 | p :: ps,[],o,d,o',d',hl,h=>by simp at hl
 | p :: ps,c :: us,o,d,o',d',hl,h=>by
  rw[Vi] at h;simp only[Kl,Nat.add_right_cancel_iff] at hl;split at h
  ·rename_i h0;rw[Zla hl h,Zmg,h0];omega
  ·split at h
   ·rw[Zla hl h,Zdy,Zmg];omega
   ·cases h
theorem ZGM {i:Int} {t:Bool} {X Y W H bX bY bW bH:Int} (h:ZdX X Y W H bX bY bW bH):plc (Qd i t X Y W H bX bY bW bH) bX bY bW bH=[⟨i,t,⟨X,Y,W,H⟩⟩]:=by
 have h0:=h;unfold ZdX at h0;have q4:∀ (y h' : Int),y=Y→Y+H≤y+h'→plc (if Y+H<Y+h' then BT.cut false H (.pane i t) .waste else .pane i t) X y W h'=[⟨i,t,⟨X,Y,W,H⟩⟩]:=by
  intro y h' e e2;subst e;split
  ·simp[plc]
  ·have:h'=H:=by omega
   simp[plc,this]
 have q3:plc (if bY<Y then BT.cut false (Y-bY) .waste (if Y+H<bY+bH then BT.cut false H (.pane i t) .waste else .pane i t) else (if Y+H<bY+bH then BT.cut false H (.pane i t) .waste else .pane i t)) X bY W bH=[⟨i,t,⟨X,Y,W,H⟩⟩]:=by
  split
  ·have e:Y+H<bY+bH↔Y+H<Y+(bH-(Y-bY)):=by omega
   simp only[plc,Ka,Kn,Ll,e];exact q4 _ _ (by omega) (by omega)
  ·have e:bY=Y:=by omega
   subst e;exact q4 _ _ rfl (by omega)
 have q2:∀ (x w' : Int),x=X→X+W≤x+w'→plc (if X+W<X+w' then BT.cut true W (if bY<Y then BT.cut false (Y-bY) .waste (if Y+H<bY+bH then BT.cut false H (.pane i t) .waste else .pane i t) else (if Y+H<bY+bH then BT.cut false H (.pane i t) .waste else .pane i t)) .waste else (if bY<Y then BT.cut false (Y-bY) .waste (if Y+H<bY+bH then BT.cut false H (.pane i t) .waste else .pane i t) else (if Y+H<bY+bH then BT.cut false H (.pane i t) .waste else .pane i t))) x bY w' bH=[⟨i,t,⟨X,Y,W,H⟩⟩]:=by
  intro x w' e e2;subst e;split
  ·simp only[plc,Km,KF,q3]
  ·have:w'=W:=by omega
   rw[this];exact q3
 unfold Qd;simp only;split
 ·have e:X+W<bX+bW↔X+W<X+(bW-(X-bX)):=by omega
  simp only[plc,Km,Ll,e];exact q2 _ _ (by omega) (by omega)
 ·have e:bX=X:=by omega
  subst e;exact q2 _ _ rfl (by omega)
theorem ZoV {s:Zq} (hv:ZK s):∀ {m:Nat} {i:Nat} {e:Zn},s.Opn.length-i=m→JJ s (s.Opn.drop i) i=some e→∃ (n j:Nat) (x:Zc) (q:Zb) (t:Bool) (b:Box),s.Opn[n]?=some x∧s.Stock[j]?=some q∧e=Zlg n t b q∧((Xk q x.Pane.W x.Pane.H=some b∧t=false)∨(Xk q x.Pane.W x.Pane.H=none∧Xk q x.Pane.H x.Pane.W=some b∧t=true))∧okP x.Pane q=true∧∃ u,Qt s e=some u
 | 0,i,e,hm,h=>by
  rw[List.drop_eq_nil_of_le (by omega)] at h;simp[JJ] at h
 | m+1,i,e,hm,h=>by
  obtain⟨x,hx⟩:=Zp (l:=s.Opn) (k:=i) (by omega);rw[ZiL hx] at h;have nx:=fun h=>ZoV hv (m:=m) (i:=i+1) (e:=e) (by omega) h;unfold Zzz at h;rcases ZrW s.Stock x.Pane with h0 | ⟨j,q,hj,hq,aa⟩
  ·rw[Kg h0] at h;exact nx h
  ·rw[hj,Kd (by omega),Ky,hq] at h;simp only at h;cases h1:Xk q x.Pane.W x.Pane.H with
   | some b=>
    rw[h1] at h;simp only at h;split at h
    ·rename_i ha;cases h;exact⟨i,j,x,q,false,b,hx,hq,rfl,.inl ⟨h1,rfl⟩,aa,Lf.1 ha⟩
    ·exact nx h
   | none=>
    rw[h1] at h;simp only at h;cases h2:Xk q x.Pane.H x.Pane.W with
    | some b=>
     rw[h2] at h;simp only at h;split at h
     ·rename_i ha;cases h;exact⟨i,j,x,q,true,b,hx,hq,rfl,.inr ⟨h1,h2,rfl⟩,aa,Lf.1 ha⟩
     ·exact nx h
    | none=>rw[h2] at h;exact nx h
structure NFacts (s:Zq) (e:Zn) (u:Zq) (n j:Nat) (x:Zc) (q:Zb) (t:Bool) (b:Box):Prop where
 fx:s.Opn[n]?=some x
 fq:s.Stock[j]?=some q
 lab:QB 0 s.Stock q.Label=(j:Int)
 fe:e=Zlg n t b q
 ap:Qt s e=some u
 vw:VW ⟨q.W,q.H,s.Opn.map Zc.Pane⟩
 pl:ZdJ ⟨q.W,q.H,s.Opn.map Zc.Pane⟩ ⟨n,t,b⟩
 good:Vu q ⟨q.W,q.H,s.Opn.map Zc.Pane⟩ e.plan
 places:(Qs ⟨q.W,q.H,s.Opn.map Zc.Pane⟩ e.plan).filterMap Xi=[⟨n,t,b⟩]
 clr:Z6 q.Flaws b
 done:Qp u.Done=Qp s.Done+1
 opn:Qp u.Opn=Qp s.Opn-1
theorem Zzi {s:Zq} {e:Zn} (hv:ZK s) (h:ZeQ s=some e):∃ u n j x q t b,NFacts s e u n j x q t b:=by
 obtain⟨n,j,x,q,t,b,hx,hq,he,hb,af,u,hu⟩:=ZoV hv (i:=0) rfl (by simpa [ZeQ] using h);have aj:=ZW hv.1.2 q (Kc hq);have ar:=aj.1;have hp:=(Z5 hv.2.1 x (Kc hx)).1;have au:1≤x.Pane.W∧x.Pane.W≤200∧1≤x.Pane.H∧x.Pane.H≤200:=⟨hp.1,hp.2.1,hp.2.2.1,hp.2.2.2.1⟩
 have av:=hv.2.1.1;have ak:VW ⟨q.W,q.H,s.Opn.map Zc.Pane⟩:=by
  refine⟨by simp only;omega,by simp only;omega,by simp only;omega,by simp only;omega,by simp;omega,fun z hz=>?_⟩;obtain⟨y,hy,rfl⟩:=Li.1 hz;exact(Z5 hv.2.1 y hy).1
 have ai:(s.Opn.map Zc.Pane)[n]?=some x.Pane:=by rw[K0,hx];rfl
 have ad:=Zmr (k:=0) hv.1.2 hq;rw[K7] at ad;have ag:Z6 q.Flaws b∧ZdJ ⟨q.W,q.H,s.Opn.map Zc.Pane⟩ ⟨n,t,b⟩:=by
  rcases hb with ⟨k1,rfl⟩ | ⟨k1,k2,rfl⟩
  ·obtain⟨g1,g2,g3,g4,g5,g6,g7⟩:=ZbX k1;refine⟨g7,⟨?_,?_⟩,?_⟩
   ·simp only[VB];omega
   ·simp only[QI];omega
   ·simp[XU,ai,g5,g6]
  ·obtain⟨g1,g2,g3,g4,g5,g6,g7⟩:=ZbX k2;have al:¬x.Pane.W=x.Pane.H:=fun h=>by rw[h] at k1 k2;rw[k1] at k2;cases k2
   unfold okP at af;simp only[k1,Kw,LR,Kf] at af;refine⟨g7,⟨?_,?_⟩,?_⟩
   ·simp only[VB];omega
   ·simp only[QI];omega
   ·simp[XU,ai,g5,g6,al,af.1]
 have am:ZdX b.X b.Y b.W b.H 0 0 q.W q.H:=by
  have:=ag.2.1;simp only[VB,QI] at this;unfold ZdX;omega
 have hf:=ZBh hv hu;have hk:e.kind=3:=by rw[he];rfl
 obtain⟨ab,_⟩:=Zzc hu;have an:evS s e=ZeG s e:=by unfold evS;rw[Kd (by omega),Kd (by omega),Kd (by omega),Kd (by omega),Kd (by omega),Kg hk]
 rw[an] at ab;have ao:e.label=q.Label:=by rw[he];rfl
 have ap:e.plan=(Qd n t b.X b.Y b.W b.H 0 0 q.W q.H).plan:=by rw[he];rfl
 unfold ZeG at ab;rw[ao,ad,Ky,hq] at ab;simp only at ab;cases hst:ZbU s.Stock q.Label ⟨q.W,q.H,s.Opn.map Zc.Pane⟩ e.plan 5 with
 | none=>rw[hst] at ab;cases ab
 | some R=>
  rw[hst] at ab;simp only at ab;have ae:Vu q ⟨q.W,q.H,s.Opn.map Zc.Pane⟩ e.plan:=by
   unfold ZbU at hst;split at hst
   ·rw[ad,Ky,hq] at hst;simp only at hst;split at hst
    ·rename_i hg;exact hg.1
    ·cases hst
   ·cases hst
  have ah:=ae.1;have aa:(Qs ⟨q.W,q.H,s.Opn.map Zc.Pane⟩ e.plan).filterMap Xi=[⟨n,t,b⟩]:=by
   obtain⟨B,hB,aw,_,_,_,aq⟩:=QW ah;rw[ap,XI] at hB;cases hB;rw[aq,YN];exact ZGM am
  split at ab
  ·split at ab
   ·cases ab
   ·rename_i o d hg;cases ab;have hd:=Zla (by rw[(ZeO ah).1]) hg;rw[ZDO ah,aa] at hd;have hc:=hf.cnt;rw[Kd (by omega)] at hc;simp only[Kl,KQ] at hd;have hc:Qp o+Qp d=Qp s.Opn+Qp s.Done+0:=hc;exact⟨_,n,j,x,q,t,b,hx,hq,ad,he,hu,ak,ag.2,ae,aa,ag.1,(by show Qp d=_;omega),(by show Qp o=_;omega)⟩
  ·cases ab
end Go.Proofs.YtfnegoimdljanaaGreatDoor
namespace Go.Proofs.YtfnegoimdljanaaGreatDoor
open Go Go.Abs Go.Abs.E Go.Abs.L
set_option linter.unusedSimpArgs false
set_option linter.unusedVariables false
set_option maxRecDepth 20000
set_option maxHeartbeats 4000000
def QO:List Zc→List Pane
 | []=>[]
 | x :: l=>List.replicate x.Count.toNat x.Pane++QO l
theorem ZiB (x:Zc):∀ l:List Zc,QO (l++[x])=QO l++List.replicate x.Count.toNat x.Pane
 | []=>by simp[QO]
 | y :: l=>by simp only[KD,QO,ZiB x l,KK]
theorem VA:∀ {l:List Zc},(∀ x∈l,1≤x.Count∧x.Count≤24)→(QO l).length≤24*l.length
 | [],_=>by simp[QO]
 | x :: l,h=>by
  have ih:=VA (l:=l) fun y hy=>h y (by simp[hy]);have:=h x (by simp);simp only[QO,Kq,L6,Kl];omega
theorem Zmh (l:List Zc) (hv:JF l):Zd Xs Ms 64 [(.d (.sl (l.map Zc.enc)))] []=some (.own 0,[.row 4 ((QO l).map Pane.enc) true false]):=by
 have e0:=UV l;rw[Kh hv] at e0;have am:=hv.1;have aa:=Z5 hv;refine cE ?_;simp +contextual -implicitDefEqProofs (maxSteps:=10^7) only[go_sem,seval,ZiO,e0];refine LO (α:=Nat) (fun k=>[(11,.d (J (k:Int)))]) (fun k=>[(0,.row 4 ((QO (l.take k)).map Pane.enc) true false)]) (fun k=>k≤l.length) (fun k=>l.length-k) 0 (by omega) ?_;intro k hk ih;by_cases af:k<l.length
 ·obtain⟨x,hx⟩:=Zp af;have ad : (k:Int)<(l.length:Int):=by omega
  have w:=Zg (k:=k) (by omega);have ah:l.take (k+1)=l.take k++[x]:=by rw[KB,hx];rfl
  have ag:=aa x (Kc hx);have an:=VA (l:=l.take k) fun y hy=>(aa y (Lg hy)).2;have ao:(l.take k).length≤8:=by simp;omega
  obtain⟨⟨W,H,T,K⟩,C⟩:=x;obtain⟨n,hn⟩:∃ n:Nat,C=n:=⟨C.toNat,by simp only at ag;omega⟩
  subst hn;simp only at ag;have ai:QO (l.take (k+1))=QO (l.take k)++List.replicate n ⟨W,H,T,K⟩:=by rw[ah,ZiB];rfl
  simp +contextual -implicitDefEqProofs only[go_sem,seval,ad,af,hx,w];refine XR Xs Ms (st0:=?st1) (α:=Nat) (fun j=>[(17,.d (J (j:Int)))]) (fun j=>[(1,.row 4 ((QO (l.take k)++List.replicate j (Pane.mk W H T K)).map Pane.enc) true false)]) (fun j=>j≤n) (fun j=>n-j) 0 ?hc2 (by omega) ?h02 ?step2
  case hc2=>simp +contextual -implicitDefEqProofs only[go_sem,seval]<;>exact rfl
  case h02=>simp only[List.replicate_zero,KF];rfl
  case step2=>
   intro j hj aj;by_cases ak:j<n
   ·have ae : (j:Int)<(n:Int):=by omega
    have w2:=Zg (k:=j) (by omega);have ab:((QO (l.take k)++List.replicate j (Pane.mk W H T K)).length+1)*32≤140737488355328∧(QO (l.take k)++List.replicate j (Pane.mk W H T K)).length+1≤140737488355328:=by simp only[Kq,L6];omega
    have al:QO (l.take k)++List.replicate (j+1) (Pane.mk W H T K)=(QO (l.take k)++List.replicate j (Pane.mk W H T K))++[Pane.mk W H T K]:=by rw[List.replicate_succ',KK]
    generalize QO (l.take k)++List.replicate j (Pane.mk W H T K)=qs at *;simp +contextual -implicitDefEqProofs only[go_sem,seval,ae,ak,w2,ab];refine aj (j+1) _ (by omega) (by omega) ?_;simp +contextual -implicitDefEqProofs only[go_sem,seval,al,KI,Kk,Ks]
   ·have:j=n:=by omega
    subst this;simp +contextual -implicitDefEqProofs only[go_sem,seval,w];refine ih (k+1) _ (by omega) (by omega) ?_;simp +contextual -implicitDefEqProofs only[go_sem,seval,ai]
 ·have:k=l.length:=by omega
  subst this;simp +contextual -implicitDefEqProofs only[go_sem,seval,KN]
theorem Zgo {ps:List Pane} (hl:ps.length≤24):∀ {b:BT} {w h:Int},XN ps b w h=true→w≤200→h≤200→YS b=true
 | .waste,_,_,_,_,_=>rfl
 | .pane i t,w,h,hf,_,_=>by
  simp only[XN] at hf;unfold XU at hf;rw[Kf,Ko] at hf;simp only[YS,Ko];cases hq:ps[i.toNat]? with
  | none=>rw[hq] at hf;cases hf.2
  | some q=>have:=(Kb.1 hq).1;omega
 | .cut d a l r,w,h,hf,hw,hh=>by
  simp only[YS,Kf,Ko];cases d with
  | true=>
   simp only[XN,Km,Kf,Ko] at hf;exact⟨⟨by omega,Zgo hl hf.1.2 (by omega) hh⟩,Zgo hl hf.2 (by omega) hh⟩
  | false=>
   simp only[XN,Ka,Kn,Kf,Ko] at hf;exact⟨⟨by omega,Zgo hl hf.1.2 hw (by omega)⟩,Zgo hl hf.2 hw (by omega)⟩
theorem Zzj (i:Int) (t:Bool) (X Y W H bX bY bW bH:Int):(Qd i t X Y W H bX bY bW bH).cnt≤9:=by
 unfold Qd;simp only;split<;>split<;>split<;>split<;>simp[BT.cnt]
theorem ZCL {s:Zq} {e:Zn} (hv:ZK s) (h:ZeQ s=some e):∃ (l:Nat) (b:BT),e.plan=b.plan∧e=(Ev.cut l b).ev∧Zay e=some (.cut l b)∧(Ev.cut l b).ok:=by
 obtain⟨u,n,j,x,q,t,bx,F⟩:=Zzi hv h;have hq:=(ZW hv.1.2 q (Kc F.fq)).1;have hl:1≤q.Label∧q.Label≤9999∧q.W≤200∧q.H≤200:=by omega
 obtain⟨b,hb,hp,hw,hc,hf,_⟩:=QW F.good.1;have hcb:=Zgo (by have:=hw.2.2.2.2.1;exact this) hf hl.2.2.1 hl.2.2.2;have aa:b=Qd n t bx.X bx.Y bx.W bx.H 0 0 q.W q.H:=by
  have h1:=F.fe;have h2:e.plan=(Qd n t bx.X bx.Y bx.W bx.H 0 0 q.W q.H).plan:=by rw[h1];rfl
  have h3:=XI (Qd n t bx.X bx.Y bx.W bx.H 0 0 q.W q.H);rw[← h2,hb] at h3;exact Option.some.inj h3
 have h9:b.cnt≤9:=by rw[aa];exact Zzj ..
 have ae:=ZdL b hcb;have ab:Zl8 b:=⟨hc,hcb,by omega⟩
 have ad:e=(Ev.cut q.Label.toNat b).ev:=by
  rw[F.fe];show Zlg n t bx q=⟨3,((q.Label.toNat:Nat):Int),bx0,ln0,b.plan⟩;rw[KO (show 0≤q.Label by omega),aa];rfl
 refine⟨q.Label.toNat,b,hp,ad,?_,by simp only[Ev.ok];exact⟨by omega,ab⟩⟩;rw[YO (b:=b) ?_ hb ab]
 ·rw[F.fe];rfl
 ·rw[F.fe];intro m hm;unfold Yy Zlg at hm;simp only[Ke,KL,or_false] at hm;unfold six;omega
def ZnM (s:Zq) (w:List UInt8):List UInt8:=
 if w=[115,116,111,99,107] then num s.Stock.length else if w=[111,112,101,110] then num (QO s.Opn).length else if w=[100,111,110,101] then num (QO s.Done).length
 else if w=[108,111,115,116] then num s.Lost.toNat else if w=[99,97,109,101] then num s.Came.toNat else if w=[110,101,120,116] then (match ZeQ s with
  | some e=>ZDI e
  | none=>[110,111,110,101]) else [119,104,97,116]
theorem ZFi {s:Zq} (hv:ZK s) (w:List UInt8):0<(ZnM s w).length∧(ZnM s w).length≤20000:=by
 obtain⟨v1,v2,v3,h1,h2,h3,h4,h5⟩:=hv;have l2:=VA fun x hx=>(Z5 v2 x hx).2;have l3:=VA fun x hx=>(Z5 v3 x hx).2;have b2:=v2.1;have b3:=v3.1;have b1:=v1.1;have one:∀ n,n≤900000→0<(num n).length∧(num n).length≤20000:=fun n hn=>by
  have:=Yi 5 n (by omega);have:=Zxf n;omega
 unfold ZnM;split
 ·exact one _ (by omega)
 ·split
  ·exact one _ (by omega)
  ·split
   ·exact one _ (by omega)
   ·split
    ·exact one _ (by omega)
    ·split
     ·exact one _ (by omega)
     ·split
      ·cases h:ZeQ s with
       | none=>simp
       | some e=>
        obtain⟨l,b,_,_,aa,ab⟩:=ZCL ⟨v1,v2,v3,h1,h2,h3,h4,h5⟩ h;simp only;rw[Jk aa];have h1:=ZFd ab;have h2:(Ev.cut l b).text≠[]:=fun h=>by have:=ZGK (.cut l b);rw[h] at this;cases this
        have:=List.length_pos_iff.2 h2;omega
      ·simp
theorem Zxq (sS:List Zb) (sO sD:List Zc) (sL sC:Int) (hv:ZK (Zq.mk sS sO sD sL sC)) (w:List UInt8):Zd Xs Ms 29 [(.d (.agg [.sl (sS.map Zb.enc),.sl (sO.map Zc.enc),.sl (sD.map Zc.enc),J sL,J sC])),.d (.str w)] []=some (.d (.str (ZnM (Zq.mk sS sO sD sL sC) w)),[]):=by
 have ah:=hv;obtain⟨v1,v2,v3,h1,h2,h3,h4,h5⟩:=hv;simp only at v1 v2 v3 h1 h2 h3 h4 h5;have p2:=Zmh sO v2;have p3:=Zmh sD v3;have l2:=VA fun x hx=>(Z5 v2 x hx).2;have l3:=VA fun x hx=>(Z5 v3 x hx).2;have b2:=v2.1;have b3:=v3.1;have b1:=v1.1;unfold ZnM;by_cases q1:w=[115,116,111,99,107]
 ·rw[Kg q1];have e:=Qe (sS.length:Int) (by omega) (by omega);rw[Ky] at e;have aa : (w==[115,116,111,99,107])=true:=by rw[beq_iff_eq];exact q1
  refine cE ?_;simp +contextual -implicitDefEqProofs (maxSteps:=10^7) only[go_sem,seval,Y4,e,aa]
 ·rw[Kd q1];have aa : (w==[115,116,111,99,107])=false:=by rw[beq_eq_false_iff_ne];exact q1
  by_cases q2:w=[111,112,101,110]
  ·rw[Kg q2];have e:=Qe ((QO sO).length:Int) (by omega) (by omega);rw[Ky] at e;have ab : (w==[111,112,101,110])=true:=by rw[beq_iff_eq];exact q2
   refine cE ?_;simp +contextual -implicitDefEqProofs (maxSteps:=10^7) only[go_sem,seval,Y4,p2,e,aa,ab]
  ·rw[Kd q2];have ab : (w==[111,112,101,110])=false:=by rw[beq_eq_false_iff_ne];exact q2
   by_cases q3:w=[100,111,110,101]
   ·rw[Kg q3];have e:=Qe ((QO sD).length:Int) (by omega) (by omega);rw[Ky] at e;have ad : (w==[100,111,110,101])=true:=by rw[beq_iff_eq];exact q3
    refine cE ?_;simp +contextual -implicitDefEqProofs (maxSteps:=10^7) only[go_sem,seval,Y4,p3,e,aa,ab,ad]
   ·rw[Kd q3];have ad : (w==[100,111,110,101])=false:=by rw[beq_eq_false_iff_ne];exact q3
    by_cases q4:w=[108,111,115,116]
    ·rw[Kg q4];have e:=Qe sL h1 (by omega);have ae : (w==[108,111,115,116])=true:=by rw[beq_iff_eq];exact q4
     refine cE ?_;simp +contextual -implicitDefEqProofs (maxSteps:=10^7) only[go_sem,seval,Y4,e,aa,ab,ad,ae]
    ·rw[Kd q4];have ae : (w==[108,111,115,116])=false:=by rw[beq_eq_false_iff_ne];exact q4
     by_cases q5:w=[99,97,109,101]
     ·rw[Kg q5];have e:=Qe sC h3 (by omega);have af : (w==[99,97,109,101])=true:=by rw[beq_iff_eq];exact q5
      refine cE ?_;simp +contextual -implicitDefEqProofs (maxSteps:=10^7) only[go_sem,seval,Y4,e,aa,ab,ad,ae,af]
     ·rw[Kd q5];have af : (w==[99,97,109,101])=false:=by rw[beq_eq_false_iff_ne];exact q5
      by_cases q6:w=[110,101,120,116]
      ·rw[Kg q6];have ag : (w==[110,101,120,116])=true:=by rw[beq_iff_eq];exact q6
       have e:=Zxp sS sO sD sL sC ah;cases hn:ZeQ (Zq.mk sS sO sD sL sC) with
       | none=>
        rw[hn] at e;unfold nxT at e;refine cE ?_;simp +contextual -implicitDefEqProofs (maxSteps:=10^7) only[go_sem,seval,Y4,e,aa,ab,ad,ae,af,ag]
       | some ev=>
        rw[hn] at e;obtain⟨K,L,⟨X,Y,W,H⟩,⟨⟨pW,pH,pT,pK⟩,C⟩,⟨o,a,q,t,ks⟩⟩:=ev;unfold nxT at e;simp only at e;have e2:=ZnG K L X Y W H pW pH pT pK C o a q t ks;rcases ks with _ | ⟨k1,ks⟩ <;>
        ·simp only[Kk,Ks] at e2;refine cE ?_;simp +contextual -implicitDefEqProofs (maxSteps:=10^7) only[go_sem,seval,Y4,e,e2,aa,ab,ad,ae,af,ag]
      ·rw[Kd q6];have ag : (w==[110,101,120,116])=false:=by rw[beq_eq_false_iff_ne];exact q6
       refine cE ?_;simp +contextual -implicitDefEqProofs (maxSteps:=10^7) only[go_sem,seval,Y4,aa,ab,ad,ae,af,ag]
end Go.Proofs.YtfnegoimdljanaaGreatDoor
