import Derived.Test.YtfnegoimdljanaaGreatDoorCC10
import Derived.Test.YtfnegoimdljanaaGreatDoorCC13
import Derived.Test.YtfnegoimdljanaaGreatDoorCC20
set_option linter.unusedSimpArgs false
set_option linter.unusedVariables false
namespace Go.Proofs.YtfnegoimdljanaaGreatDoor
open Go Go.Abs Go.Abs.E Go.Abs.L
set_option maxRecDepth 20000
set_option maxHeartbeats 4000000
theorem Zbu (p:Pane) (c:Int):∀ (l:List Zc),Qo (Yc p c l)=Qo l+c
 | []=>by simp[Yc,Qo]
 | x :: l=>by
  unfold Yc;split
  ·simp only[Qo];omega
  ·simp only[Qo,Zbu p c l];omega
theorem Zwv:∀ {l:List Zc} {a:Nat} {x y:Zc},l[a]?=some x→Qo (l.set a y)=Qo l-x.Count+y.Count
 | [],a,x,y,h=>by simp at h
 | z :: l,0,x,y,h=>by
  simp only[KT,Option.some.injEq] at h;subst h;simp only[Kaw,Qo];omega
 | z :: l,a+1,x,y,h=>by
  simp only[KU] at h;simp only[Kad,Qo,Zwv h];omega
theorem Zq7:∀ {l:List Zc} {a:Nat} {x:Zc},l[a]?=some x→Qo (l.eraseIdx a)=Qo l-x.Count
 | [],a,x,h=>by simp at h
 | z :: l,0,x,h=>by
  simp only[KT,Option.some.injEq] at h;subst h;simp only[List.eraseIdx_cons_zero,Qo];omega
 | z :: l,a+1,x,h=>by
  simp only[KU] at h;simp only[List.eraseIdx_cons_succ,Qo,Zq7 h];omega
theorem Zq8 {l:List Zc} {p:Pane} {c:Int} (hu:UL l) (h:Xe p c false l=true):Qo (XF l p c)=Qo l-c:=by
 by_cases hf:YZ 0 l p<0
 ·rw[Ziz (Zla hf)] at h;cases h
 ·obtain⟨a,x,h1,h2,h3,h4⟩:=Ziy (by omega:0≤YZ 0 l p);obtain⟨k1,k2⟩:=ZqN (c:=c) hu h2 h3;rw[k1,Ko] at h;rw[k2];split
  ·rw[Zwv h2];simp only;omega
  ·rw[Zq7 h2];omega
theorem ZmW:∀ {ps:List Pane} {us:List Int} {o d o' d' : List Zc},us.length=ps.length→YS ps us o d=some (o',d')→UL o→(∀ v∈us,0≤v) →
  Qo o'+Qo d'=Qo o+Qo d∧Qo d≤Qo d'∧((∃ v∈us,v≠0)→Qo d<Qo d')
 | [],us,o,d,o',d',hl,h,hu,hv=>by
  cases us with
  | nil=>unfold YS at h;cases h;simp
  | cons c us=>simp at hl
 | p :: ps,[],o,d,o',d',hl,h,hu,hv=>by simp at hl
 | p :: ps,c :: us,o,d,o',d',hl,h,hu,hv=>by
  rw[YS] at h;simp only[Kn,Nat.add_right_cancel_iff] at hl;have hc:=hv c (by simp);split at h
  ·rename_i h0;obtain⟨a,b,e⟩:=ZmW hl h hu (fun v h=>hv v (by simp[h]));refine⟨a,b,fun ⟨v,hm,hn⟩=>?_⟩;rcases Kd.1 hm with rfl | hm
   ·exact absurd h0 hn
   ·exact e ⟨v,hm,hn⟩
  ·rename_i h0;split at h
   ·rename_i ht;obtain⟨a,b,e⟩:=ZmW hl h (ZqO hu) (fun v h=>hv v (by simp[h]));rw[Zq8 hu ht,Zbu] at a;rw[Zbu] at b;exact⟨o_,o_,fun _=>by omega⟩
   ·cases h
structure AFacts (s:Zm) (e:Zo) (t:Zm):Prop where
 vs:ZE t
 came:t.Came=s.Came+(if e.kind=0 then e.box.W*e.box.H else 0)
 lost:s.Lost≤t.Lost
 cnt:Qo t.Opn+Qo t.Done=Qo s.Opn+Qo s.Done+(if e.kind=2 then e.line.Count else 0)
 lt:Qo t.Done<Qo s.Done↔e.kind=4
 gt:Qo s.Done<Qo t.Done↔e.kind=3
 sheet:e.kind=0→VA ⟨e.label,e.box.W,e.box.H,[]⟩ s.Stock∧e.box.X=0∧e.box.Y=0∧t = { s with Stock:=QB ⟨e.label,e.box.W,e.box.H,[]⟩ s.Stock,Came:=s.Came+e.box.W*e.box.H }
 ord:e.kind=2→Vn e.line
theorem Zww {s t:Zm} {e:Zo} (h:Qu s e=some t):evS s e=some t∧ZE t:=by
 have hv:=Zce h;unfold Qu YA at h;split at h
 ·split at h
  ·cases h;exact⟨by assumption,hv⟩
  ·cases h
 ·cases h
theorem Zx5 {s t:Zm} {e:Zo} (hs:ZE s) (h:Qu s e=some t):AFacts s e t:=by
 obtain⟨h,hv⟩:=Zww h;unfold evS at h;split at h
 ·rename_i k;split at h
  ·rename_i hr;cases h;exact⟨hv,by simp[k],Kab _,by simp[k],by simp[k],by simp[k],fun _=>⟨hr.1.1,hr.1.2,hr.2,rfl⟩,fun h=>by omega⟩
  ·cases h
 ·rename_i k0;split at h
  ·rename_i k;split at h
   ·cases h
   ·split at h
    ·cases h;exact⟨hv,by simp[k],Kab _,by simp[k],by simp[k],by simp[k],fun h=>absurd h k0,fun h=>by omega⟩
    ·cases h
  ·rename_i k1;split at h
   ·rename_i k;split at h
    ·cases h
    ·rename_i a q hq;cases h;have ae:q∈s.Stock:=by
      unfold ZwN at hq;split at hq
      ·obtain⟨x,hx,e⟩:=Option.map_eq_some_iff.1 hq;cases e;exact Kb hx
      ·cases hq
     have af:=(ZU hs.1.2 q ae).1;have:=UY (b:=⟨0,0,q.W,q.H⟩) (by simp only[VB];omega);simp only at this;exact⟨hv,by simp[k],p_,by simp[k],by simp[k],by simp[k],fun h=>absurd h k0,fun h=>by omega⟩
   ·rename_i k5;split at h
    ·rename_i k;split at h
     ·rename_i hl;cases h;have hc:=hl.2;refine⟨hv,by simp[k],Kab _,?_,by simp[k],by simp[k],fun h=>absurd h k0,fun _=>hl⟩;simp only[Zbu,k,Kl];omega
     ·cases h
    ·rename_i k2;split at h
     ·rename_i k;split at h
      ·rename_i hl;cases h;have hc:=hl.1.2;have ha:=Zbx hl.1;have h1:=Zq8 (Zfk hs.2.2.1) hl.2;refine⟨hv,by simp[k],p_,?_,?_,?_,fun h=>absurd h k0,fun h=>absurd h k2⟩
       ·simp only[Zbu,h1,k];simp;omega
       ·simp only[h1,k,iff_true];omega
       ·simp only[h1,k];omega
      ·cases h
     ·rename_i k4;split at h
      ·rename_i k;unfold ZcP at h;split at h
       ·cases h
       ·rename_i x hx;split at h
        ·cases h
        ·rename_i R hR;obtain⟨ab,_,_⟩:=Zlv hR;split at h
         ·rename_i hp;split at h
          ·cases h
          ·rename_i o d hg;cases h;have hu:=Zde ab;have ad:=Ztq ab hp;obtain⟨a,b,c⟩:=ZmW (by rw[hu.1]) hg (Zfk hs.2.1) (fun v h=>(hu.2 v h).1);have c:=c ad;have ag:=Zet (l:=Zc5 ⟨x.W,x.H,s.Opn.map Zc.Pane⟩ e.plan 5) (fun c hc=>by
            obtain⟨z,hz,aa⟩:=Ls.1 hc;unfold WM at aa;split at aa
            ·cases aa;exact Zbq ab c hz
            ·cases aa)
           refine⟨hv,by simp[k],p_,?_,?_,?_,fun h=>absurd h k0,fun h=>absurd h k2⟩
           ·simp only[k];simp;omega
           ·simp only[k];omega
           ·simp only[k,iff_true];omega
         ·cases h
      ·cases h
theorem Zdd (a:List Zc) (ha:a.length<4611686018427387904):v_ 54 [(.d (.sl (a.map Zc.enc))),(.d (.sl (a.map Zc.enc)))] []=some ((.d (.bool true)),[]):=by
 refine cE ?_;simp (maxSteps:=10^7) +contextual -implicitDefEqProofs only[go_sem,seval,ZhI];refine LO (α:=Nat) (fun k=>[(5,.d (J (k:Int)))]) (fun _=>[]) (fun k=>k≤a.length) (fun k=>a.length-k) 0 o_ ?_;intro k hk ih;by_cases aa:k<a.length
 ·obtain⟨x,hx⟩:=Zp aa;have hw:=Zh (k:=k) o_;simp (maxSteps:=10^7) +contextual -implicitDefEqProofs only[go_sem,seval,hx,aa,hw];refine ih (k+1) _ o_ o_ ?_;simp (maxSteps:=10^7) +contextual -implicitDefEqProofs only[go_sem,seval]
 ·have:k=a.length:=o_
  subst this;simp (maxSteps:=10^7) +contextual -implicitDefEqProofs only[go_sem,seval]
theorem JW (sS:List Zb) (sO sD:List Zc) (sL sC:Int) (hs:Un (Zm.mk sS sO sD sL sC)):v_ 21 [(.d (.agg [.sl (sS.map Zb.enc),.sl (sO.map Zc.enc),.sl (sD.map Zc.enc),J sL,J sC])),(.d (.agg [.sl (sS.map Zb.enc),.sl (sO.map Zc.enc),.sl (sD.map Zc.enc),J sL,J sC]))] []=some ((.d (.bool true)),[]):=by
 obtain⟨h1,h2,h3,h4⟩:=hs;simp only at h1 h2 h3 h4;have e1:=ZoI sS sS o_ (fun x hx=>by have:=(h2 x hx).1;omega);rw[Kg rfl] at e1;have e2:=Zdd sO o_;have e3:=Zdd sD o_;refine cE ?_;simp (maxSteps:=10^7) +contextual -implicitDefEqProofs only[go_sem,seval,Zjd,e1,e2,e3]
def runL:Zm→List Zo→Option Zm
 | s,[]=>some s
 | s,e :: l=>match Qu s e with
  | some t=>runL t l
  | none=>none
theorem Ztz {s:Zm} {l:List Zo} {k:Nat} {e:Zo} (hx:l[k]?=some e):runL s (l.drop k)=match Qu s e with
  | some t=>runL t (l.drop (k+1))
  | none=>none:=by
 obtain⟨h1,h2⟩:=Kc.1 hx;rw[Kx h1,h2,runL]
end Go.Proofs.YtfnegoimdljanaaGreatDoor
namespace Go.Proofs.YtfnegoimdljanaaGreatDoor
open Go Go.Abs Go.Abs.E Go.Abs.L
set_option maxRecDepth 20000
set_option maxHeartbeats 4000000
theorem W7 (qL qW qH:Int) (qF:List Box) (w h:Int) (hq:VPc (Zb.mk qL qW qH qF)) (hw:1≤w∧w≤200) (hh:1≤h∧h≤200):v_ 84 [(.d (.agg [J qL,J qW,J qH,.sl (qF.map Box.enc)])),(.d (J w)),(.d (J h))] []=some (fcV (Q5 (Zb.mk qL qW qH qF) w h)):=by
 have e0:=QT qL qW qH qF;rw[Kg hq] at e0;have hF:∀ f∈qF,VB f:=fun f hf=>(hq.2 f hf).1;obtain⟨_,_,af,ag,ah,ai,aj⟩:=hq.1;simp only at af ag ah ai aj;clear hq;have n1:¬w<1:=o_
 have n2:¬(200:Int)<w:=o_
 have n3:¬h<1:=o_
 have n4:¬(200:Int)<h:=o_
 unfold Q5;simp only;refine cE ?_;simp (maxSteps:=10^7) +contextual -implicitDefEqProofs only[go_sem,seval,ZhR,e0,n1,n2,n3,n4];refine LO (α:=Nat) (fun y=>[(8,.d (J (y:Int)))]) (fun _=>[]) (fun y=>(y:Int)≤qH∧Zrt qF qW qH w h (qH.toNat+1-y) y=Zrt qF qW qH w h (qH.toNat+1) 0) (fun y=>qH.toNat+1-y) 0 ⟨o_,by simp⟩ ?_;intro y ⟨hy,hp⟩ ih;obtain⟨n,hn⟩:∃ n,qH.toNat+1-y=n+1:=⟨qH.toNat-y,o_⟩
 rw[hn,Zrt] at hp;have wy:=wi ((y:Int)+h) o_ o_;by_cases ad:(y:Int)+h≤qH
 ·rw[Kj ad] at hp;simp (maxSteps:=10^7) +contextual -implicitDefEqProofs only[go_sem,seval,wy,ad];refine Yh Xs Ms (st0:=?st1) (α:=Nat) (fun x=>[(9,.d (J (x:Int)))]) (fun _=>[]) (fun x=>(x:Int)≤qW∧Zrs qF qW w h y (qW.toNat+1-x) x=Zrs qF qW w h y (qW.toNat+1) 0) (fun x=>qW.toNat+1-x) 0 ?hc2 ⟨o_,by simp⟩ ?h02 ?step2
  case hc2=>simp (maxSteps:=10^7) +contextual -implicitDefEqProofs only[go_sem,seval]<;>exact rfl
  case h02=>rfl
  case step2=>
   intro x ⟨hx,aa⟩ ak;obtain⟨m,hm⟩:∃ m,qW.toNat+1-x=m+1:=⟨qW.toNat-x,o_⟩
   rw[hm,Zrs] at aa;have wx:=wi ((x:Int)+w) o_ o_;have al:=Zh (k:=x) o_;have am:=Zh (k:=y) o_;by_cases ab:(x:Int)+w≤qW
   ·rw[Kj ab] at aa;have ec:=Zhh qF x y w h hF (by simp only[VB];omega) o_;by_cases ae:Z3 qF ⟨x,y,w,h⟩
    ·rw[Kj ae] at aa;rw[← aa] at hp;simp only at hp;rw[Kg ae] at ec;simp (maxSteps:=10^7) +contextual -implicitDefEqProofs only[go_sem,seval,wx,ab,ec,Bool.not_true];rw[← hp];rfl
    ·rw[Ke ae] at aa;rw[Ki ae] at ec;simp (maxSteps:=10^7) +contextual -implicitDefEqProofs only[go_sem,seval,wx,ab,ec,al,Kay];refine ak (x+1) _ ⟨o_,?_⟩ o_ ?_
     ·rw[← aa];have:qW.toNat+1-(x+1)=m:=o_
      rw[this];rfl
     ·simp (maxSteps:=10^7) +contextual -implicitDefEqProofs only[go_sem,seval]
   ·rw[Ke ab] at aa;rw[← aa] at hp;simp only at hp;simp (maxSteps:=10^7) +contextual -implicitDefEqProofs only[go_sem,seval,wx,ab,am];refine ih (y+1) _ ⟨o_,?_⟩ o_ ?_
    ·rw[← hp];have:qH.toNat+1-(y+1)=n:=o_
     rw[this];rfl
    ·simp (maxSteps:=10^7) +contextual -implicitDefEqProofs only[go_sem,seval]
 ·rw[Ke ad] at hp;simp (maxSteps:=10^7) +contextual -implicitDefEqProofs only[go_sem,seval,wy,ad];rw[← hp];rfl
theorem Zq9 (qL qW qH:Int) (qF:List Box) (pW pH:Int) (pT:Bool) (pK:Int) (hq:VPc (Zb.mk qL qW qH qF)) (hp:VP (Pane.mk pW pH pT pK)):v_ 80 [(.d (.agg [J qL,J qW,J qH,.sl (qF.map Box.enc)])),(.d (.agg [J pW,J pH,.bool pT,J pK]))] []=some ((.d (.bool (okP (Pane.mk pW pH pT pK) (Zb.mk qL qW qH qF)))),[]):=by
 have aa:1≤pW∧pW≤200∧1≤pH∧pH≤200:=⟨hp.1,hp.2.1,hp.2.2.1,hp.2.2.2.1⟩
 have f1:=W7 qL qW qH qF pW pH hq ⟨aa.1,aa.2.1⟩ aa.2.2;have f2:=W7 qL qW qH qF pH pW hq aa.2.2 ⟨aa.1,aa.2.1⟩;have ab:okP (Pane.mk pW pH pT pK) (Zb.mk qL qW qH qF)=((Q5 ⟨qL,qW,qH,qF⟩ pW pH).isSome || (pT&&(Q5 ⟨qL,qW,qH,qF⟩ pH pW).isSome)):=rfl;rw[ab];cases h1:Q5 ⟨qL,qW,qH,qF⟩ pW pH with
 | some b1=>
  rw[h1] at f1;unfold fcV at f1;obtain⟨bX,bY,bW,bH⟩:=b1;refine cE ?_;simp (maxSteps:=10^7) +contextual -implicitDefEqProofs only[go_sem,seval,WW,f1,Lg,Bool.true_or]
 | none=>
  rw[h1] at f1;unfold fcV at f1;cases pT with
  | false=>
   refine cE ?_;simp (maxSteps:=10^7) +contextual -implicitDefEqProofs only[go_sem,seval,WW,f1,KP,LN,Bool.false_and]
  | true=>
   cases h2:Q5 ⟨qL,qW,qH,qF⟩ pH pW with
   | some b2=>
    rw[h2] at f2;unfold fcV at f2;obtain⟨bX,bY,bW,bH⟩:=b2;refine cE ?_;simp (maxSteps:=10^7) +contextual -implicitDefEqProofs only[go_sem,seval,WW,f1,f2,KP,Lg,LN,Kaf]
   | none=>
    rw[h2] at f2;unfold fcV at f2;refine cE ?_;simp (maxSteps:=10^7) +contextual -implicitDefEqProofs only[go_sem,seval,WW,f1,f2,KP,LN,Kaf]
theorem Zra (l:List Zb) (pW pH:Int) (pT:Bool) (pK:Int) (hv:VSt l) (hp:VP (Pane.mk pW pH pT pK)):v_ 39 [(.d (.sl (l.map Zb.enc))),(.d (.agg [J pW,J pH,.bool pT,J pK]))] []=some ((.d (J (ZtS l (Pane.mk pW pH pT pK)))),[]):=by
 have e1:=Ym l;have e2:=UZ pW pH pT pK;rw[Kg hv] at e1;rw[Kg hp] at e2;have ab:=fun x hx=>ZU hv.2 x hx;have af:=hv.1;unfold ZtS;rw[Kj ⟨hv,hp⟩];refine cE ?_;simp (maxSteps:=10^7) +contextual -implicitDefEqProofs only[go_sem,seval,Zjj,e1,e2];refine LO (α:=Nat×Int×Int×Int) (fun s=>[(20,.d (J (s.1:Int))),(5,.d (J s.2.2.1)),(6,.d (J s.2.2.2))]) (fun _=>[]) (fun s=>s.1≤l.length∧ZaI l (Pane.mk pW pH pT pK) (l.drop s.1) s.1 s.2.1=Zdf l (Pane.mk pW pH pT pK)∧((s.2.1=-1∧s.2.2.1=0)∨∃ (j:Nat) (y:Zb),s.2.1=(j:Int)∧l[j]?=some y∧s.2.2.1=y.Label∧s.2.2.2=y.W*y.H)) (fun s=>l.length-s.1) (0,-1,0,0) ⟨by simp,by simp[Zdf],.inl ⟨rfl,rfl⟩⟩ ?_
 intro⟨i,b,lb,ls⟩ ⟨hi,hq,hb⟩ ih;simp only at hi hq hb;by_cases aa:i<l.length
 ·obtain⟨x,hx⟩:=Zp aa;have hw:=Zh (k:=i) o_;rw[Zn1 hx] at hq;have ae:=ab x (Kb hx);have f1:=Zq9 x.Label x.W x.H x.Flaws pW pH pT pK ae hp;have ag:=ae.1;have ah:0≤x.W*x.H∧x.W*x.H≤40000:=UY (b:=⟨0,0,x.W,x.H⟩) (by simp only[VB];omega);obtain⟨L,W,H,F⟩:=x;simp only at f1 ah hq ag;have u1:=wi (W*H) o_ o_;by_cases hc:lb=0∨W*H<ls
  ·have ai:b<0∨W*H<Zfw l b:=by
    rcases hb with ⟨h1,h2⟩ | ⟨j,y,h1,h2,h3,h4⟩
    ·left;omega
    ·have:=(ab y (Kb h2)).1;right
     unfold Zfw;rw[h1,Ky,h2];simp only;rcases hc with hc | hc
     ·omega
     ·omega
   by_cases ad:okP (Pane.mk pW pH pT pK) ⟨L,W,H,F⟩=true
   ·rw[ad] at f1;rw[Kj ⟨ad,ai⟩] at hq;rcases hc with hc | hc
    ·simp (maxSteps:=10^7) +contextual -implicitDefEqProofs only[go_sem,seval,hx,aa,hw,f1,u1,hc];refine ih (i+1,(i:Int),L,W*H) _ ⟨p_,hq,.inr ⟨i,⟨L,W,H,F⟩,rfl,hx,rfl,rfl⟩⟩ p_ ?_;simp (maxSteps:=10^7) +contextual -implicitDefEqProofs only[go_sem,seval]
    ·by_cases h0:lb=0
     ·simp (maxSteps:=10^7) +contextual -implicitDefEqProofs only[go_sem,seval,hx,aa,hw,f1,u1,h0];refine ih (i+1,(i:Int),L,W*H) _ ⟨p_,hq,.inr ⟨i,⟨L,W,H,F⟩,rfl,hx,rfl,rfl⟩⟩ p_ ?_;simp (maxSteps:=10^7) +contextual -implicitDefEqProofs only[go_sem,seval]
     ·simp (maxSteps:=10^7) +contextual -implicitDefEqProofs only[go_sem,seval,hx,aa,hw,f1,u1,h0,hc];refine ih (i+1,(i:Int),L,W*H) _ ⟨p_,hq,.inr ⟨i,⟨L,W,H,F⟩,rfl,hx,rfl,rfl⟩⟩ p_ ?_;simp (maxSteps:=10^7) +contextual -implicitDefEqProofs only[go_sem,seval]
   ·rw[Ke (fun h=>ad h.1)] at hq;simp only[Lz] at ad;rw[ad] at f1;by_cases h0:lb=0
    ·simp (maxSteps:=10^7) +contextual -implicitDefEqProofs only[go_sem,seval,hx,aa,hw,f1,u1,h0];refine ih (i+1,b,0,ls) _ ⟨p_,hq,by rw[h0] at hb;exact hb⟩ p_ ?_;simp (maxSteps:=10^7) +contextual -implicitDefEqProofs only[go_sem,seval]
    ·have hc:W*H<ls:=hc.resolve_left h0;simp (maxSteps:=10^7) +contextual -implicitDefEqProofs only[go_sem,seval,hx,aa,hw,f1,u1,h0,hc];refine ih (i+1,b,lb,ls) _ ⟨p_,hq,hb⟩ p_ ?_;simp (maxSteps:=10^7) +contextual -implicitDefEqProofs only[go_sem,seval]
  ·have h0:¬lb=0:=fun h=>hc (.inl h);have h1:¬W*H<ls:=fun h=>hc (.inr h);rw[Ke (fun h=>by
    rcases hb with ⟨h2,h3⟩ | ⟨j,y,h2,h3,h4,h5⟩
    ·exact h0 h3
    ·rcases h.2 with h6 | h6
     ·omega
     ·unfold Zfw at h6;rw[h2,Ky,h3] at h6;simp only at h6;omega)] at hq
   simp (maxSteps:=10^7) +contextual -implicitDefEqProofs only[go_sem,seval,hx,aa,hw,f1,u1,h0,h1];refine ih (i+1,b,lb,ls) _ ⟨p_,hq,hb⟩ p_ ?_;simp (maxSteps:=10^7) +contextual -implicitDefEqProofs only[go_sem,seval]
 ·have:i=l.length:=o_
  subst this;rw[Zru] at hq;rcases hb with ⟨h1,h2⟩ | ⟨j,y,h1,h2,h3,h4⟩
  ·have hn:Zdf l (Pane.mk pW pH pT pK)<0:=o_
   simp (maxSteps:=10^7) +contextual -implicitDefEqProofs only[go_sem,seval];rw[Kj hn,h2]
  ·have hn:¬Zdf l (Pane.mk pW pH pT pK)<0:=o_
   simp (maxSteps:=10^7) +contextual -implicitDefEqProofs only[go_sem,seval];rw[Ke hn,← hq,h1,Ky,h2,h3]
mutual
theorem Zf.enc_inj:∀ (p q:Zf),p.enc=q.enc→p=q
 | .mk o a i t ks,.mk o' a' i' t' ks',h=>by
  rw[Zf.enc_mk,Zf.enc_mk] at h;injection h with h;simp only[List.cons.injEq,D.int.injEq,D.bool.injEq,D.sl.injEq,true_and,and_true] at h;obtain⟨rfl,rfl,rfl,rfl,h⟩:=h;rw[Zf.encL_inj ks ks' h]
theorem Zf.encL_inj:∀ (l m:List Zf),l.map Zf.enc=m.map Zf.enc→l=m
 | [],[],_=>rfl
 | [],_ :: _,h=>by simp at h
 | _ :: _,[],h=>by simp at h
 | x :: l,y :: m,h=>by
  rw[Kk,Kk] at h;injection h with h1 h2;rw[Zf.enc_inj x y h1,Zf.encL_inj l m h2]
end
theorem ZAq {X:Option BT} {p:Zf} (h:plV X=U7 p):∃ b,X=some b∧b.plan=p:=by
 obtain⟨o,a,q,t,ks⟩:=p;cases X with
 | none=>simp[plV,U7] at h
 | some b=>
  obtain⟨o',a',q',t',aa,eb⟩:=Zb2 b;simp only[plV,U7,eb] at h;simp only[Prod.mk.injEq,AV.tup.injEq,List.cons.injEq,AV.agg.injEq,AV.d.injEq,D.int.injEq,D.bool.injEq,Zk.row.injEq,true_and,and_true] at h;obtain⟨⟨rfl,rfl,rfl,rfl⟩,h⟩:=h;exact⟨b,rfl,by rw[eb,Zf.encL_inj _ _ h]⟩
theorem ZBQ {k:Zt} {c:L.Place} (hw:VW k) (hc:Zb3 k c):plT (popL k [c])=plT (some (Z5 c.Pane c.Turned c.Box.X c.Box.Y c.Box.W c.Box.H 0 0 k.W k.H))∧VPl k [c]:=by
 have hv:VPl k [c]:=by
  refine⟨⟨hw,by simp⟩,fun d hd=>?_,?_⟩
  ·rw[KG.1 hd];exact hc
  ·unfold Zga;simp
 refine⟨?_,hv⟩;obtain⟨h1,h2,h3,h4⟩:=Ztp hv;have hG:=ZrW (k.W+k.H).toNat [c] 0 0 k.W k.H h1 h2 (Kp _) (by simp);have hi:=h2 c (by simp);obtain⟨P,T,⟨X,Y,W,H⟩⟩:=c;have hO:=Zi9 P T X Y W H 0 0 k.W k.H (by simp only[VB] at h1;simp only[VB,QE] at hi;unfold Zcf;omega);have h:some (plV (YG (k.W+k.H).toNat [⟨P,T,⟨X,Y,W,H⟩⟩] ⟨0,0,k.W,k.H⟩))=some (U7 (Z5 P T X Y W H 0 0 k.W k.H).plan):=hG.symm.trans hO;unfold popL;rw[Kj hv];obtain⟨b,hb,aa⟩:=ZAq (Option.some.inj h);rw[hb];simp only[plT,aa]
def nxT:Option Zo→AV×List Zk
 | some ⟨k,l,⟨x,y,w,h⟩,⟨⟨pw,ph,pt,pk⟩,c⟩,.mk o a q t ks⟩=>(.tup [.agg [(.d (J k)),(.d (J l)),(.d (J x)),(.d (J y)),(.d (J w)),(.d (J h)),(.d (J pw)),(.d (J ph)),(.d (.bool pt)),(.d (J pk)),(.d (J c)),(.d (J o)),(.d (J a)),(.d (J q)),(.d (.bool t)),.own 0],(.d (.bool true))],[plO ks])
 | none=>(.tup [.agg [(.d (J 0)),(.d (J 0)),(.d (J 0)),(.d (J 0)),(.d (J 0)),(.d (J 0)),(.d (J 0)),(.d (J 0)),(.d (.bool false)),(.d (J 0)),(.d (J 0)),(.d (J 0)),(.d (J 0)),(.d (J 0)),(.d (.bool false)),.own 0],(.d (.bool false))],[.row 5 [] true false])
def cfV (ok:Bool):Zo→AV×List Zk
 | ⟨k,l,⟨x,y,w,h⟩,⟨⟨pw,ph,pt,pk⟩,c⟩,.mk o a q t ks⟩=>(.tup [.agg [(.d (J k)),(.d (J l)),(.d (J x)),(.d (J y)),(.d (J w)),(.d (J h)),(.d (J pw)),(.d (J ph)),(.d (.bool pt)),(.d (J pk)),(.d (J c)),(.d (J o)),(.d (J a)),(.d (J q)),(.d (.bool t)),.own 0],(.d (.bool ok))],[plO ks])
theorem Zwx (sS:List Zb) (sO sD:List Zc) (sL sC:Int) (qL qW qH:Int) (qF:List Box) (i:Nat) (pW pH:Int) (pT:Bool) (pK:Int) (hv:ZE (Zm.mk sS sO sD sL sC)) (a:Nat) (ha:sS[a]?=some (Zb.mk qL qW qH qF)) (y:Zc) (hy:sO[i]?=some y) (ai:y.Pane=(Pane.mk pW pH pT pK)) (af:okP (Pane.mk pW pH pT pK) (Zb.mk qL qW qH qF)=true) :
  ∃ (t:Bool) (b:Box),((Q5 (Zb.mk qL qW qH qF) pW pH=some b∧t=false)∨(Q5 (Zb.mk qL qW qH qF) pW pH=none∧Q5 (Zb.mk qL qW qH qF) pH pW=some b∧t=true))∧Zb3 ⟨qW,qH,sO.map Zc.Pane⟩ ⟨i,t,b⟩∧VW ⟨qW,qH,sO.map Zc.Pane⟩ ∧
   v_ 41 [(.d (.agg [.sl (sS.map Zb.enc),.sl (sO.map Zc.enc),.sl (sD.map Zc.enc),J sL,J sC])),(.d (.agg [J qL,J qW,J qH,.sl (qF.map Box.enc)])),(.d (J i)),(.d (.agg [J pW,J pH,.bool pT,J pK]))] []=some (cfV (Qu (Zm.mk sS sO sD sL sC) (Zj4 i t b (Zb.mk qL qW qH qF))).isSome (Zj4 i t b (Zb.mk qL qW qH qF))):=by
 have ag:=ZU hv.1.2 _ (Kb ha);have al:=ag.1;simp only at al;have hp:VP (Pane.mk pW pH pT pK):=by rw[← ai];exact(QK hv.2.1 y (Kb hy)).1
 have ae:1≤pW∧pW≤200∧1≤pH∧pH≤200:=⟨hp.1,hp.2.1,hp.2.2.1,hp.2.2.2.1⟩
 have e1:=ZlA sS sO sD sL sC qL;unfold Zza at e1;have ab:=Zly (k:=0) hv.1.2 ha;rw[K8] at ab;rw[Kj hv] at e1;simp only at ab;simp only[Zby ab ha] at e1;unfold wkV at e1;simp only at e1;have f1:=W7 qL qW qH qF pW pH ag ⟨ae.1,ae.2.1⟩ ae.2.2;have f2:=W7 qL qW qH qF pH pW ag ae.2.2 ⟨ae.1,ae.2.1⟩;have am:=hv.2.1.1;simp only at am;have ah:VW ⟨qW,qH,sO.map Zc.Pane⟩:=by
  refine⟨p_,p_,p_,p_,by simp;omega,fun z hz=>?_⟩;obtain⟨x,hx,rfl⟩:=Lk.1 hz;exact(QK hv.2.1 x hx).1
 have aj:(sO.map Zc.Pane)[i]?=some (Pane.mk pW pH pT pK):=by rw[Ld,hy,← ai];rfl
 have ak:∀ (t:Bool) (b:Box),Zb3 ⟨qW,qH,sO.map Zc.Pane⟩ ⟨i,t,b⟩→∃ (o a' p' : Int) (t' : Bool) (ks:List Zf),(Z5 i t b.X b.Y b.W b.H 0 0 qW qH).plan=.mk o a' p' t' ks ∧
   v_ 85 [.d (.agg [J qW,J qH,.sl ((sO.map Zc.Pane).map Pane.enc)]),.d (.sl [.agg [J (i:Int),.bool t,J b.X,J b.Y,J b.W,J b.H]])] []=some (.tup [.agg [(.d (J o)),(.d (J (a'))),(.d (J (p'))),(.d (.bool (t'))),.own 0],(.d (.bool true))],[plO ks]):=by
  intro t b hc;have e:=Zk9 qW qH (sO.map Zc.Pane) [⟨i,t,b⟩];rw[(ZBQ ah hc).1] at e;simp only[plT] at e;cases hpp:(Z5 i t b.X b.Y b.W b.H 0 0 qW qH).plan with
  | mk o a' p' t' ks=>
   rw[hpp] at e;exact⟨o,a',p',t',ks,rfl,e⟩
 cases h1:Q5 (Zb.mk qL qW qH qF) pW pH with
 | some b=>
  obtain⟨g1,g2,g3,g4,g5,g6,_⟩:=Zau h1;simp only at g2 g4;have hc:Zb3 ⟨qW,qH,sO.map Zc.Pane⟩ ⟨i,false,b⟩:=by
   refine⟨⟨?_,?_⟩,?_⟩
   ·simp only[VB];omega
   ·simp only[QE];omega
   ·simp[XD,aj,g5,g6]
  refine⟨false,b,.inl ⟨rfl,rfl⟩,hc,ah,?_⟩;obtain⟨o,a',p',t',ks,k1,k2⟩:=ak false b hc;rw[h1] at f1;have e5:=Vk sS sO sD sL sC 3 qL 0 0 0 0 0 0 false 0 0 o a' p' t' ks;rw[Kj hv] at e5;unfold Zj4;simp only[k1];obtain⟨bX,bY,bW,bH⟩:=b;unfold fcV at f1;simp only at f1 k2;cases hap:Qu (Zm.mk sS sO sD sL sC) ⟨3,qL,⟨0,0,0,0⟩,⟨⟨0,0,false,0⟩,0⟩,.mk o a' p' t' ks⟩ with
  | none=>
   rw[hap] at e5;unfold shT at e5;unfold cfV;refine cE ?_;by_cases aa:ks=[]
   ·subst aa;simp only[Kt] at e5;simp +contextual -implicitDefEqProofs (maxSteps:=10^7) only[go_sem,seval,Vd,e1,f1,k2,e5,KP]
   ·have ad:=Zfi aa;simp +contextual -implicitDefEqProofs (maxSteps:=10^7) only[go_sem,seval,Vd,e1,f1,k2,e5,KP,ad]
  | some u=>
   rw[hap] at e5;obtain⟨a1,a2,a3,a4,a5⟩:=u;unfold shT at e5;simp only at e5;unfold cfV;refine cE ?_;by_cases aa:ks=[]
   ·subst aa;simp only[Kt] at e5;simp +contextual -implicitDefEqProofs (maxSteps:=10^7) only[go_sem,seval,Vd,e1,f1,k2,e5,Lg]
   ·have ad:=Zfi aa;simp +contextual -implicitDefEqProofs (maxSteps:=10^7) only[go_sem,seval,Vd,e1,f1,k2,e5,Lg,ad]
 | none=>
  unfold okP at af;simp only[h1,KP,LN,Kf] at af;obtain⟨hT,hs⟩:=af;subst hT;cases h2:Q5 (Zb.mk qL qW qH qF) pH pW with
  | none=>rw[h2] at hs;cases hs
  | some b=>
   obtain⟨g1,g2,g3,g4,g5,g6,_⟩:=Zau h2;simp only at g2 g4;have an:¬pW=pH:=fun h=>by rw[h] at h1 h2;rw[h1] at h2;cases h2
   have hc:Zb3 ⟨qW,qH,sO.map Zc.Pane⟩ ⟨i,true,b⟩:=by
    refine⟨⟨?_,?_⟩,?_⟩
    ·simp only[VB];omega
    ·simp only[QE];omega
    ·simp[XD,aj,g5,g6,an]
   refine⟨true,b,.inr ⟨rfl,rfl,rfl⟩,hc,ah,?_⟩;obtain⟨o,a',p',t',ks,k1,k2⟩:=ak true b hc;rw[h1] at f1;rw[h2] at f2;have e5:=Vk sS sO sD sL sC 3 qL 0 0 0 0 0 0 false 0 0 o a' p' t' ks;rw[Kj hv] at e5;unfold Zj4;simp only[k1];obtain⟨bX,bY,bW,bH⟩:=b;unfold fcV at f1 f2;simp only at f1 f2 k2;cases hap:Qu (Zm.mk sS sO sD sL sC) ⟨3,qL,⟨0,0,0,0⟩,⟨⟨0,0,false,0⟩,0⟩,.mk o a' p' t' ks⟩ with
   | none=>
    rw[hap] at e5;unfold shT at e5;unfold cfV;refine cE ?_;by_cases aa:ks=[]
    ·subst aa;simp only[Kt] at e5;simp +contextual -implicitDefEqProofs (maxSteps:=10^7) only[go_sem,seval,Vd,e1,f1,f2,k2,e5,KP]
    ·have ad:=Zfi aa;simp +contextual -implicitDefEqProofs (maxSteps:=10^7) only[go_sem,seval,Vd,e1,f1,f2,k2,e5,KP,ad]
   | some u=>
    rw[hap] at e5;obtain⟨a1,a2,a3,a4,a5⟩:=u;unfold shT at e5;simp only at e5;unfold cfV;refine cE ?_;by_cases aa:ks=[]
    ·subst aa;simp only[Kt] at e5;simp +contextual -implicitDefEqProofs (maxSteps:=10^7) only[go_sem,seval,Vd,e1,f1,f2,k2,e5,Lg]
    ·have ad:=Zfi aa;simp +contextual -implicitDefEqProofs (maxSteps:=10^7) only[go_sem,seval,Vd,e1,f1,f2,k2,e5,Lg,ad]
theorem ZuT (sS:List Zb) (sO sD:List Zc) (sL sC:Int) (hv:ZE (Zm.mk sS sO sD sL sC)):v_ 15 [(.d (.agg [.sl (sS.map Zb.enc),.sl (sO.map Zc.enc),.sl (sD.map Zc.enc),J sL,J sC]))] []=some (nxT (Vo (Zm.mk sS sO sD sL sC))):=by
 have e1:=ZT sS sO sD sL sC;rw[Kg hv] at e1;have ai:=hv.2.1.1;have af:=hv.1.1;simp only at ai af;refine cE ?_;simp (maxSteps:=10^7) +contextual -implicitDefEqProofs only[go_sem,seval,Zn2,e1];refine LO (α:=Nat) (fun i=>[(17,.d (J (i:Int)))]) (fun _=>[]) (fun i=>i≤sO.length∧Wa (Zm.mk sS sO sD sL sC) (sO.drop i) i=Vo (Zm.mk sS sO sD sL sC)) (fun i=>sO.length-i) 0 ⟨o_,by simp[Vo]⟩ ?_;intro i ⟨hi,hp⟩ ih;by_cases aa:i<sO.length
 ·obtain⟨x,hx⟩:=Zp aa;have hw:=Zh (k:=i) o_;rw[Zhv hx] at hp;have ag:=QK hv.2.1 x (Kb hx);have aj:=hx;obtain⟨⟨W,H,T,K⟩,C⟩:=x;simp only at ag;have ef:=Zra sS W H T K hv.1 ag.1;unfold ZtS at ef;rw[Kj ⟨hv.1,ag.1⟩] at ef;unfold Zry at hp;simp only at hp;rcases Zrv sS ⟨W,H,T,K⟩ with h0 | ⟨j,q,hj,hq,ak⟩
  ·rw[Kj h0] at ef hp;simp only at hp;simp (maxSteps:=10^7) +contextual -implicitDefEqProofs only[go_sem,seval,hx,aa,hw,ef];refine ih (i+1) _ ⟨o_,hp⟩ o_ ?_;simp (maxSteps:=10^7) +contextual -implicitDefEqProofs only[go_sem,seval]
  ·have al:¬(j:Int)<0:=o_
   rw[hj,Ke al,Ky,hq] at ef hp;simp only at hp ef;have am:=ZU hv.1.2 q (Kb hq);have ae:=(Kc.1 hq).1;have el:=Ya sS q.Label o_;rw[Zly hv.1.2 hq,K8] at el;have ab:0<q.Label:=by have:=am.1;omega
   obtain⟨qL,qW,qH,qF⟩:=q;simp only at ef el hp ab;obtain⟨t,b,hb,_,_,ec⟩:=Zwx sS sO sD sL sC qL qW qH qF i W H T K hv j hq _ aj rfl ak;have hp:(if (Qu (Zm.mk sS sO sD sL sC) (Zj4 i t b ⟨qL,qW,qH,qF⟩)).isSome=true then some (Zj4 i t b ⟨qL,qW,qH,qF⟩) else Wa (Zm.mk sS sO sD sL sC) (sO.drop (i+1)) (i+1))=Vo (Zm.mk sS sO sD sL sC):=by
    rcases hb with ⟨k1,rfl⟩ | ⟨k1,k2,rfl⟩
    ·rw[k1] at hp;exact hp
    ·rw[k1,k2] at hp;exact hp
   unfold Zj4 at ec hp;cases hpp:(Z5 i t b.X b.Y b.W b.H 0 0 qW qH).plan with
   | mk o a p t' ks=>
    simp only[hpp] at ec hp;unfold cfV at ec;simp only at ec;cases hap:Qu (Zm.mk sS sO sD sL sC) ⟨3,qL,⟨0,0,0,0⟩,⟨⟨0,0,false,0⟩,0⟩,.mk o a p t' ks⟩ with
    | none=>
     rw[hap] at ec hp;simp only[KP,Ka,Km] at ec hp;by_cases ad:ks=[]
     ·subst ad;simp (maxSteps:=10^7) +contextual -implicitDefEqProofs only[go_sem,seval,hx,aa,hw,ef,el,ec,ab,ae,hq,Zy0];refine ih (i+1) _ ⟨o_,hp⟩ o_ ?_;simp (maxSteps:=10^7) +contextual -implicitDefEqProofs only[go_sem,seval]
     ·have ah:=Zfi ad;simp (maxSteps:=10^7) +contextual -implicitDefEqProofs only[go_sem,seval,hx,aa,hw,ef,el,ec,ab,ae,hq,ah];refine ih (i+1) _ ⟨o_,hp⟩ o_ ?_;simp (maxSteps:=10^7) +contextual -implicitDefEqProofs only[go_sem,seval]
    | some u=>
     rw[hap] at ec hp;simp only[Lg,Kl] at ec hp;rw[← hp];unfold nxT;by_cases ad:ks=[]
     ·subst ad;simp (maxSteps:=10^7) +contextual -implicitDefEqProofs only[go_sem,seval,hx,aa,hw,ef,el,ec,ab,ae,hq,Zy0]
     ·have ah:=Zfi ad;simp (maxSteps:=10^7) +contextual -implicitDefEqProofs only[go_sem,seval,hx,aa,hw,ef,el,ec,ab,ae,hq,ah]
 ·have:i=sO.length:=o_
  subst this;rw[Zrz] at hp;rw[← hp];unfold nxT;simp (maxSteps:=10^7) +contextual -implicitDefEqProofs only[go_sem,seval]
def Zlk:List Int→Int
 | []=>0
 | x :: l=>x+Zlk l
theorem Zwy:∀ {u:List Int} {n:Nat} {v w:Int},u[n]?=some v→Zlk (u.set n w)=Zlk u-v+w
 | [],n,v,w,h=>by simp at h
 | x :: u,0,v,w,h=>by
  simp only[KT,Option.some.injEq] at h;subst h;simp only[Kaw,Zlk];omega
 | x :: u,n+1,v,w,h=>by
  simp only[KU] at h;simp only[Kad,Zlk,Zwy h];omega
theorem ZtA:∀ (l:List L.Place) (u:List Int),(∀ c∈l,∃ n:Nat,c.Pane=(n:Int)∧n<u.length)→Zlk (WR u l)=Zlk u+l.length
 | [],u,_=>by simp[WR]
 | x :: l,u,h=>by
  obtain⟨n,h1,h2⟩:=h x (by simp);obtain⟨v,hv⟩:=Zp h2;rw[WR,h1,Ky,hv,ZtA l _ (fun c hc=>by
   obtain⟨m,a,b⟩:=h c (by simp[hc]);exact⟨m,a,by simpa using b⟩),Zwy hv]
  simp only[Option.getD_some,Kn];omega
theorem Zwz:∀ n:Nat,Zlk (List.replicate n 0)=0
 | 0=>rfl
 | n+1=>by simp[LU,Zlk,Zwz n]
theorem ZAr {k:Zt} {p:Zf} (hv:YO k p=true):Zlk (ZaY k p)=((Qt k p).filterMap Q3).length:=by
 obtain⟨b,hb,ae,af,ab,aa,ad⟩:=QM hv;unfold ZaY;rw[ad,Yl,ZtA _ _ (fun c hc=>by
  obtain⟨n,h1,h2⟩:=Zat aa c hc;exact⟨n,h1,by simpa using h2⟩),Zwz]
 omega
theorem ZjX:∀ {ps:List Pane} {us:List Int} {o d o' d' : List Zc},us.length=ps.length→YS ps us o d=some (o',d')→Qo d'=Qo d+Zlk us
 | [],us,o,d,o',d',hl,h=>by
  cases us with
  | nil=>unfold YS at h;cases h;simp[Zlk]
  | cons c us=>simp at hl
 | p :: ps,[],o,d,o',d',hl,h=>by simp at hl
 | p :: ps,c :: us,o,d,o',d',hl,h=>by
  rw[YS] at h;simp only[Kn,Nat.add_right_cancel_iff] at hl;split at h
  ·rename_i h0;rw[ZjX hl h,Zlk,h0];omega
  ·split at h
   ·rw[ZjX hl h,Zbu,Zlk];omega
   ·cases h
theorem ZDb {i:Int} {t:Bool} {X Y W H bX bY bW bH:Int} (h:Zcf X Y W H bX bY bW bH):plc (Z5 i t X Y W H bX bY bW bH) bX bY bW bH=[⟨i,t,⟨X,Y,W,H⟩⟩]:=by
 have h0:=h;unfold Zcf at h0;have q4:∀ (y h' : Int),y=Y→Y+H≤y+h'→plc (if Y+H<Y+h' then BT.cut false H (.pane i t) .waste else .pane i t) X y W h'=[⟨i,t,⟨X,Y,W,H⟩⟩]:=by
  intro y h' e e2;subst e;split
  ·simp[plc]
  ·have:h'=H:=o_
   simp[plc,this]
 have q3:plc (if bY<Y then BT.cut false (Y-bY) .waste (if Y+H<bY+bH then BT.cut false H (.pane i t) .waste else .pane i t) else (if Y+H<bY+bH then BT.cut false H (.pane i t) .waste else .pane i t)) X bY W bH=[⟨i,t,⟨X,Y,W,H⟩⟩]:=by
  split
  ·have e:Y+H<bY+bH↔Y+H<Y+(bH-(Y-bY)):=o_
   simp only[plc,Ka,Km,Lm,e];exact q4 _ _ o_ o_
  ·have e:bY=Y:=o_
   subst e;exact q4 _ _ rfl o_
 have q2:∀ (x w' : Int),x=X→X+W≤x+w'→plc (if X+W<X+w' then BT.cut true W (if bY<Y then BT.cut false (Y-bY) .waste (if Y+H<bY+bH then BT.cut false H (.pane i t) .waste else .pane i t) else (if Y+H<bY+bH then BT.cut false H (.pane i t) .waste else .pane i t)) .waste else (if bY<Y then BT.cut false (Y-bY) .waste (if Y+H<bY+bH then BT.cut false H (.pane i t) .waste else .pane i t) else (if Y+H<bY+bH then BT.cut false H (.pane i t) .waste else .pane i t))) x bY w' bH=[⟨i,t,⟨X,Y,W,H⟩⟩]:=by
  intro x w' e e2;subst e;split
  ·simp only[plc,Kl,KD,q3]
  ·have:w'=W:=o_
   rw[this];exact q3
 unfold Z5;simp only;split
 ·have e:X+W<bX+bW↔X+W<X+(bW-(X-bX)):=o_
  simp only[plc,Kl,Lm,e];exact q2 _ _ o_ o_
 ·have e:bX=X:=o_
  subst e;exact q2 _ _ rfl o_
theorem ZnX {s:Zm} (hv:ZE s):∀ {m:Nat} {i:Nat} {e:Zo},s.Opn.length-i=m→Wa s (s.Opn.drop i) i=some e→∃ (n j:Nat) (x:Zc) (q:Zb) (t:Bool) (b:Box),s.Opn[n]?=some x∧s.Stock[j]?=some q∧e=Zj4 n t b q∧((Q5 q x.Pane.W x.Pane.H=some b∧t=false)∨(Q5 q x.Pane.W x.Pane.H=none∧Q5 q x.Pane.H x.Pane.W=some b∧t=true))∧okP x.Pane q=true∧∃ u,Qu s e=some u
 | 0,i,e,hm,h=>by
  rw[List.drop_eq_nil_of_le o_] at h;simp[Wa] at h
 | m+1,i,e,hm,h=>by
  obtain⟨x,hx⟩:=Zp (l:=s.Opn) (k:=i) o_;rw[Zhv hx] at h;have nx:=fun h=>ZnX hv (m:=m) (i:=i+1) (e:=e) o_ h;unfold Zry at h;rcases Zrv s.Stock x.Pane with h0 | ⟨j,q,hj,hq,aa⟩
  ·rw[Kj h0] at h;exact nx h
  ·rw[hj,Ke o_,Ky,hq] at h;simp only at h;cases h1:Q5 q x.Pane.W x.Pane.H with
   | some b=>
    rw[h1] at h;simp only at h;split at h
    ·rename_i ha;cases h;exact⟨i,j,x,q,false,b,hx,hq,rfl,.inl ⟨h1,rfl⟩,aa,K9.1 ha⟩
    ·exact nx h
   | none=>
    rw[h1] at h;simp only at h;cases h2:Q5 q x.Pane.H x.Pane.W with
    | some b=>
     rw[h2] at h;simp only at h;split at h
     ·rename_i ha;cases h;exact⟨i,j,x,q,true,b,hx,hq,rfl,.inr ⟨h1,h2,rfl⟩,aa,K9.1 ha⟩
     ·exact nx h
    | none=>rw[h2] at h;exact nx h
structure NFacts (s:Zm) (e:Zo) (u:Zm) (n j:Nat) (x:Zc) (q:Zb) (t:Bool) (b:Box):Prop where
 fx:s.Opn[n]?=some x
 fq:s.Stock[j]?=some q
 lab:Qz 0 s.Stock q.Label=(j:Int)
 fe:e=Zj4 n t b q
 ap:Qu s e=some u
 vw:VW ⟨q.W,q.H,s.Opn.map Zc.Pane⟩
 pl:Zb3 ⟨q.W,q.H,s.Opn.map Zc.Pane⟩ ⟨n,t,b⟩
 good:YY q ⟨q.W,q.H,s.Opn.map Zc.Pane⟩ e.plan
 places:(Qt ⟨q.W,q.H,s.Opn.map Zc.Pane⟩ e.plan).filterMap Q3=[⟨n,t,b⟩]
 clr:Z3 q.Flaws b
 done:Qo u.Done=Qo s.Done+1
 opn:Qo u.Opn=Qo s.Opn-1
theorem ZnY {s:Zm} {e:Zo} (hv:ZE s) (h:Vo s=some e):∃ u n j x q t b,NFacts s e u n j x q t b:=by
 obtain⟨n,j,x,q,t,b,hx,hq,he,hb,af,u,hu⟩:=ZnX hv (i:=0) rfl (by simpa [Vo] using h);have aj:=ZU hv.1.2 q (Kb hq);have ar:=aj.1;have hp:=(QK hv.2.1 x (Kb hx)).1;have au:1≤x.Pane.W∧x.Pane.W≤200∧1≤x.Pane.H∧x.Pane.H≤200:=⟨hp.1,hp.2.1,hp.2.2.1,hp.2.2.2.1⟩
 have av:=hv.2.1.1;have ak:VW ⟨q.W,q.H,s.Opn.map Zc.Pane⟩:=by
  refine⟨p_,p_,p_,p_,by simp;omega,fun z hz=>?_⟩;obtain⟨y,hy,rfl⟩:=Lk.1 hz;exact(QK hv.2.1 y hy).1
 have ai:(s.Opn.map Zc.Pane)[n]?=some x.Pane:=by rw[Ld,hx];rfl
 have ad:=Zly (k:=0) hv.1.2 hq;rw[K8] at ad;have ag:Z3 q.Flaws b∧Zb3 ⟨q.W,q.H,s.Opn.map Zc.Pane⟩ ⟨n,t,b⟩:=by
  rcases hb with ⟨k1,rfl⟩ | ⟨k1,k2,rfl⟩
  ·obtain⟨g1,g2,g3,g4,g5,g6,g7⟩:=Zau k1;refine⟨g7,⟨?_,?_⟩,?_⟩
   ·simp only[VB];omega
   ·simp only[QE];omega
   ·simp[XD,ai,g5,g6]
  ·obtain⟨g1,g2,g3,g4,g5,g6,g7⟩:=Zau k2;have al:¬x.Pane.W=x.Pane.H:=fun h=>by rw[h] at k1 k2;rw[k1] at k2;cases k2
   unfold okP at af;simp only[k1,KP,LN,Kf] at af;refine⟨g7,⟨?_,?_⟩,?_⟩
   ·simp only[VB];omega
   ·simp only[QE];omega
   ·simp[XD,ai,g5,g6,al,af.1]
 have am:Zcf b.X b.Y b.W b.H 0 0 q.W q.H:=by
  have:=ag.2.1;simp only[VB,QE] at this;unfold Zcf;omega
 have hf:=Zx5 hv hu;have hk:e.kind=3:=by rw[he];rfl
 obtain⟨ab,_⟩:=Zww hu;have an:evS s e=ZcP s e:=by unfold evS;rw[Ke o_,Ke o_,Ke o_,Ke o_,Ke o_,Kj hk]
 rw[an] at ab;have ao:e.label=q.Label:=by rw[he];rfl
 have ap:e.plan=(Z5 n t b.X b.Y b.W b.H 0 0 q.W q.H).plan:=by rw[he];rfl
 unfold ZcP at ab;rw[ao,ad,Ky,hq] at ab;simp only at ab;cases hst:Zar s.Stock q.Label ⟨q.W,q.H,s.Opn.map Zc.Pane⟩ e.plan 5 with
 | none=>rw[hst] at ab;cases ab
 | some R=>
  rw[hst] at ab;simp only at ab;have ae:YY q ⟨q.W,q.H,s.Opn.map Zc.Pane⟩ e.plan:=by
   unfold Zar at hst;split at hst
   ·rw[ad,Ky,hq] at hst;simp only at hst;split at hst
    ·rename_i hg;exact hg.1
    ·cases hst
   ·cases hst
  have ah:=ae.1;have aa:(Qt ⟨q.W,q.H,s.Opn.map Zc.Pane⟩ e.plan).filterMap Q3=[⟨n,t,b⟩]:=by
   obtain⟨B,hB,aw,_,_,_,aq⟩:=QM ah;rw[ap,Yk] at hB;cases hB;rw[aq,Yl];exact ZDb am
  split at ab
  ·split at ab
   ·cases ab
   ·rename_i o d hg;cases ab;have hd:=ZjX (by rw[(Zde ah).1]) hg;rw[ZAr ah,aa] at hd;have hc:=hf.cnt;rw[Ke o_] at hc;simp only[Kn,KL] at hd;have hc:Qo o+Qo d=Qo s.Opn+Qo s.Done+0:=hc;exact⟨_,n,j,x,q,t,b,hx,hq,ad,he,hu,ak,ag.2,ae,aa,ag.1,(by show Qo d=_;omega),(by show Qo o=_;omega)⟩
  ·cases ab
theorem Zll (K Lb X Y W H pW pH:Int) (pT:Bool) (pK Ct:Int) (B:BT):v_ 55 [.d (Zo.enc ⟨K,Lb,⟨X,Y,W,H⟩,⟨⟨pW,pH,pT,pK⟩,Ct⟩,B.plan⟩),.d (Zo.enc ⟨K,Lb,⟨X,Y,W,H⟩,⟨⟨pW,pH,pT,pK⟩,Ct⟩,B.plan⟩)] []=some ((.d (.bool true)),[]):=by
 have e1:=JR B;cases hB:B.plan with
 | mk o a q t ks=>
  rw[hB,Zf.enc_mk] at e1;rw[Zo.enc_mk];refine cE ?_;simp (maxSteps:=10^7) +contextual -implicitDefEqProofs only[go_sem,seval,ZhJ,e1]
def Vb:Nat→Zm→Zm×List Zo
 | 0,s=>(s,[])
 | n+1,s=>match Vo s with
  | some e=>(match Qu s e with
   | some u=>((Vb n u).1,e :: (Vb n u).2)
   | none=>(s,[]))
  | none=>(s,[])
theorem Zbv {n:Nat} {s u:Zm} {e:Zo} (h1:Vo s=some e) (h2:Qu s e=some u):Vb (n+1) s=((Vb n u).1,e :: (Vb n u).2):=by
 rw[Vb,h1];simp only[h2]
theorem ZeA {n:Nat} {s:Zm} (h1:Vo s=none):Vb n s=(s,[]):=by
 cases n with
 | zero=>rfl
 | succ n=>rw[Vb,h1]
theorem Zhk {s:Zm} {e:Zo} (hv:ZE s) (h:Vo s=some e):∃ u,Qu s e=some u∧ZE u∧∃ B:BT,e.plan=B.plan:=by
 obtain⟨u,n,j,x,q,t,b,F⟩:=ZnY hv h;exact⟨u,F.ap,Zce F.ap,Z5 n t b.X b.Y b.W b.H 0 0 q.W q.H,by rw[F.fe];rfl⟩
theorem Zrb:∀ {n:Nat} {s:Zm},ZE s→ZE (Vb n s).1∧(∀ e∈(Vb n s).2,∃ B:BT,e.plan=B.plan)∧(Vb n s).2.length≤n
 | 0,s,hv=>⟨hv,by simp[Vb],by simp[Vb]⟩
 | n+1,s,hv=>by
  cases h:Vo s with
  | none=>rw[ZeA h];exact⟨hv,by simp,by simp⟩
  | some e=>
   obtain⟨u,h1,h2,h3⟩:=Zhk hv h;rw[Zbv h h1];obtain⟨g1,g2,g3⟩:=Zrb (n:=n) h2;refine⟨g1,fun x hx=>?_,by simp only[Kn];omega⟩;rcases Kd.1 hx with rfl | hx
   ·exact h3
   ·exact g2 x hx
def wtV (r:Zm×List Zo):AV×List Zk:=(.tup [.agg [.own 0,.own 1,.own 2,(.d (J (r.1.Lost))),(.d (J (r.1.Came)))],.own 3],[.row 4 (r.1.Stock.map Zb.enc) true false,.row 5 (r.1.Opn.map Zc.enc) true false,.row 5 (r.1.Done.map Zc.enc) true false,.row 16 (r.2.map Zo.enc) true false])
def wtT (r:Zm×List Zo):AV×List Zk:=(.tup [.agg [.own 0,.own 1,.own 2,(.d (J (r.1.Lost))),(.d (J (r.1.Came)))],.own 3],[.tree 4 4 (r.1.Stock.map Zb.enc) none,.row 5 (r.1.Opn.map Zc.enc) true false,.row 5 (r.1.Done.map Zc.enc) true false,.tree 16 5 (r.2.map Zo.enc) none])
theorem Zlm (sS:List Zb) (sO sD:List Zc) (sL sC:Int) (m:Int) (h:¬(ZE (Zm.mk sS sO sD sL sC)∧0≤m∧m≤40)):v_ 19 [(.d (.agg [.sl (sS.map Zb.enc),.sl (sO.map Zc.enc),.sl (sD.map Zc.enc),J sL,J sC])),(.d (J m))] []=some (wtV (⟨[],[],[],0,0⟩,[])):=by
 have e1:=ZT sS sO sD sL sC;unfold wtV;by_cases hv:ZE (Zm.mk sS sO sD sL sC)
 ·rw[Kg hv] at e1;by_cases h1:m<0
  ·refine cE ?_;simp (maxSteps:=10^7) +contextual -implicitDefEqProofs only[go_sem,seval,Vr,e1,h1]
  ·have h2:(40:Int)<m:=by
    rcases Int.lt_or_le 40 m with h2 | h2
    ·exact h2
    ·exact absurd ⟨hv,o_,h2⟩ h
   refine cE ?_;simp (maxSteps:=10^7) +contextual -implicitDefEqProofs only[go_sem,seval,Vr,e1,h1,h2]
 ·rw[Ki hv] at e1;refine cE ?_;simp (maxSteps:=10^7) +contextual -implicitDefEqProofs only[go_sem,seval,Vr,e1]
theorem ZeB (sS:List Zb) (sO sD:List Zc) (sL sC:Int) (m:Nat) (hv:ZE (Zm.mk sS sO sD sL sC)) (hm:m≤40):v_ 19 [(.d (.agg [.sl (sS.map Zb.enc),.sl (sO.map Zc.enc),.sl (sD.map Zc.enc),J sL,J sC])),(.d (J ((m:Int))))] []=some (wtT (Vb m (Zm.mk sS sO sD sL sC))):=by
 have e1:=ZT sS sO sD sL sC;rw[Kg hv] at e1;have e2:=Yy sS sO sD sL sC (YR hv);have h1:¬(m:Int)<0:=o_
 have h2:¬(40:Int)<(m:Int):=o_
 refine cE ?_;simp (maxSteps:=10^7) +contextual -implicitDefEqProofs only[go_sem,seval,Vr,e1,e2,h1,h2];refine LO (α:=Zm×List Zo) (fun _=>[]) (fun s=>[(0,.tree 16 5 (s.2.map Zo.enc) none),(1,.box [.own 3,.own 4,.own 5,(.d (J (s.1.Lost))),(.d (J (s.1.Came)))]),(3,.tree 4 4 (s.1.Stock.map Zb.enc) none),(4,.row 5 (s.1.Opn.map Zc.enc) true false),(5,.row 5 (s.1.Done.map Zc.enc) true false)]) (fun s=>ZE s.1∧s.2.length≤m∧(Vb m (Zm.mk sS sO sD sL sC)).1=(Vb (m-s.2.length) s.1).1∧(Vb m (Zm.mk sS sO sD sL sC)).2=s.2++(Vb (m-s.2.length) s.1).2) (fun s=>m-s.2.length) ((Zm.mk sS sO sD sL sC),[]) ⟨hv,by simp,by simp,by simp⟩ ?_
 intro⟨⟨S,O,D,L,C⟩,l⟩ ⟨hv,hl,hp,hq⟩ ih;simp only at hv hl hp hq;by_cases ab:l.length<m
 ·obtain⟨k,hk⟩:∃ k,m-l.length=k+1:=⟨m-l.length-1,o_⟩
  rw[hk] at hp hq;have en:=ZuT S O D L C hv;have hr:(l.length+1)*144≤140737488355328∧l.length≤140737488355327:=o_
  cases hn:Vo ⟨S,O,D,L,C⟩ with
  | none=>
   rw[ZeA hn] at hp hq;rw[hn] at en;unfold nxT at en;unfold wtT;rw[hp,hq];simp (maxSteps:=10^7) +contextual -implicitDefEqProofs only[go_sem,seval,ab,en,KD]
  | some e=>
   obtain⟨u,ad,hu,_⟩:=Zhk hv hn;rw[Zbv hn ad] at hp hq;rw[hn] at en;obtain⟨K,Lb,⟨X,Y,W,H⟩,⟨⟨pW,pH,pT,pK⟩,Ct⟩,⟨o,a,q,t,ks⟩⟩:=e;have ea:=Vk S O D L C K Lb X Y W H pW pH pT pK Ct o a q t ks;rw[Kj hv,ad] at ea;obtain⟨S',O',D',L',C'⟩:=u;unfold shT at ea;unfold nxT at en;simp only at ea en;have aa:m-(l++[(⟨K,Lb,⟨X,Y,W,H⟩,⟨⟨pW,pH,pT,pK⟩,Ct⟩,.mk o a q t ks⟩:Zo)]).length=k:=by simp;omega
   cases ks with
   | nil=>
    simp only[plO,Kt] at en ea;simp (maxSteps:=10^7) +contextual -implicitDefEqProofs only[go_sem,seval,ab,en,ea,hr];refine ih (⟨S',O',D',L',C'⟩,l++[⟨K,Lb,⟨X,Y,W,H⟩,⟨⟨pW,pH,pT,pK⟩,Ct⟩,.mk o a q t []⟩]) _ ⟨hu,by simp;omega,by simp only[aa];exact hp,by simp only[aa];rw[hq];simp⟩ (by simp;omega) ?_;simp (maxSteps:=10^7) +contextual -implicitDefEqProofs only[go_sem,seval,KJ]
   | cons k1 kr=>
    simp only[plO,Kk] at en ea;simp (maxSteps:=10^7) +contextual -implicitDefEqProofs only[go_sem,seval,ab,en,ea,hr];refine ih (⟨S',O',D',L',C'⟩,l++[⟨K,Lb,⟨X,Y,W,H⟩,⟨⟨pW,pH,pT,pK⟩,Ct⟩,.mk o a q t (k1 :: kr)⟩]) _ ⟨hu,by simp;omega,by simp only[aa];exact hp,by simp only[aa];rw[hq];simp⟩ (by simp;omega) ?_;simp (maxSteps:=10^7) +contextual -implicitDefEqProofs only[go_sem,seval,KJ]
 ·have:m-l.length=0:=o_
  rw[this] at hp hq;simp only[Vb,KD] at hp hq;unfold wtT;rw[hp,hq];simp (maxSteps:=10^7) +contextual -implicitDefEqProofs only[go_sem,seval,ab]
theorem Zln (sS:List Zb) (sO sD:List Zc) (sL sC:Int) (m:Int) (hs:Un (Zm.mk sS sO sD sL sC)) (h:¬(ZE (Zm.mk sS sO sD sL sC)∧0≤m∧m≤40)):v_ 20 [(.d (.agg [.sl (sS.map Zb.enc),.sl (sO.map Zc.enc),.sl (sD.map Zc.enc),J sL,J sC])),(.d (J m))] []=some (wtV (⟨[],[],[],0,0⟩,[])):=by
 have e1:=XG sS sO sD sL sC hs;have e2:=ZI m 0 40;unfold wtV;by_cases hv:ZE (Zm.mk sS sO sD sL sC)
 ·rw[Kg hv] at e1;have hr:¬(0≤m∧m≤40):=fun hr=>h ⟨hv,hr⟩;rw[Ki hr] at e2;refine cE ?_;simp (maxSteps:=10^7) +contextual -implicitDefEqProofs only[go_sem,seval,Ue,e1,e2]
 ·rw[Ki hv] at e1;refine cE ?_;simp (maxSteps:=10^7) +contextual -implicitDefEqProofs only[go_sem,seval,Ue,e1]
theorem ZmX (sS:List Zb) (sO sD:List Zc) (sL sC:Int) (m:Nat) (hv:ZE (Zm.mk sS sO sD sL sC)) (hm:m≤40):v_ 20 [(.d (.agg [.sl (sS.map Zb.enc),.sl (sO.map Zc.enc),.sl (sD.map Zc.enc),J sL,J sC])),(.d (J ((m:Int))))] []=some (wtV (Vb m (Zm.mk sS sO sD sL sC))):=by
 have e1:=XG sS sO sD sL sC (YR hv);rw[Kg hv] at e1;have e2:=Yz sS sO sD sL sC (YR hv);have e3:=ZI (m:Int) 0 40;rw[Kg o_] at e3;refine cE ?_;simp (maxSteps:=10^7) +contextual -implicitDefEqProofs only[go_sem,seval,Ue,e1,e2,e3];refine LO (α:=Zm×List Zo) (fun _=>[]) (fun s=>[(0,.row 16 (s.2.map Zo.enc) true false),(2,.box [.own 6,.own 7,.own 8,(.d (J (s.1.Lost))),(.d (J (s.1.Came)))]),(6,.row 4 (s.1.Stock.map Zb.enc) true false),(7,.row 5 (s.1.Opn.map Zc.enc) true false),(8,.row 5 (s.1.Done.map Zc.enc) true false)]) (fun s=>ZE s.1∧s.2.length≤m∧(Vb m (Zm.mk sS sO sD sL sC)).1=(Vb (m-s.2.length) s.1).1∧(Vb m (Zm.mk sS sO sD sL sC)).2=s.2++(Vb (m-s.2.length) s.1).2) (fun s=>m-s.2.length) ((Zm.mk sS sO sD sL sC),[]) ⟨hv,by simp,by simp,by simp⟩ ?_
 intro⟨⟨S,O,D,L,C⟩,l⟩ ⟨hv,hl,hp,hq⟩ ih;simp only at hv hl hp hq;by_cases aa:l.length<m
 ·obtain⟨k,hk⟩:∃ k,m-l.length=k+1:=⟨m-l.length-1,o_⟩
  rw[hk] at hp hq;have en:=Zlz S O D L C (Zlw hv);have hr:(l.length+1)*144≤140737488355328∧l.length≤140737488355327:=o_
  cases hn:Vo ⟨S,O,D,L,C⟩ with
  | none=>
   rw[ZeA hn] at hp hq;rw[hn] at en;unfold nxV at en;unfold wtV;rw[hp,hq];simp (maxSteps:=10^7) +contextual -implicitDefEqProofs only[go_sem,seval,aa,en,KD]
  | some e=>
   obtain⟨u,ab,hu,_⟩:=Zhk hv hn;have ad:e.kind=3:=Zdg hn;rw[Zbv hn ab] at hp hq;rw[hn] at en;obtain⟨K,Lb,⟨X,Y,W,H⟩,⟨⟨pW,pH,pT,pK⟩,Ct⟩,⟨o,a,q,t,ks⟩⟩:=e;simp only at ad;have ea:=Ws S O D L C K Lb X Y W H pW pH pT pK Ct o a q t ks (Zlw hv) ad;rw[ab] at ea;obtain⟨S',O',D',L',C'⟩:=u;unfold shV at ea;unfold nxV at en;simp only at ea en;simp (maxSteps:=10^7) +contextual -implicitDefEqProofs only[go_sem,seval,aa,en,ea,hr];refine ih (⟨S',O',D',L',C'⟩,l++[⟨K,Lb,⟨X,Y,W,H⟩,⟨⟨pW,pH,pT,pK⟩,Ct⟩,.mk o a q t ks⟩]) _ ⟨hu,by simp;omega,?_,?_⟩ (by simp;omega) ?_
   ·have:m-(l++[(⟨K,Lb,⟨X,Y,W,H⟩,⟨⟨pW,pH,pT,pK⟩,Ct⟩,.mk o a q t ks⟩:Zo)]).length=k:=by simp;omega
    simp only[this];exact hp
   ·have:m-(l++[(⟨K,Lb,⟨X,Y,W,H⟩,⟨⟨pW,pH,pT,pK⟩,Ct⟩,.mk o a q t ks⟩:Zo)]).length=k:=by simp;omega
    simp only[this];rw[hq];simp
   ·simp (maxSteps:=10^7) +contextual -implicitDefEqProofs only[go_sem,seval,KJ]
 ·have:m-l.length=0:=o_
  rw[this] at hp hq;simp only[Vb,KD] at hp hq;unfold wtV;rw[hp,hq];simp (maxSteps:=10^7) +contextual -implicitDefEqProofs only[go_sem,seval,aa]
def PDrWT (r:AV×List Zk):Prop:=∃ (S:List Zb) (O D:List Zc) (L C:Int) (f g h:Bool) (m:Int),AnyS ⟨S,O,D,L,C⟩ ∧
 r=(.tup [.agg [.own 0,.own 1,.own 2,(.d (J L)),(.d (J C))],(.d (J m))],[.row 4 (S.map Zb.enc) true f,.row 5 (O.map Zc.enc) true g,.row 5 (D.map Zc.enc) true h])
theorem Zhl (aa:List UInt8):∃ r,v_ 18 [.d (.sl (aa.map UF))] []=some r∧PDrWT r:=by
 have hb:(aa.take 2000).length≤2000:=by simp;omega
 have en:=ZqG aa;obtain⟨r,e1,S,O,D,L,C,f,g,h,p',h1,h2,h3,rfl⟩:=Zu2 (aa.take 2000) hb 0 o_;simp only[cast0] at e1;generalize aa.take 2000=bs at *;obtain⟨m,hm,eV⟩:=ZbZ bs p' [40,10,2,0,41,-1] hb o_ (by decide);simp only[Kk,Kt,Yi] at eV;refine cW ?_;simp (maxSteps:=10^7) +contextual -implicitDefEqProofs only[go_sem,seval,ZaZ,en,e1,eV];exact⟨S,O,D,L,C,_,_,_,m,h1,rfl⟩
theorem Um (l:List Zo) (hl:l.length≤1000000) (h:∀ e∈l,∃ B:BT,e.plan=B.plan):v_ 22 [(.d (.sl (l.map Zo.enc))),(.d (.sl (l.map Zo.enc)))] []=some ((.d (.bool true)),[]):=by
 refine cE ?_;simp (maxSteps:=10^7) +contextual -implicitDefEqProofs only[go_sem,seval,Zgk];refine LO (α:=Nat) (fun k=>[(5,.d (J (k:Int)))]) (fun _=>[]) (fun k=>k≤l.length) (fun k=>l.length-k) 0 o_ ?_;intro k hk ih;by_cases aa:k<l.length
 ·obtain⟨e,he⟩:=Zp aa;have hw:=Zh (k:=k) o_;obtain⟨B,hB⟩:=h e (Kb he);obtain⟨K,Lb,⟨X,Y,W,H⟩,⟨⟨pW,pH,pT,pK⟩,Ct⟩,⟨o,a,q,t,ks⟩⟩:=e;simp only at hB;have e1:=Zll K Lb X Y W H pW pH pT pK Ct B;rw[← hB,Zo.enc_mk] at e1;simp (maxSteps:=10^7) +contextual -implicitDefEqProofs only[go_sem,seval,he,aa,hw,e1];refine ih (k+1) _ o_ o_ ?_;simp (maxSteps:=10^7) +contextual -implicitDefEqProofs only[go_sem,seval]
 ·have:k=l.length:=o_
  subst this;simp (maxSteps:=10^7) +contextual -implicitDefEqProofs only[go_sem,seval]
end Go.Proofs.YtfnegoimdljanaaGreatDoor
namespace Go.Proofs.YtfnegoimdljanaaGreatDoor
open Go Go.Abs Go.Abs.E Go.Abs.L
set_option maxRecDepth 20000
set_option maxHeartbeats 4000000
def Zaq:List Zo→Option (List Ev)
 | []=>some []
 | e :: r=>(ZcO e).bind fun v=>(Zaq r).bind fun vs=>some (v :: vs)
theorem Zrc (e:Zo):∀ l:List Zo,Zaq (l++[e])=(Zaq l).bind fun vs=>(ZcO e).bind fun v=>some (vs++[v])
 | []=>by simp only[Lm,Zaq];cases ZcO e<;>rfl
 | x :: l=>by
  simp only[KA,Zaq,Zrc e l];cases ZcO x with
  | none=>rfl
  | some v=>cases Zaq l with
   | none=>rfl
   | some vs=>cases ZcO e<;>rfl
theorem Zrd {e:Zo} (h:ZcO e=none):∀ {l:List Zo},e∈l→Zaq l=none
 | x :: l,hm=>by
  rcases Kd.1 hm with rfl | hm
  ·simp[Zaq,h]
  ·simp only[Zaq,Zrd h hm];cases ZcO x<;>rfl
theorem ZwA:∀ {l:List Zo} {vs:List Ev},Zaq l=some vs→vs.length=l.length∧∀ v∈vs,v.ok
 | [],vs,h=>by cases h;simp
 | e :: l,vs,h=>by
  simp only[Zaq,Lf] at h;obtain⟨v,h1,aa,h2,h3⟩:=h;cases h3;obtain⟨g1,g2⟩:=ZwA h2;refine⟨by simp[g1],fun x hx=>?_⟩;rcases Kd.1 hx with rfl | hx
  ·exact(Zy8 h1).1
  ·exact g2 x hx
theorem ZwB:∀ {l:List Ev},(∀ v∈l,v.ok)→Zaq (l.map Ev.ev)=some l
 | [],_=>rfl
 | v :: l,h=>by
  simp only[Kk,Zaq,ZDa (h v (by simp)),ZwB (l:=l) fun x hx=>h x (by simp[hx]),KN]
def Zx6 (l:List Zo):List UInt8:=if l.length≤40 then match Zaq l with
 | some vs=>XT vs
 | none=>[] else []
theorem ZDc {l:List Zo} (h:¬l.length≤40):Zx6 l=[]:=Ke h
theorem ZAs {l:List Zo} (h:Zaq l=none):Zx6 l=[]:=by unfold Zx6;rw[h];exact ite_self _
theorem ZtB {l:List Zo} {vs:List Ev} (h:l.length≤40) (hv:Zaq l=some vs):Zx6 l=XT vs:=by unfold Zx6;rw[Kj h,hv]
theorem Zca (v:Ev) (l:List Ev):XT (v :: l)=v.text++10 :: XT l:=Zdb ..
theorem Zx7 (v:Ev) (l:List Ev):XT (l++[v])=XT l++(v.text++[10]):=Zwo ..
theorem ZmY:∀ {l:List Ev},(∀ v∈l,v.ok)→(XT l).length≤20001*l.length
 | [],_=>by simp[XT,Zfp]
 | v :: l,h=>by
  have ih:=ZmY (l:=l) fun x hx=>h x (by simp[hx]);have:=Zwu (h v (by simp));rw[Zca];simp only[Kr,Kn];omega
theorem ZBR (v:Ev):0<v.text.length:=by
 have:=Zy9 v;cases h:v.text with
 | nil=>rw[h] at this;cases this
 | cons _ _=>simp
theorem ZoG (l:List Zo):v_ 23 [(.d (.sl (l.map Zo.enc)))] []=some (.d (.str (Zx6 l)),[]):=by
 by_cases af:l.length≤40
 ·have aa : ¬(40:Int)<(l.length:Int):=o_
  refine cE ?_;simp (maxSteps:=10^7) +contextual -implicitDefEqProofs only[go_sem,seval,ZcG,aa];refine LO (α:=Nat×List Ev) (fun a=>[(12,.d (J (a.1:Int)))]) (fun a=>[(0,.box [.bnil 0 66,.bbuf 5 (XT a.2)])]) (fun a=>a.1≤l.length∧Zaq (l.take a.1)=some a.2) (fun a=>l.length-a.1) (0,[]) ⟨by simp,rfl⟩ ?_;intro⟨k,vs⟩ ⟨hk,hv⟩ ih;simp only at hk hv ih ⊢;obtain⟨g1,g2⟩:=ZwA hv;have hb:=ZmY g2;have hb2:vs.length≤40:=by rw[g1];simp;omega
  by_cases ad:k<l.length
  ·obtain⟨e,he⟩:=Zp ad;have ab : (k:Int)<(l.length:Int):=o_
   have w:=Zh (k:=k) o_;have ag:e∈l:=Kb he;have ah:l.take (k+1)=l.take k++[e]:=by rw[KH,he];rfl
   obtain⟨K,L,⟨X,Y,W,H⟩,⟨⟨pW,pH,pT,pK⟩,C⟩,⟨o,a,q,t,ks⟩⟩:=e;have e1:=ZmV K L X Y W H pW pH pT pK C o a q t ks;cases hx:ZcO ⟨K,L,⟨X,Y,W,H⟩,⟨⟨pW,pH,pT,pK⟩,C⟩,.mk o a q t ks⟩ with
   | none=>
    rw[Zbt hx] at e1;rw[ZAs (Zrd hx ag)];simp (maxSteps:=10^7) +contextual -implicitDefEqProofs only[go_sem,seval,ab,ad,he,w,e1]
   | some v=>
    rw[JV hx] at e1;have ai:=(Zy8 hx).1;have aj:=Zy9 v;have ae:=ZBR v;have al:=Zwu ai;have e2:=XV (XT vs) v.text ae o_;have e3:=Qe (XT vs++v.text) 10 10 rfl (by simp;omega);have ak:=Zx7 v vs;generalize v.text=tx at *;simp (maxSteps:=10^7) +contextual -implicitDefEqProofs only[go_sem,seval,ab,ad,he,w,e1,aj,e2,e3];refine ih (k+1,vs++[v]) _ ⟨p_,?_⟩ p_ ?_
    ·simp only;rw[ah,Zrc,hv,hx];rfl
    ·simp (maxSteps:=10^7) +contextual -implicitDefEqProofs only[go_sem,seval,ak,Le]
  ·have:k=l.length:=o_
   subst this;rw[Ln] at hv;rw[ZtB af hv];have e4:=Zc9 (XT vs);simp (maxSteps:=10^7) +contextual -implicitDefEqProofs only[go_sem,seval,e4]
 ·have aa : (40:Int)<(l.length:Int):=o_
  rw[ZDc af];refine cE ?_;simp (maxSteps:=10^7) +contextual -implicitDefEqProofs only[go_sem,seval,ZcG,aa]
def Zre:Nat→List (List UInt8)→List Ev
 | _,[]=>[]
 | _,[_]=>[]
 | k,x :: y :: r=>if 40≤k then [] else match ZoE x with
  | none=>[]
  | some v=>v :: Zre (k+1) (y :: r)
def ZjY (s:List UInt8):List Ev:=Zre 0 (Z1 10 s)
theorem ZmZ:∀ {n k:Nat} {s:List UInt8},s.length<n→Zgt n k s=Zre k (Z1 10 s)
 | 0,k,s,h=>by omega
 | n+1,k,s,h=>by
  rw[Zgt,Zbs];cases hi:Qh 10 s with
  | none=>simp only[Zre,ite_self]
  | some i=>
   simp only;have aa:=Zbr 10 (s.drop (i+1));obtain⟨_,_,ab⟩:=Vl hi;have ih:=ZmZ (n:=n) (k:=k+1) (s:=s.drop (i+1)) (by simp;omega);cases hs:Z1 10 (s.drop (i+1)) with
   | nil=>exact absurd hs aa
   | cons y r=>
    rw[hs] at ih;rw[Zre];split
    ·rfl
    ·cases ZoE (s.take i) with
     | none=>rfl
     | some v=>simp only;rw[ih]
theorem ZtC (s:List UInt8):ZjY s=Zgt (s.length+1) 0 s:=(ZmZ o_).symm
theorem ZBS {c:UInt8} {s:List UInt8} {i:Nat} (h:Qh c s=some i) (n:Nat):Qh c (s.take n)=if n≤i then none else some i:=by
 obtain⟨h1,h3,h2⟩:=Vl h;split
 ·rename_i hn;cases hx:Qh c (s.take n) with
  | none=>rfl
  | some j=>
   obtain⟨g1,g2,g3⟩:=Vl hx;exfalso
   have:c∈s.take n:=by rw[g1];simp
   exact h3 (KY (i:=n) (by rw[List.take_take,Nat.min_eq_left hn];exact this))
 ·rename_i hn;have e:s.take n=s.take i++c :: (s.drop (i+1)).take (n-(i+1)):=by
   conv=>lhs;rw[h1]
   have hl:(s.take i).length=i:=by simp;omega
   rw[List.take_append,hl,Kw o_,show n-i=(n-(i+1))+1 by omega,Lu]
  have hl:(s.take i).length=i:=by simp;omega
  have:=ZuP (b:=(s.drop (i+1)).take (n-(i+1))) h3;rw[hl] at this;rw[e];exact this
theorem ZtD:∀ (N k n:Nat) (s:List UInt8),Zgt N k (s.take n) <+: Zgt N k s∧((Zgt N k (s.take n)).length<(Zgt N k s).length→n<(XT (Zgt N k s)).length)
 | 0,k,n,s=>by simp[Zgt]
 | N+1,k,n,s=>by
  rw[Zgt,Zgt];by_cases hk:40≤k
  ·simp[Kj hk]
  rw[Ke hk,Ke hk];cases hi:Qh 10 s with
  | none=>
   have:Qh 10 (s.take n)=none:=by
    cases hx:Qh 10 (s.take n) with
    | none=>rfl
    | some j=>
     obtain⟨g1,g2,g3⟩:=Vl hx;have:(10:UInt8)∈s.take n:=by rw[g1];simp
     exact absurd (KY this) (Zhc.1 hi)
   rw[this];simp
  | some i=>
   obtain⟨h1,h3,h2⟩:=Vl hi;rw[ZBS hi];by_cases hn:n≤i
   ·rw[Kj hn];simp only;cases hv:ZoE (s.take i) with
    | none=>simp
    | some v=>
     refine⟨List.nil_prefix,fun _=>?_⟩;have ht:=(ZmT.1 hv).1;have hl:(s.take i).length=i:=by simp;omega
     rw[Zca,← ht];simp only[Kr,Kn,hl];omega
   ·rw[Ke hn];simp only;rw[List.take_take,Nat.min_eq_left o_];cases hv:ZoE (s.take i) with
    | none=>simp
    | some v=>
     simp only;have ht:=(ZmT.1 hv).1;have hl:(s.take i).length=i:=by simp;omega
     obtain⟨p1,p2⟩:=ZtD N (k+1) (n-(i+1)) (s.drop (i+1));rw[List.drop_take];refine⟨(List.prefix_cons_inj v).2 p1,fun h=>?_⟩;simp only[Kn] at h;have:=p2 o_;rw[Zca,← ht];simp only[Kr,Kn,hl];omega
theorem ZAt (s:List UInt8) (n:Nat):ZjY (s.take n) <+: ZjY s∧((ZjY (s.take n)).length<(ZjY s).length→n<(XT (ZjY s)).length):=by
 have e:ZjY (s.take n)=Zgt (s.length+1) 0 (s.take n):=(ZmZ (by simp;omega)).symm;rw[e,ZtC];exact ZtD _ _ _ _
theorem Zm0 (s:List UInt8) (hs:s.length≤1048576):v_ 14 [.d (.str s)] []=some (.own 0,[.tree 16 5 (((ZjY s).map Ev.ev).map Zo.enc) none]):=by
 refine cE ?_;simp (maxSteps:=10^7) +contextual -implicitDefEqProofs only[go_sem,seval,Zgj];refine LO (α:=List UInt8×List Ev) (fun a=>[(0,.d (.str a.1))]) (fun a=>[(0,.tree 16 5 ((a.2.map Ev.ev).map Zo.enc) none)]) (fun a=>a.1.length≤s.length∧ZjY s=a.2++Zre a.2.length (Z1 10 a.1)) (fun a=>a.1.length) (s,[]) ⟨by simp,by simp[ZjY]⟩ ?_;intro⟨t,vs⟩ ⟨hk,hp⟩ ih;simp only at hk hp ih ⊢;have e1:=Zb8 t 10 o_;rw[Zbs] at hp;by_cases ae:vs.length<40
 ·have aa : (vs.length:Int)<40:=o_
  have ab:(vs.length+1)*144≤140737488355328∧vs.length≤140737488355327:=o_
  cases hi:Qh 10 t with
  | none=>
   rw[hi] at e1 hp;simp only at e1 hp;simp only[Zre,KD] at hp;rw[hp];simp (maxSteps:=10^7) +contextual -implicitDefEqProofs only[go_sem,seval,ae,aa,e1]
  | some i=>
   rw[hi] at e1 hp;simp only at e1 hp;obtain⟨_,_,ah⟩:=Vl hi;have ag:=Zbr 10 (t.drop (i+1));obtain⟨K,L,X,Y,W,H,pW,pH,pT,pK,C,o,a,q,tt,ks,e2,h2⟩:=ZoF (t.take i) (by simp;omega);have ad:ZjY s=vs++match ZoE (t.take i) with
     | none=>[]
     | some v=>v :: Zre (vs.length+1) (Z1 10 (t.drop (i+1))):=by
    cases hsp:Z1 10 (t.drop (i+1)) with
    | nil=>exact absurd hsp ag
    | cons y r=>rw[hsp,Zre,Ke o_] at hp;exact hp
   cases hv:ZoE (t.take i) with
   | none=>
    rw[hv] at e2 ad;simp only[KP] at e2;simp only[KD] at ad;rw[ad];cases ks<;>simp (maxSteps:=10^7) +contextual -implicitDefEqProofs only[go_sem,seval,ae,aa,e1,e2]
   | some v=>
    rw[hv] at e2 ad h2;simp only[Lg] at e2;simp only[evM] at ad h2;cases ks with
    | nil=>
     simp (maxSteps:=10^7) +contextual -implicitDefEqProofs only[go_sem,seval,ae,aa,e1,e2,ab];refine ih (t.drop (i+1),vs++[v]) _ ⟨by simp;omega,?_⟩ (by simp;omega) ?_
     ·simp only[Le,Kai,Kr,Kn,KL,K8];exact ad
     ·simp (maxSteps:=10^7) +contextual -implicitDefEqProofs only[go_sem,seval,KJ,Kk,Kt,← h2]
    | cons k1 kr=>
     simp (maxSteps:=10^7) +contextual -implicitDefEqProofs only[go_sem,seval,ae,aa,e1,e2,ab];refine ih (t.drop (i+1),vs++[v]) _ ⟨by simp;omega,?_⟩ (by simp;omega) ?_
     ·simp only[Le,Kai,Kr,Kn,KL,K8];exact ad
     ·simp (maxSteps:=10^7) +contextual -implicitDefEqProofs only[go_sem,seval,KJ,Kk,Kt,← h2]
 ·have aa : ¬(vs.length:Int)<40:=o_
  have af:∀ ls,Zre vs.length ls=[]:=by
   intro ls
   match ls with
   | []=>rfl
   | [_]=>rfl
   | x :: y :: r=>rw[Zre,Kj o_]
  rw[af,KD] at hp;rw[hp];simp (maxSteps:=10^7) +contextual -implicitDefEqProofs only[go_sem,seval,ae,aa]
theorem ZBT {l:List Ev} (h:l.length≤40) (hv:∀ v∈l,v.ok):Zx6 (l.map Ev.ev)=XT l:=ZtB (by simpa using h) (ZwB hv)
theorem ZAu {l:List Ev} (ab:l.length≤40) (ho:∀ v∈l,v.ok):ZjY (XT l)=l:=by
 have aa:∀ m:List Ev,m.length≤(XT m).length:=by
  intro m
  induction m with
  | nil=>simp
  | cons v m ih=>rw[Zca];simp only[Kr,Kn];omega
 have:=Zty (n:=(XT l).length+1) (k:=0) (l:=l) (s:=[]) (by have:=aa l;omega) o_ ho;rw[KD] at this;rw[ZtC,this];have:Zgt ((XT l).length+1-l.length) (0+l.length) []=[]:=by
  cases (XT l).length+1-l.length with
  | zero=>rfl
  | succ n=>rw[Zgt];split<;>rfl
 rw[this,KD]
theorem ZBU {l:List Ev} (h:l≠[]):(XT l==[])=false:=by
 cases l with
 | nil=>exact absurd rfl h
 | cons v l=>rw[Zca];cases v.text<;>rfl
end Go.Proofs.YtfnegoimdljanaaGreatDoor
namespace Go.Proofs.YtfnegoimdljanaaGreatDoor
open Go Go.Abs Go.Abs.E Go.Abs.L
set_option maxRecDepth 20000
set_option maxHeartbeats 4000000
theorem ZeC {ps:List Pane} (hl:ps.length≤24):∀ {b:BT} {w h:Int},Xy ps b w h=true→w≤200→h≤200→WQ b=true
 | .waste,_,_,_,_,_=>rfl
 | .pane i t,w,h,hf,_,_=>by
  simp only[Xy] at hf;unfold XD at hf;rw[Kf,Ko] at hf;simp only[WQ,Ko];cases hq:ps[i.toNat]? with
  | none=>rw[hq] at hf;cases hf.2
  | some q=>have:=(Kc.1 hq).1;omega
 | .cut d a l r,w,h,hf,hw,hh=>by
  simp only[WQ,Kf,Ko];cases d with
  | true=>
   simp only[Xy,Kl,Kf,Ko] at hf;exact⟨⟨o_,ZeC hl hf.1.2 o_ hh⟩,ZeC hl hf.2 o_ hh⟩
  | false=>
   simp only[Xy,Ka,Km,Kf,Ko] at hf;exact⟨⟨o_,ZeC hl hf.1.2 hw o_⟩,ZeC hl hf.2 hw o_⟩
theorem ZwC (i:Int) (t:Bool) (X Y W H bX bY bW bH:Int):(Z5 i t X Y W H bX bY bW bH).cnt≤9:=by
 unfold Z5;simp only;split<;>split<;>split<;>split<;>simp[BT.cnt]
theorem ZDd {s:Zm} {e:Zo} (hv:ZE s) (h:Vo s=some e):∃ (l:Nat) (b:BT),e.plan=b.plan∧e=(Ev.cut l b).ev∧ZcO e=some (.cut l b)∧(Ev.cut l b).ok:=by
 obtain⟨u,n,j,x,q,t,bx,F⟩:=ZnY hv h;have hq:=(ZU hv.1.2 q (Kb F.fq)).1;have hl:1≤q.Label∧q.Label≤9999∧q.W≤200∧q.H≤200:=o_
 obtain⟨b,hb,hp,hw,hc,hf,_⟩:=QM F.good.1;have aa:=ZeC (by have:=hw.2.2.2.2.1;exact this) hf hl.2.2.1 hl.2.2.2;have ab:b=Z5 n t bx.X bx.Y bx.W bx.H 0 0 q.W q.H:=by
  have h1:=F.fe;have h2:e.plan=(Z5 n t bx.X bx.Y bx.W bx.H 0 0 q.W q.H).plan:=by rw[h1];rfl
  have h3:=Yk (Z5 n t bx.X bx.Y bx.W bx.H 0 0 q.W q.H);rw[← h2,hb] at h3;exact Option.some.inj h3
 have h9:b.cnt≤9:=by rw[ab];exact ZwC ..
 have af:=Zfm b aa;have ad:Zr9 b:=⟨hc,aa,o_⟩
 have ae:e=(Ev.cut q.Label.toNat b).ev:=by
  rw[F.fe];show Zj4 n t bx q=⟨3,((q.Label.toNat:Nat):Int),bx0,ln0,b.plan⟩;rw[Int.toNat_of_nonneg (show 0≤q.Label by omega),ab];rfl
 refine⟨q.Label.toNat,b,hp,ae,?_,by simp only[Ev.ok];exact⟨o_,ad⟩⟩;rw[Wr (b:=b) ?_ hb ad]
 ·rw[F.fe];rfl
 ·rw[F.fe];intro m hm;unfold WE Zj4 at hm;simp only[Kd,KC,or_false] at hm;unfold six;omega
end Go.Proofs.YtfnegoimdljanaaGreatDoor
namespace Go.Proofs.YtfnegoimdljanaaGreatDoor
open Go Go.Abs Go.Abs.E Go.Abs.L
set_option maxRecDepth 20000
set_option maxHeartbeats 4000000
theorem ZBV:∀ {n:Nat} {s:Zm},ZE s→∀ k,k≤(Vb n s).2.length→(Vb k s).2=(Vb n s).2.take k∧runL s ((Vb n s).2.take k)=some (Vb k s).1
 | 0,s,hv,k,hk=>by
  simp[Vb] at hk;subst hk;simp[Vb,runL]
 | n+1,s,hv,k,hk=>by
  cases h:Vo s with
  | none=>
   rw[ZeA h] at hk ⊢;simp at hk;subst hk;simp[Vb,runL]
  | some e=>
   obtain⟨u,h1,h2,h3⟩:=Zhk hv h;rw[Zbv h h1] at hk ⊢;cases k with
   | zero=>simp[Vb,runL]
   | succ k=>
    rw[Zbv h h1];simp only[Kn] at hk;obtain⟨g1,g2⟩:=ZBV (n:=n) h2 k o_;simp only[Lu,runL,h1,g1,g2,and_self]
theorem ZBW:∀ {n:Nat} {s:Zm},ZE s→∃ vs:List Ev,(Vb n s).2=vs.map Ev.ev∧∀ v∈vs,v.ok
 | 0,s,hv=>⟨[],by simp[Vb],by simp⟩
 | n+1,s,hv=>by
  cases h:Vo s with
  | none=>rw[ZeA h];exact⟨[],rfl,by simp⟩
  | some e=>
   obtain⟨u,h1,h2,h3⟩:=Zhk hv h;rw[Zbv h h1];obtain⟨l,b,_,he,_,aa⟩:=ZDd hv h;obtain⟨vs,g1,g2⟩:=ZBW (n:=n) h2;refine⟨.cut l b :: vs,by simp[he,g1],fun v hx=>?_⟩;rcases Kd.1 hx with rfl | hx
   ·exact aa
   ·exact g2 v hx
theorem Zfs (ad:List UInt8):v_ 6 [.d (.sl (ad.map UF))] []=some ((.d (.bool true)),[]):=by
 have nb:∀ a b:Bool,ZgQ .neq true (.d (.bool a)) (.d (.bool b))=Qp (.d (.bool (!(a==b)))):=fun _ _=>rfl;have bb:∀ a b:Bool,ZgQ .eql true (.d (.bool a)) (.d (.bool b))=Qp (.d (.bool (a==b))):=fun _ _=>rfl;by_cases aa:(1048576:Int)<ad.length
 ·refine cE ?_;simp (maxSteps:=10^7) +contextual -implicitDefEqProofs only[go_sem,seval,Xq,aa]
 ·obtain⟨r,ed,S,O,D,L,C,f,g,h,m,hA,rfl⟩:=Zhl ad;by_cases hc:ZE ⟨S,O,D,L,C⟩∧0≤m∧m≤40
  ·obtain⟨hv,a8,ao⟩:=hc;obtain⟨n,rfl⟩:∃ n:Nat,m=(n:Int):=⟨m.toNat,o_⟩
   have e1:=ZeB S O D L C n hv o_;have e2:=ZmX S O D L C n hv o_;obtain⟨g1,g2,g3⟩:=Zrb (n:=n) hv;obtain⟨vs,q1,q2⟩:=ZBW (n:=n) hv;have ae:=ZBV (n:=n) hv;have e5:=ZoG (Vb n ⟨S,O,D,L,C⟩).2;cases hw:Vb n ⟨S,O,D,L,C⟩ with
   | mk z l=>
    rw[hw] at e1 e2 g1 g2 g3 q1 ae e5;simp only at g1 g2 g3 q1 ae e5;obtain⟨zS,zO,zD,zL,zC⟩:=z;unfold wtT at e1;unfold wtV at e2;simp only at e1 e2;have e3:=JW zS zO zD zL zC (YR g1);have e4:=Um l o_ g2;by_cases hl:l=[]
    ·subst hl;simp only[Kt] at e1 e2 e4 e5;refine cE ?_;simp (maxSteps:=10^7) +contextual -implicitDefEqProofs only[go_sem,seval,Xq,nb,bb,aa,ed,e1,e2,e3,e4]
    ·have ap:0<l.length:=List.length_pos_iff.2 hl;have a9:vs.length=l.length:=by rw[q1];simp
     have aj:=ZBU (l:=vs) fun h=>hl (by rw[q1,h];rfl);have aq:=ZmY q2;rw[q1,ZBT o_ q2,← q1] at e5;have ar:=ZAu (l:=vs) o_ q2;have ab:=ZAt (XT vs);rw[ar] at ab;generalize XT vs=tx at *;have a':tx.length≤1048576:=o_
     have au:(tx != [])=true:=by simp only[bne,aj];rfl
     have af : ¬(l.length:Int)=0:=o_
     clear aq;refine cE ?_;simp (maxSteps:=10^7) +contextual -implicitDefEqProofs only[go_sem,seval,Xq,nb,bb,aa,ed,e1,e2,e3,e4,e5,ap,af];refine LO (α:=Int) (fun c=>[(10,.d (J c))]) (fun _=>[]) (fun c=>c≤(tx.length:Int)∧-2000000≤c) (fun c=>c.toNat) (tx.length:Int) ⟨o_,o_⟩ ?_;intro c ⟨av,hc2⟩ ih;by_cases ak:0<c
     ·obtain⟨k,rfl⟩:∃ k:Nat,c=(k:Int):=⟨c.toNat,o_⟩
      have hk:k≤tx.length:=o_
      have e6:=Zm0 (tx.take k) (by simp;omega);obtain⟨aw,_⟩:=ab k;obtain⟨j,hj,ax⟩:∃ j,(ZjY (tx.take k)).map Ev.ev=l.take j∧j≤l.length:=by
       obtain⟨t,ht⟩:=aw;have h1:l=(ZjY (tx.take k)).map Ev.ev++t.map Ev.ev:=by rw[q1,← KJ,ht]
       exact⟨(ZjY (tx.take k)).length,by rw[h1];simp,by rw[h1];simp⟩
      rw[hj] at e6;obtain⟨p1,p2⟩:=ae j ax;have e7:=ZeB S O D L C j hv o_;obtain⟨g4,_,_⟩:=Zrb (n:=j) hv;have ag:(l.take j).length=j:=by simp;omega
      have e9:=Um (l.take j) o_ fun e he=>g2 e (KY he);rw[← p1] at e6 e9 p2 ag;generalize Vb j ⟨S,O,D,L,C⟩=y at *;obtain⟨⟨yS,yO,yD,yL,yC⟩,rs⟩:=y;simp only at e6 e9 p2 ag g4;subst ag;unfold wtT at e7;simp only at e7;have e8:=JW yS yO yD yL yC (YR g4);simp (maxSteps:=10^7) +contextual -implicitDefEqProofs only[go_sem,seval,ak,hk,av,e6];have w1:=wi ((k:Int)-1) o_ o_;have w2:(tx.length:Int).tdiv 8=((tx.length / 8:Nat):Int):=rfl;have w3:=wi (((tx.length / 8:Nat):Int)) o_ o_;have w4:=wi ((k:Int)-1-((tx.length / 8:Nat):Int)) o_ o_;by_cases hr:rs=[]
      ·subst hr;simp only[runL,Option.some.injEq,Zm.mk.injEq] at p2;obtain⟨rfl,rfl,rfl,rfl,rfl⟩:=p2;simp only[Kt,KL,Int.natCast_zero] at e7 e9;refine ZB Xs Ms ?_;simp (maxSteps:=10^7) +contextual -implicitDefEqProofs only[go_sem,seval,KL,Kt,e7,e8,e9,nb,bb,w1,w2,w3,w4];refine ih ((k:Int)-1-((tx.length / 8:Nat):Int)) _ ⟨o_,o_⟩ o_ ?_;simp (maxSteps:=10^7) +contextual -implicitDefEqProofs only[go_sem,seval]
      ·have al:0<rs.length:=List.length_pos_iff.2 hr;have ah : (0:Int)<(rs.length:Int):=o_
       obtain⟨e,am⟩:=Zp al;have p3:=Ztz (s:=⟨S,O,D,L,C⟩) am;rw[List.drop_zero,p2] at p3;cases hap:Qu ⟨S,O,D,L,C⟩ e with
       | none=>rw[hap] at p3;cases p3
       | some u=>
        rw[hap] at p3;simp only at p3;have hu:=Zce hap;obtain⟨K,Lb,⟨X,Y,W,H⟩,⟨⟨pW,pH,pT,pK⟩,Ct⟩,⟨o,a,q,t,ks⟩⟩:=e;have ea:=Vk S O D L C K Lb X Y W H pW pH pT pK Ct o a q t ks;rw[Kj hv,hap] at ea;obtain⟨uS,uO,uD,uL,uC⟩:=u;unfold shT at ea;simp only at ea;refine ZB Xs Ms ?_;simp (maxSteps:=10^7) +contextual -implicitDefEqProofs only[go_sem,seval,al,ah,am,ea];refine Yh Xs Ms (st0:=?st1) (α:=Nat×Zm) (fun s=>[(13,.d (J (s.1:Int)))]) (fun s=>[(1,.box [.own 3,.own 4,.own 5,(.d (J (s.2.Lost))),(.d (J (s.2.Came)))]),(3,.tree 4 4 (s.2.Stock.map Zb.enc) none),(4,.row 5 (s.2.Opn.map Zc.enc) true false),(5,.row 5 (s.2.Done.map Zc.enc) true false)]) (fun s=>s.1≤rs.length∧ZE s.2∧some ⟨yS,yO,yD,yL,yC⟩=runL s.2 (rs.drop s.1)) (fun s=>rs.length-s.1) (1,⟨uS,uO,uD,uL,uC⟩) ?hc2 ⟨p_,hu,p3⟩ ?h02 ?step2
        case hc2=>simp (maxSteps:=10^7) +contextual -implicitDefEqProofs only[go_sem,seval]<;>exact rfl
        case h02=>rfl
        case step2=>
         intro⟨i,⟨xS,xO,xD,xL,xC⟩⟩ ⟨hi,hx,hp⟩ ih2;simp only at hi hx hp ih2;by_cases an:i<rs.length
         ·obtain⟨e,he⟩:=Zp an;have ai : (i:Int)<(rs.length:Int):=o_
          have wr:=Zh (k:=i) o_;rw[Ztz he] at hp;cases hap2:Qu ⟨xS,xO,xD,xL,xC⟩ e with
          | none=>rw[hap2] at hp;cases hp
          | some v=>
           rw[hap2] at hp;simp only at hp;have ay:=Zce hap2;obtain⟨K2,az,⟨X2,Y2,W2,H2⟩,⟨⟨a0,a1,a3,a4⟩,a5⟩,⟨o2,a2,a6,t2,a7⟩⟩:=e;have eb:=Vk xS xO xD xL xC K2 az X2 Y2 W2 H2 a0 a1 a3 a4 a5 o2 a2 a6 t2 a7;rw[Kj hx,hap2] at eb;obtain⟨vS,vO,vD,vL,vC⟩:=v;unfold shT at eb;simp only at eb;simp (maxSteps:=10^7) +contextual -implicitDefEqProofs only[go_sem,seval,an,ai,he,wr,eb];refine ih2 (i+1,⟨vS,vO,vD,vL,vC⟩) _ ⟨p_,ay,hp⟩ p_ ?_;simp (maxSteps:=10^7) +contextual -implicitDefEqProofs only[go_sem,seval]
         ·have:i=rs.length:=o_
          subst this;rw[List.drop_length] at hp;simp only[runL,Option.some.injEq,Zm.mk.injEq] at hp;obtain⟨rfl,rfl,rfl,rfl,rfl⟩:=hp;simp (maxSteps:=10^7) +contextual -implicitDefEqProofs only[go_sem,seval,e7,e8,e9,nb,bb,w1,w2,w3,w4];refine ih ((k:Int)-1-((tx.length / 8:Nat):Int)) _ ⟨o_,o_⟩ o_ ?_;simp (maxSteps:=10^7) +contextual -implicitDefEqProofs only[go_sem,seval]
     ·simp (maxSteps:=10^7) +contextual -implicitDefEqProofs only[go_sem,seval,ak,au,aj]
  ·have e1:=Zlm S O D L C m hc;have e2:=Zln S O D L C m (ZB1 hA).1 hc;unfold wtV at e1 e2;have e3:=JW [] [] [] 0 0 (YR ZrB);have e4:=Um [] (by simp) (by simp);simp only[Kt] at e1 e2 e3 e4;refine cE ?_;simp (maxSteps:=10^7) +contextual -implicitDefEqProofs only[go_sem,seval,Xq,nb,bb,aa,ed,e1,e2,e3,e4]
end Go.Proofs.YtfnegoimdljanaaGreatDoor
