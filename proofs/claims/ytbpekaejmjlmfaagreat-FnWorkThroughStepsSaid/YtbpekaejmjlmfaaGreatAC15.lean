/- Own text. -/
import Derived.Test.YtbpekaejmjlmfaaGreatACode
import Derived.Test.YtbpekaejmjlmfaaGreatAbsParts
import Derived.Test.YtbpekaejmjlmfaaGreatAC12
import Derived.Test.YtbpekaejmjlmfaaGreatAC1
import Derived.Test.YtbpekaejmjlmfaaGreatAC10
import Derived.Test.YtbpekaejmjlmfaaGreatAC13
namespace Go.Proofs.YtbpekaejmjlmfaaGreat
open Go Go.Abs Go.Abs.E Go.Abs.L
open Nat (reduceMul reduceSub reduceLeDiff reduceEqDiff)
open Int (reduceLE reduceEq reduceToNat reduceNeg)
set_option linter.unusedSimpArgs false
set_option linter.unusedVariables false
set_option maxRecDepth 20000
set_option maxHeartbeats 4000000
theorem ZcF (p:Pane) (c:Int):∀ (l:List Zc),Qq (Yw p c l)=Qq l+c
 | []=>by simp[Yw,Qq]
 | x :: l=>by
  unfold Yw;split
  ·simp only[Qq];omega
  ·simp only[Qq,ZcF p c l];omega
theorem Zvt:∀ {l:List Zc} {a:Nat} {x y:Zc},l[a]?=some x→Qq (l.set a y)=Qq l-x.Count+y.Count
 | [],a,x,y,h=>by simp at h
 | z :: l,0,x,y,h=>by
  simp only[K3,Option.some.injEq] at h;subst h;simp only[Kas,Qq];omega
 | z :: l,a+1,x,y,h=>by
  simp only[KF] at h;simp only[Kac,Qq,Zvt h];omega
theorem ZoM:∀ {l:List Zc} {a:Nat} {x:Zc},l[a]?=some x→Qq (l.eraseIdx a)=Qq l-x.Count
 | [],a,x,h=>by simp at h
 | z :: l,0,x,h=>by
  simp only[K3,Option.some.injEq] at h;subst h;simp only[List.eraseIdx_cons_zero,Qq];omega
 | z :: l,a+1,x,h=>by
  simp only[KF] at h;simp only[L7,Qq,ZoM h];omega
theorem ZoN {l:List Zc} {p:Pane} {c:Int} (hu:UL l) (h:Xe p c false l=true):Qq (XS l p c)=Qq l-c:=by
 by_cases hf:VI 0 l p<0
 ·rw[Zig (Zj9 hf)] at h;cases h
 ·obtain⟨a,x,h1,h2,h3,h4⟩:=Zif (by omega:0≤VI 0 l p);obtain⟨k1,k2⟩:=ZoE (c:=c) hu h2 h3;rw[k1,Kr] at h;rw[k2];split
  ·rw[Zvt h2];simp only;omega
  ·rw[ZoM h2];omega
theorem Zlt:∀ {ps:List Pane} {us:List Int} {o d o' d' : List Zc},us.length=ps.length→Vo ps us o d=some (o',d')→UL o→(∀ v∈us,0≤v) →
  Qq o'+Qq d'=Qq o+Qq d∧Qq d≤Qq d'∧((∃ v∈us,v≠0)→Qq d<Qq d')
 | [],us,o,d,o',d',hl,h,hu,hv=>by
  cases us with
  | nil=>unfold Vo at h;cases h;simp
  | cons c us=>simp at hl
 | p :: ps,[],o,d,o',d',hl,h,hu,hv=>by simp at hl
 | p :: ps,c :: us,o,d,o',d',hl,h,hu,hv=>by
  rw[Vo] at h;simp only[Km,Nat.add_right_cancel_iff] at hl;have hc:=hv c (by simp);split at h
  ·rename_i h0;obtain⟨a,b,e⟩:=Zlt hl h hu (fun v h=>hv v (by simp[h]));refine⟨a,b,fun ⟨v,hm,hn⟩=>?_⟩;rcases Kg.1 hm with rfl | hm
   ·exact absurd h0 hn
   ·exact e ⟨v,hm,hn⟩
  ·rename_i h0;split at h
   ·rename_i ht;obtain⟨a,b,e⟩:=Zlt hl h (ZoF hu) (fun v h=>hv v (by simp[h]));rw[ZoN hu ht,ZcF] at a;rw[ZcF] at b;exact⟨by omega,by omega,fun _=>by omega⟩
   ·cases h
structure AFacts (s:Zm) (e:Zx) (t:Zm):Prop where
 vs:ZE t
 came:t.Came=s.Came+(if e.kind=0 then e.box.W*e.box.H else 0)
 lost:s.Lost≤t.Lost
 cnt:Qq t.Opn+Qq t.Done=Qq s.Opn+Qq s.Done+(if e.kind=2 then e.line.Count else 0)
 lt:Qq t.Done<Qq s.Done↔e.kind=4
 gt:Qq s.Done<Qq t.Done↔e.kind=3
 sheet:e.kind=0→Wz ⟨e.label,e.box.W,e.box.H,[]⟩ s.Stock∧e.box.X=0∧e.box.Y=0∧t = { s with Stock:=QC ⟨e.label,e.box.W,e.box.H,[]⟩ s.Stock,Came:=s.Came+e.box.W*e.box.H }
 ord:e.kind=2→V8 e.line
theorem Zvu {s t:Zm} {e:Zx} (h:QE s e=some t):evS s e=some t∧ZE t:=by
 have hv:=Zjw h;unfold QE Y5 at h;split at h
 ·split at h
  ·cases h;exact⟨by assumption,hv⟩
  ·cases h
 ·cases h
theorem Zxp {s t:Zm} {e:Zx} (hs:ZE s) (h:QE s e=some t):AFacts s e t:=by
 obtain⟨h,hv⟩:=Zvu h;unfold evS at h;split at h
 ·rename_i k;split at h
  ·rename_i hr;cases h;exact⟨hv,by simp[k],Kaa _,by simp[k],by simp[k],by simp[k],fun _=>⟨hr.1.1,hr.1.2,hr.2,rfl⟩,fun h=>by omega⟩
  ·cases h
 ·rename_i k0;split at h
  ·rename_i k;split at h
   ·cases h
   ·split at h
    ·cases h;exact⟨hv,by simp[k],Kaa _,by simp[k],by simp[k],by simp[k],fun h=>absurd h k0,fun h=>by omega⟩
    ·cases h
  ·rename_i k1;split at h
   ·rename_i k;split at h
    ·cases h
    ·rename_i a q hq;cases h;have ae:q∈s.Stock:=by
      unfold ZvW at hq;split at hq
      ·obtain⟨x,hx,e⟩:=Option.map_eq_some_iff.1 hq;cases e;exact Kb hx
      ·cases hq
     have af:=(Z3 hs.1.2 q ae).1;have:=JF (b:=⟨0,0,q.W,q.H⟩) (by simp only[VB];omega);simp only at this;exact⟨hv,by simp[k],by simp only;omega,by simp[k],by simp[k],by simp[k],fun h=>absurd h k0,fun h=>by omega⟩
   ·rename_i k5;split at h
    ·rename_i k;split at h
     ·rename_i hl;cases h;have hc:=hl.2;refine⟨hv,by simp[k],Kaa _,?_,by simp[k],by simp[k],fun h=>absurd h k0,fun _=>hl⟩;simp only[ZcF,k,Kk];omega
     ·cases h
    ·rename_i k2;split at h
     ·rename_i k;split at h
      ·rename_i hl;cases h;have hc:=hl.1.2;have ha:=ZcI hl.1;have h1:=ZoN (Zfz hs.2.2.1) hl.2;refine⟨hv,by simp[k],by simp only;omega,?_,?_,?_,fun h=>absurd h k0,fun h=>absurd h k2⟩
       ·simp only[ZcF,h1,k];simp;omega
       ·simp only[h1,k,iff_true];omega
       ·simp only[h1,k];omega
      ·cases h
     ·rename_i k4;split at h
      ·rename_i k;unfold ZdW at h;split at h
       ·cases h
       ·rename_i x hx;split at h
        ·cases h
        ·rename_i R hR;obtain⟨ab,_,_⟩:=Zkq hR;split at h
         ·rename_i hp;split at h
          ·cases h
          ·rename_i o d hg;cases h;have hu:=Zd2 ab;have ad:=ZsH ab hp;obtain⟨a,b,c⟩:=Zlt (by rw[hu.1]) hg (Zfz hs.2.1) (fun v h=>(hu.2 v h).1);have c:=c ad;have ag:=ZdN (l:=Zel ⟨x.W,x.H,s.Opn.map Zc.Pane⟩ e.plan 5) (fun c hc=>by
            obtain⟨z,hz,aa⟩:=Ls.1 hc;unfold Jt at aa;split at aa
            ·cases aa;exact ZcP ab c hz
            ·cases aa)
           refine⟨hv,by simp[k],by simp only;omega,?_,?_,?_,fun h=>absurd h k0,fun h=>absurd h k2⟩
           ·simp only[k];simp;omega
           ·simp only[k];omega
           ·simp only[k,iff_true];omega
         ·cases h
      ·cases h
theorem ZdZ (a:List Zc) (ha:a.length<4611686018427387904):Zd Xs Ms Vr [(.d (.sl (a.map Zc.enc))),(.d (.sl (a.map Zc.enc)))] []=some ((.d (.bool true)),[]):=by
 refine cE ?_;simp +contextual -implicitDefEqProofs (maxSteps:=10^7) only[go_sem,seval,↓gZ,Zdi];refine LO (α:=Nat) (fun k=>[(5,.d (J (k:Int)))]) (fun _=>[]) (fun k=>k≤a.length) (fun k=>a.length-k) 0 (by omega) ?_;intro k hk ih;by_cases aa:k<a.length
 ·obtain⟨x,hx⟩:=Zl aa;have hw:=Zh (k:=k) (by omega);simp +contextual -implicitDefEqProofs (maxSteps:=10^7) only[go_sem,seval,↓gZ,hx,aa,hw];refine ih (k+1) _ (by omega) (by omega) ?_;simp +contextual -implicitDefEqProofs (maxSteps:=10^7) only[go_sem,seval,↓gZ]
 ·have:k=a.length:=by omega
  subst this;simp +contextual -implicitDefEqProofs (maxSteps:=10^7) only[go_sem,seval,↓gZ]
theorem Ze6 (sS:List Zb) (sO sD:List Zc) (sL sC:Int) (hs:JK (Zm.mk sS sO sD sL sC)):Zd Xs Ms Y6 [(.d (.agg [.sl (sS.map Zb.enc),.sl (sO.map Zc.enc),.sl (sD.map Zc.enc),J sL,J sC])),(.d (.agg [.sl (sS.map Zb.enc),.sl (sO.map Zc.enc),.sl (sD.map Zc.enc),J sL,J sC]))] []=some ((.d (.bool true)),[]):=by
 obtain⟨h1,h2,h3,h4⟩:=hs;simp only at h1 h2 h3 h4;have e1:=ZnH sS sS (by omega) (fun x hx=>by have:=(h2 x hx).1;omega);rw[Ke rfl] at e1;have e2:=ZdZ sO (by omega);have e3:=ZdZ sD (by omega);refine cE ?_;simp +contextual -implicitDefEqProofs (maxSteps:=10^7) only[go_sem,seval,↓gZ,Zeu,e1,e2,e3]
end Go.Proofs.YtbpekaejmjlmfaaGreat
namespace Go.Proofs.YtbpekaejmjlmfaaGreat
open Go Go.Abs Go.Abs.E Go.Abs.L
open Nat (reduceMul reduceSub reduceLeDiff reduceEqDiff)
open Int (reduceLE reduceEq reduceToNat reduceNeg)
set_option linter.unusedSimpArgs false
set_option linter.unusedVariables false
set_option maxRecDepth 20000
set_option maxHeartbeats 4000000
theorem Jy (qL qW qH:Int) (qF:List Box) (w h:Int) (hq:VPc (Zb.mk qL qW qH qF)) (hw:1≤w∧w≤200) (hh:1≤h∧h≤200):Zd Xs Ms XY [(.d (.agg [J qL,J qW,J qH,.sl (qF.map Box.enc)])),(.d (J w)),(.d (J h))] []=some (fcV (Q9 (Zb.mk qL qW qH qF) w h)):=by
 have e0:=QY qL qW qH qF;rw[Ke hq] at e0;have hF:∀ f∈qF,VB f:=fun f hf=>(hq.2 f hf).1;obtain⟨_,_,af,ag,ah,ai,aj⟩:=hq.1;simp only at af ag ah ai aj;clear hq;have n1:¬w<1:=by omega
 have n2:¬(200:Int)<w:=by omega
 have n3:¬h<1:=by omega
 have n4:¬(200:Int)<h:=by omega
 unfold Q9;simp only;refine cE ?_;simp +contextual -implicitDefEqProofs (maxSteps:=10^7) only[go_sem,seval,↓gZ,Zdo,e0,n1,n2,n3,n4];refine LO (α:=Nat) (fun y=>[(8,.d (J (y:Int)))]) (fun _=>[]) (fun y=>(y:Int)≤qH∧Zpg qF qW qH w h (qH.toNat+1-y) y=Zpg qF qW qH w h (qH.toNat+1) 0) (fun y=>qH.toNat+1-y) 0 ⟨by omega,by simp⟩ ?_;intro y ⟨hy,hp⟩ ih;obtain⟨n,hn⟩:∃ n,qH.toNat+1-y=n+1:=⟨qH.toNat-y,by omega⟩
 rw[hn,Zpg] at hp;have wy:=wi ((y:Int)+h) (by omega) (by omega);by_cases ad:(y:Int)+h≤qH
 ·rw[Kl ad] at hp;simp +contextual -implicitDefEqProofs (maxSteps:=10^7) only[go_sem,seval,↓gZ,wy,ad];refine XP Xs Ms (st0:=?st1) (α:=Nat) (fun x=>[(9,.d (J (x:Int)))]) (fun _=>[]) (fun x=>(x:Int)≤qW∧Zpf qF qW w h y (qW.toNat+1-x) x=Zpf qF qW w h y (qW.toNat+1) 0) (fun x=>qW.toNat+1-x) 0 ?hc2 ⟨by omega,by simp⟩ ?h02 ?step2
  case hc2=>simp +contextual -implicitDefEqProofs (maxSteps:=10^7) only[go_sem,seval,↓gZ]<;>exact rfl
  case h02=>rfl
  case step2=>
   intro x ⟨hx,aa⟩ ak;obtain⟨m,hm⟩:∃ m,qW.toNat+1-x=m+1:=⟨qW.toNat-x,by omega⟩
   rw[hm,Zpf] at aa;have wx:=wi ((x:Int)+w) (by omega) (by omega);have al:=Zh (k:=x) (by omega);have am:=Zh (k:=y) (by omega);by_cases ab:(x:Int)+w≤qW
   ·rw[Kl ab] at aa;have ec:=Zha qF x y w h hF (by simp only[VB];omega) (by omega);by_cases ae:Qd qF ⟨x,y,w,h⟩
    ·rw[Kl ae] at aa;rw[← aa] at hp;simp only at hp;rw[Ke ae] at ec;simp +contextual -implicitDefEqProofs (maxSteps:=10^7) only[go_sem,seval,↓gZ,wx,ab,ec,Bool.not_true];rw[← hp];rfl
    ·rw[Ki ae] at aa;rw[Kh ae] at ec;simp +contextual -implicitDefEqProofs (maxSteps:=10^7) only[go_sem,seval,↓gZ,wx,ab,ec,al,Bool.not_false];refine ak (x+1) _ ⟨by omega,?_⟩ (by omega) ?_
     ·rw[← aa];have:qW.toNat+1-(x+1)=m:=by omega
      rw[this];rfl
     ·simp +contextual -implicitDefEqProofs (maxSteps:=10^7) only[go_sem,seval,↓gZ]
   ·rw[Ki ab] at aa;rw[← aa] at hp;simp only at hp;simp +contextual -implicitDefEqProofs (maxSteps:=10^7) only[go_sem,seval,↓gZ,wx,ab,am];refine ih (y+1) _ ⟨by omega,?_⟩ (by omega) ?_
    ·rw[← hp];have:qH.toNat+1-(y+1)=n:=by omega
     rw[this];rfl
    ·simp +contextual -implicitDefEqProofs (maxSteps:=10^7) only[go_sem,seval,↓gZ]
 ·rw[Ki ad] at hp;simp +contextual -implicitDefEqProofs (maxSteps:=10^7) only[go_sem,seval,↓gZ,wy,ad];rw[← hp];rfl
theorem ZoO (qL qW qH:Int) (qF:List Box) (pW pH:Int) (pT:Bool) (pK:Int) (hq:VPc (Zb.mk qL qW qH qF)) (hp:VP (Pane.mk pW pH pT pK)):Zd Xs Ms Ji [(.d (.agg [J qL,J qW,J qH,.sl (qF.map Box.enc)])),(.d (.agg [J pW,J pH,.bool pT,J pK]))] []=some ((.d (.bool (okP (Pane.mk pW pH pT pK) (Zb.mk qL qW qH qF)))),[]):=by
 have aa:1≤pW∧pW≤200∧1≤pH∧pH≤200:=⟨hp.1,hp.2.1,hp.2.2.1,hp.2.2.2.1⟩
 have f1:=Jy qL qW qH qF pW pH hq ⟨aa.1,aa.2.1⟩ aa.2.2;have f2:=Jy qL qW qH qF pH pW hq aa.2.2 ⟨aa.1,aa.2.1⟩;have ab:okP (Pane.mk pW pH pT pK) (Zb.mk qL qW qH qF)=((Q9 ⟨qL,qW,qH,qF⟩ pW pH).isSome || (pT&&(Q9 ⟨qL,qW,qH,qF⟩ pH pW).isSome)):=rfl;rw[ab];cases h1:Q9 ⟨qL,qW,qH,qF⟩ pW pH with
 | some b1=>
  rw[h1] at f1;unfold fcV at f1;obtain⟨bX,bY,bW,bH⟩:=b1;refine cE ?_;simp +contextual -implicitDefEqProofs (maxSteps:=10^7) only[go_sem,seval,↓gZ,Wu,f1,Li,Kau]
 | none=>
  rw[h1] at f1;unfold fcV at f1;cases pT with
  | false=>
   refine cE ?_;simp +contextual -implicitDefEqProofs (maxSteps:=10^7) only[go_sem,seval,↓gZ,Wu,f1,KY,Lv,LU]
  | true=>
   cases h2:Q9 ⟨qL,qW,qH,qF⟩ pH pW with
   | some b2=>
    rw[h2] at f2;unfold fcV at f2;obtain⟨bX,bY,bW,bH⟩:=b2;refine cE ?_;simp +contextual -implicitDefEqProofs (maxSteps:=10^7) only[go_sem,seval,↓gZ,Wu,f1,f2,KY,Li,Lv,Lf]
   | none=>
    rw[h2] at f2;unfold fcV at f2;refine cE ?_;simp +contextual -implicitDefEqProofs (maxSteps:=10^7) only[go_sem,seval,↓gZ,Wu,f1,f2,KY,Lv,Lf]
theorem ZoP (l:List Zb) (pW pH:Int) (pT:Bool) (pK:Int) (hv:VSt l) (hp:VP (Pane.mk pW pH pT pK)):Zd Xs Ms Jf [(.d (.sl (l.map Zb.enc))),(.d (.agg [J pW,J pH,.bool pT,J pK]))] []=some ((.d (J (Zs0 l (Pane.mk pW pH pT pK)))),[]):=by
 have e1:=YH l;have e2:=J7 pW pH pT pK;rw[Ke hv] at e1;rw[Ke hp] at e2;have ab:=fun x hx=>Z3 hv.2 x hx;have af:=hv.1;unfold Zs0;rw[Kl ⟨hv,hp⟩];refine cE ?_;simp +contextual -implicitDefEqProofs (maxSteps:=10^7) only[go_sem,seval,↓gZ,ZeD,e1,e2];refine LO (α:=Nat×Int×Int×Int) (fun s=>[(20,.d (J (s.1:Int))),(5,.d (J s.2.2.1)),(6,.d (J s.2.2.2))]) (fun _=>[]) (fun s=>s.1≤l.length∧Zb8 l (Pane.mk pW pH pT pK) (l.drop s.1) s.1 s.2.1=Zd3 l (Pane.mk pW pH pT pK)∧((s.2.1=-1∧s.2.2.1=0)∨∃ (j:Nat) (y:Zb),s.2.1=(j:Int)∧l[j]?=some y∧s.2.2.1=y.Label∧s.2.2.2=y.W*y.H)) (fun s=>l.length-s.1) (0,-1,0,0) ⟨by simp,by simp[Zd3],.inl ⟨rfl,rfl⟩⟩ ?_
 intro⟨i,b,lb,ls⟩ ⟨hi,hq,hb⟩ ih;simp only at hi hq hb;by_cases aa:i<l.length
 ·obtain⟨x,hx⟩:=Zl aa;have hw:=Zh (k:=i) (by omega);rw[ZmH hx] at hq;have ae:=ab x (Kb hx);have f1:=ZoO x.Label x.W x.H x.Flaws pW pH pT pK ae hp;have ag:=ae.1;have ah:0≤x.W*x.H∧x.W*x.H≤40000:=JF (b:=⟨0,0,x.W,x.H⟩) (by simp only[VB];omega);obtain⟨L,W,H,F⟩:=x;simp only at f1 ah hq ag;have u1:=wi (W*H) (by omega) (by omega);by_cases hc:lb=0∨W*H<ls
  ·have ai:b<0∨W*H<ZfH l b:=by
    rcases hb with ⟨h1,h2⟩ | ⟨j,y,h1,h2,h3,h4⟩
    ·left;omega
    ·have:=(ab y (Kb h2)).1;right
     unfold ZfH;rw[h1,KA,h2];simp only;rcases hc with hc | hc
     ·omega
     ·omega
   by_cases ad:okP (Pane.mk pW pH pT pK) ⟨L,W,H,F⟩=true
   ·rw[ad] at f1;rw[Kl ⟨ad,ai⟩] at hq;rcases hc with hc | hc
    ·simp +contextual -implicitDefEqProofs (maxSteps:=10^7) only[go_sem,seval,↓gZ,hx,aa,hw,f1,u1,hc];refine ih (i+1,(i:Int),L,W*H) _ ⟨by simp only;omega,hq,.inr ⟨i,⟨L,W,H,F⟩,rfl,hx,rfl,rfl⟩⟩ (by simp only;omega) ?_;simp +contextual -implicitDefEqProofs (maxSteps:=10^7) only[go_sem,seval,↓gZ]
    ·by_cases h0:lb=0
     ·simp +contextual -implicitDefEqProofs (maxSteps:=10^7) only[go_sem,seval,↓gZ,hx,aa,hw,f1,u1,h0];refine ih (i+1,(i:Int),L,W*H) _ ⟨by simp only;omega,hq,.inr ⟨i,⟨L,W,H,F⟩,rfl,hx,rfl,rfl⟩⟩ (by simp only;omega) ?_;simp +contextual -implicitDefEqProofs (maxSteps:=10^7) only[go_sem,seval,↓gZ]
     ·simp +contextual -implicitDefEqProofs (maxSteps:=10^7) only[go_sem,seval,↓gZ,hx,aa,hw,f1,u1,h0,hc];refine ih (i+1,(i:Int),L,W*H) _ ⟨by simp only;omega,hq,.inr ⟨i,⟨L,W,H,F⟩,rfl,hx,rfl,rfl⟩⟩ (by simp only;omega) ?_;simp +contextual -implicitDefEqProofs (maxSteps:=10^7) only[go_sem,seval,↓gZ]
   ·rw[Ki (fun h=>ad h.1)] at hq;simp only[LB] at ad;rw[ad] at f1;by_cases h0:lb=0
    ·simp +contextual -implicitDefEqProofs (maxSteps:=10^7) only[go_sem,seval,↓gZ,hx,aa,hw,f1,u1,h0];refine ih (i+1,b,0,ls) _ ⟨by simp only;omega,hq,by rw[h0] at hb;exact hb⟩ (by simp only;omega) ?_;simp +contextual -implicitDefEqProofs (maxSteps:=10^7) only[go_sem,seval,↓gZ]
    ·have hc:W*H<ls:=hc.resolve_left h0;simp +contextual -implicitDefEqProofs (maxSteps:=10^7) only[go_sem,seval,↓gZ,hx,aa,hw,f1,u1,h0,hc];refine ih (i+1,b,lb,ls) _ ⟨by simp only;omega,hq,hb⟩ (by simp only;omega) ?_;simp +contextual -implicitDefEqProofs (maxSteps:=10^7) only[go_sem,seval,↓gZ]
  ·have h0:¬lb=0:=fun h=>hc (.inl h);have h1:¬W*H<ls:=fun h=>hc (.inr h);rw[Ki (fun h=>by
    rcases hb with ⟨h2,h3⟩ | ⟨j,y,h2,h3,h4,h5⟩
    ·exact h0 h3
    ·rcases h.2 with h6 | h6
     ·omega
     ·unfold ZfH at h6;rw[h2,KA,h3] at h6;simp only at h6;omega)] at hq
   simp +contextual -implicitDefEqProofs (maxSteps:=10^7) only[go_sem,seval,↓gZ,hx,aa,hw,f1,u1,h0,h1];refine ih (i+1,b,lb,ls) _ ⟨by simp only;omega,hq,hb⟩ (by simp only;omega) ?_;simp +contextual -implicitDefEqProofs (maxSteps:=10^7) only[go_sem,seval,↓gZ]
 ·have:i=l.length:=by omega
  subst this;rw[Zph] at hq;rcases hb with ⟨h1,h2⟩ | ⟨j,y,h1,h2,h3,h4⟩
  ·have hn:Zd3 l (Pane.mk pW pH pT pK)<0:=by omega
   simp +contextual -implicitDefEqProofs (maxSteps:=10^7) only[go_sem,seval,↓gZ];rw[Kl hn,h2]
  ·have hn:¬Zd3 l (Pane.mk pW pH pT pK)<0:=by omega
   simp +contextual -implicitDefEqProofs (maxSteps:=10^7) only[go_sem,seval,↓gZ];rw[Ki hn,← hq,h1,KA,h2,h3]
mutual
theorem Ze.enc_inj:∀ (p q:Ze),p.enc=q.enc→p=q
 | .mk o a i t ks,.mk o' a' i' t' ks',h=>by
  rw[Ze.enc_mk,Ze.enc_mk] at h;injection h with h;simp only[List.cons.injEq,D.int.injEq,D.bool.injEq,D.sl.injEq,true_and,and_true] at h;obtain⟨rfl,rfl,rfl,rfl,h⟩:=h;rw[Ze.encL_inj ks ks' h]
theorem Ze.encL_inj:∀ (l m:List Ze),l.map Ze.enc=m.map Ze.enc→l=m
 | [],[],_=>rfl
 | [],_ :: _,h=>by simp at h
 | _ :: _,[],h=>by simp at h
 | x :: l,y :: m,h=>by
  rw[Ko,Ko] at h;injection h with h1 h2;rw[Ze.enc_inj x y h1,Ze.encL_inj l m h2]
end
theorem ZzE {X:Option BT} {p:Ze} (h:plV X=Zae p):∃ b,X=some b∧b.plan=p:=by
 obtain⟨o,a,q,t,ks⟩:=p;cases X with
 | none=>simp[plV,Zae] at h
 | some b=>
  obtain⟨o',a',q',t',aa,eb⟩:=Zc7 b;simp only[plV,Zae,eb] at h;simp only[Prod.mk.injEq,AV.tup.injEq,List.cons.injEq,AV.agg.injEq,AV.d.injEq,D.int.injEq,D.bool.injEq,Zn.row.injEq,true_and,and_true] at h;obtain⟨⟨rfl,rfl,rfl,rfl⟩,h⟩:=h;exact⟨b,rfl,by rw[eb,Ze.encL_inj _ _ h]⟩
theorem ZAZ {k:Zs} {c:L.Place} (hw:VW k) (hc:ZcU k c):plT (popL k [c])=plT (some (Qx c.Pane c.Turned c.Box.X c.Box.Y c.Box.W c.Box.H 0 0 k.W k.H))∧VPl k [c]:=by
 have hv:VPl k [c]:=by
  refine⟨⟨hw,by simp⟩,fun d hd=>?_,?_⟩
  ·rw[KH.1 hd];exact hc
  ·unfold ZgK;simp
 refine⟨?_,hv⟩;obtain⟨h1,h2,h3,h4⟩:=ZsG hv;have hG:=ZrN (k.W+k.H).toNat [c] 0 0 k.W k.H h1 h2 (Kq _) (by simp);have hi:=h2 c (by simp);obtain⟨P,T,⟨X,Y,W,H⟩⟩:=c;have hO:=Zi4 P T X Y W H 0 0 k.W k.H (by simp only[VB] at h1;simp only[VB,ZT] at hi;unfold Zc5;omega);have h:some (plV (Vh (k.W+k.H).toNat [⟨P,T,⟨X,Y,W,H⟩⟩] ⟨0,0,k.W,k.H⟩))=some (Zae (Qx P T X Y W H 0 0 k.W k.H).plan):=hG.symm.trans hO;unfold popL;rw[Kl hv];obtain⟨b,hb,aa⟩:=ZzE (Option.some.inj h);rw[hb];simp only[plT,aa]
def nxT:Option Zx→AV×List Zn
 | some ⟨k,l,⟨x,y,w,h⟩,⟨⟨pw,ph,pt,pk⟩,c⟩,.mk o a q t ks⟩=>(.tup [.agg [(.d (J k)),(.d (J l)),(.d (J x)),(.d (J y)),(.d (J w)),(.d (J h)),(.d (J pw)),(.d (J ph)),(.d (.bool pt)),(.d (J pk)),(.d (J c)),(.d (J o)),(.d (J a)),(.d (J q)),(.d (.bool t)),.own 0],(.d (.bool true))],[plO ks])
 | none=>(.tup [.agg [(.d (J 0)),(.d (J 0)),(.d (J 0)),(.d (J 0)),(.d (J 0)),(.d (J 0)),(.d (J 0)),(.d (J 0)),(.d (.bool false)),(.d (J 0)),(.d (J 0)),(.d (J 0)),(.d (J 0)),(.d (J 0)),(.d (.bool false)),.own 0],(.d (.bool false))],[.row 5 [] true false])
def cfV (ok:Bool):Zx→AV×List Zn
 | ⟨k,l,⟨x,y,w,h⟩,⟨⟨pw,ph,pt,pk⟩,c⟩,.mk o a q t ks⟩=>(.tup [.agg [(.d (J k)),(.d (J l)),(.d (J x)),(.d (J y)),(.d (J w)),(.d (J h)),(.d (J pw)),(.d (J ph)),(.d (.bool pt)),(.d (J pk)),(.d (J c)),(.d (J o)),(.d (J a)),(.d (J q)),(.d (.bool t)),.own 0],(.d (.bool ok))],[plO ks])
theorem Zvv (sS:List Zb) (sO sD:List Zc) (sL sC:Int) (qL qW qH:Int) (qF:List Box) (i:Nat) (pW pH:Int) (pT:Bool) (pK:Int) (hv:ZE (Zm.mk sS sO sD sL sC)) (a:Nat) (ha:sS[a]?=some (Zb.mk qL qW qH qF)) (y:Zc) (hy:sO[i]?=some y) (ai:y.Pane=(Pane.mk pW pH pT pK)) (af:okP (Pane.mk pW pH pT pK) (Zb.mk qL qW qH qF)=true) :
  ∃ (t:Bool) (b:Box),((Q9 (Zb.mk qL qW qH qF) pW pH=some b∧t=false)∨(Q9 (Zb.mk qL qW qH qF) pW pH=none∧Q9 (Zb.mk qL qW qH qF) pH pW=some b∧t=true))∧ZcU ⟨qW,qH,sO.map Zc.Pane⟩ ⟨i,t,b⟩∧VW ⟨qW,qH,sO.map Zc.Pane⟩ ∧
   Zd Xs Ms Zc8 [(.d (.agg [.sl (sS.map Zb.enc),.sl (sO.map Zc.enc),.sl (sD.map Zc.enc),J sL,J sC])),(.d (.agg [J qL,J qW,J qH,.sl (qF.map Box.enc)])),(.d (J i)),(.d (.agg [J pW,J pH,.bool pT,J pK]))] []=some (cfV (QE (Zm.mk sS sO sD sL sC) (ZlJ i t b (Zb.mk qL qW qH qF))).isSome (ZlJ i t b (Zb.mk qL qW qH qF))):=by
 have ag:=Z3 hv.1.2 _ (Kb ha);have al:=ag.1;simp only at al;have hp:VP (Pane.mk pW pH pT pK):=by rw[← ai];exact(QO hv.2.1 y (Kb hy)).1
 have ae:1≤pW∧pW≤200∧1≤pH∧pH≤200:=⟨hp.1,hp.2.1,hp.2.2.1,hp.2.2.2.1⟩
 have e1:=ZfI sS sO sD sL sC qL;unfold Zs2 at e1;have ab:=Zkt (k:=0) hv.1.2 ha;rw[K4] at ab;rw[Kl hv] at e1;simp only at ab;simp only[Zbl ab ha] at e1;unfold wkV at e1;simp only at e1;have f1:=Jy qL qW qH qF pW pH ag ⟨ae.1,ae.2.1⟩ ae.2.2;have f2:=Jy qL qW qH qF pH pW ag ae.2.2 ⟨ae.1,ae.2.1⟩;have am:=hv.2.1.1;simp only at am;have ah:VW ⟨qW,qH,sO.map Zc.Pane⟩:=by
  refine⟨by simp only;omega,by simp only;omega,by simp only;omega,by simp only;omega,by simp;omega,fun z hz=>?_⟩;obtain⟨x,hx,rfl⟩:=KX.1 hz;exact(QO hv.2.1 x hx).1
 have aj:(sO.map Zc.Pane)[i]?=some (Pane.mk pW pH pT pK):=by rw[Lc,hy,← ai];rfl
 have ak:∀ (t:Bool) (b:Box),ZcU ⟨qW,qH,sO.map Zc.Pane⟩ ⟨i,t,b⟩→∃ (o a' p' : Int) (t' : Bool) (ks:List Ze),(Qx i t b.X b.Y b.W b.H 0 0 qW qH).plan=.mk o a' p' t' ks ∧
   Zd Xs Ms Ys [.d (.agg [J qW,J qH,.sl ((sO.map Zc.Pane).map Pane.enc)]),.d (.sl [.agg [J (i:Int),.bool t,J b.X,J b.Y,J b.W,J b.H]])] []=some (.tup [.agg [(.d (J o)),(.d (J (a'))),(.d (J (p'))),(.d (.bool (t'))),.own 0],(.d (.bool true))],[plO ks]):=by
  intro t b hc;have e:=Zj8 qW qH (sO.map Zc.Pane) [⟨i,t,b⟩];rw[(ZAZ ah hc).1] at e;simp only[plT] at e;cases hpp:(Qx i t b.X b.Y b.W b.H 0 0 qW qH).plan with
  | mk o a' p' t' ks=>
   rw[hpp] at e;exact⟨o,a',p',t',ks,rfl,e⟩
 cases h1:Q9 (Zb.mk qL qW qH qF) pW pH with
 | some b=>
  obtain⟨g1,g2,g3,g4,g5,g6,_⟩:=ZbR h1;simp only at g2 g4;have hc:ZcU ⟨qW,qH,sO.map Zc.Pane⟩ ⟨i,false,b⟩:=by
   refine⟨⟨?_,?_⟩,?_⟩
   ·simp only[VB];omega
   ·simp only[ZT];omega
   ·simp[Yc,aj,g5,g6]
  refine⟨false,b,.inl ⟨rfl,rfl⟩,hc,ah,?_⟩;obtain⟨o,a',p',t',ks,k1,k2⟩:=ak false b hc;rw[h1] at f1;have e5:=Jx sS sO sD sL sC 3 qL 0 0 0 0 0 0 false 0 0 o a' p' t' ks;rw[Kl hv] at e5;unfold ZlJ;simp only[k1];obtain⟨bX,bY,bW,bH⟩:=b;unfold fcV at f1;simp only at f1 k2;cases hap:QE (Zm.mk sS sO sD sL sC) ⟨3,qL,⟨0,0,0,0⟩,⟨⟨0,0,false,0⟩,0⟩,.mk o a' p' t' ks⟩ with
  | none=>
   rw[hap] at e5;unfold shT at e5;unfold cfV;refine cE ?_;by_cases aa:ks=[]
   ·subst aa;simp only[Kz] at e5;simp +contextual -implicitDefEqProofs (maxSteps:=10^7) only[go_sem,seval,↓gZ,Vd,e1,f1,k2,e5,KY]
   ·have ad:=Zlm aa;simp +contextual -implicitDefEqProofs (maxSteps:=10^7) only[go_sem,seval,↓gZ,Vd,e1,f1,k2,e5,KY,ad]
  | some u=>
   rw[hap] at e5;obtain⟨a1,a2,a3,a4,a5⟩:=u;unfold shT at e5;simp only at e5;unfold cfV;refine cE ?_;by_cases aa:ks=[]
   ·subst aa;simp only[Kz] at e5;simp +contextual -implicitDefEqProofs (maxSteps:=10^7) only[go_sem,seval,↓gZ,Vd,e1,f1,k2,e5,Li]
   ·have ad:=Zlm aa;simp +contextual -implicitDefEqProofs (maxSteps:=10^7) only[go_sem,seval,↓gZ,Vd,e1,f1,k2,e5,Li,ad]
 | none=>
  unfold okP at af;simp only[h1,KY,Lv,Kd] at af;obtain⟨hT,hs⟩:=af;subst hT;cases h2:Q9 (Zb.mk qL qW qH qF) pH pW with
  | none=>rw[h2] at hs;cases hs
  | some b=>
   obtain⟨g1,g2,g3,g4,g5,g6,_⟩:=ZbR h2;simp only at g2 g4;have an:¬pW=pH:=fun h=>by rw[h] at h1 h2;rw[h1] at h2;cases h2
   have hc:ZcU ⟨qW,qH,sO.map Zc.Pane⟩ ⟨i,true,b⟩:=by
    refine⟨⟨?_,?_⟩,?_⟩
    ·simp only[VB];omega
    ·simp only[ZT];omega
    ·simp[Yc,aj,g5,g6,an]
   refine⟨true,b,.inr ⟨rfl,rfl,rfl⟩,hc,ah,?_⟩;obtain⟨o,a',p',t',ks,k1,k2⟩:=ak true b hc;rw[h1] at f1;rw[h2] at f2;have e5:=Jx sS sO sD sL sC 3 qL 0 0 0 0 0 0 false 0 0 o a' p' t' ks;rw[Kl hv] at e5;unfold ZlJ;simp only[k1];obtain⟨bX,bY,bW,bH⟩:=b;unfold fcV at f1 f2;simp only at f1 f2 k2;cases hap:QE (Zm.mk sS sO sD sL sC) ⟨3,qL,⟨0,0,0,0⟩,⟨⟨0,0,false,0⟩,0⟩,.mk o a' p' t' ks⟩ with
   | none=>
    rw[hap] at e5;unfold shT at e5;unfold cfV;refine cE ?_;by_cases aa:ks=[]
    ·subst aa;simp only[Kz] at e5;simp +contextual -implicitDefEqProofs (maxSteps:=10^7) only[go_sem,seval,↓gZ,Vd,e1,f1,f2,k2,e5,KY]
    ·have ad:=Zlm aa;simp +contextual -implicitDefEqProofs (maxSteps:=10^7) only[go_sem,seval,↓gZ,Vd,e1,f1,f2,k2,e5,KY,ad]
   | some u=>
    rw[hap] at e5;obtain⟨a1,a2,a3,a4,a5⟩:=u;unfold shT at e5;simp only at e5;unfold cfV;refine cE ?_;by_cases aa:ks=[]
    ·subst aa;simp only[Kz] at e5;simp +contextual -implicitDefEqProofs (maxSteps:=10^7) only[go_sem,seval,↓gZ,Vd,e1,f1,f2,k2,e5,Li]
    ·have ad:=Zlm aa;simp +contextual -implicitDefEqProofs (maxSteps:=10^7) only[go_sem,seval,↓gZ,Vd,e1,f1,f2,k2,e5,Li,ad]
theorem Zt1 (sS:List Zb) (sO sD:List Zc) (sL sC:Int) (hv:ZE (Zm.mk sS sO sD sL sC)):Zd Xs Ms ZbU [(.d (.agg [.sl (sS.map Zb.enc),.sl (sO.map Zc.enc),.sl (sD.map Zc.enc),J sL,J sC]))] []=some (nxT (Vp (Zm.mk sS sO sD sL sC))):=by
 have e1:=ZZ sS sO sD sL sC;rw[Ke hv] at e1;have ai:=hv.2.1.1;have af:=hv.1.1;simp only at ai af;refine cE ?_;simp +contextual -implicitDefEqProofs (maxSteps:=10^7) only[go_sem,seval,↓gZ,Zhp,e1];refine LO (α:=Nat) (fun i=>[(17,.d (J (i:Int)))]) (fun _=>[]) (fun i=>i≤sO.length∧WT (Zm.mk sS sO sD sL sC) (sO.drop i) i=Vp (Zm.mk sS sO sD sL sC)) (fun i=>sO.length-i) 0 ⟨by omega,by simp[Vp]⟩ ?_;intro i ⟨hi,hp⟩ ih;by_cases aa:i<sO.length
 ·obtain⟨x,hx⟩:=Zl aa;have hw:=Zh (k:=i) (by omega);rw[Zhm hx] at hp;have ag:=QO hv.2.1 x (Kb hx);have aj:=hx;obtain⟨⟨W,H,T,K⟩,C⟩:=x;simp only at ag;have ef:=ZoP sS W H T K hv.1 ag.1;unfold Zs0 at ef;rw[Kl ⟨hv.1,ag.1⟩] at ef;unfold Zpl at hp;simp only at hp;rcases Zpi sS ⟨W,H,T,K⟩ with h0 | ⟨j,q,hj,hq,ak⟩
  ·rw[Kl h0] at ef hp;simp only at hp;simp +contextual -implicitDefEqProofs (maxSteps:=10^7) only[go_sem,seval,↓gZ,hx,aa,hw,ef];refine ih (i+1) _ ⟨by omega,hp⟩ (by omega) ?_;simp +contextual -implicitDefEqProofs (maxSteps:=10^7) only[go_sem,seval,↓gZ]
  ·have al:¬(j:Int)<0:=by omega
   rw[hj,Ki al,KA,hq] at ef hp;simp only at hp ef;have am:=Z3 hv.1.2 q (Kb hq);have ae:=(Kc.1 hq).1;have el:=Yu sS q.Label (by omega);rw[Zkt hv.1.2 hq,K4] at el;have ab:0<q.Label:=by have:=am.1;omega
   obtain⟨qL,qW,qH,qF⟩:=q;simp only at ef el hp ab;obtain⟨t,b,hb,_,_,ec⟩:=Zvv sS sO sD sL sC qL qW qH qF i W H T K hv j hq _ aj rfl ak;have hp:(if (QE (Zm.mk sS sO sD sL sC) (ZlJ i t b ⟨qL,qW,qH,qF⟩)).isSome=true then some (ZlJ i t b ⟨qL,qW,qH,qF⟩) else WT (Zm.mk sS sO sD sL sC) (sO.drop (i+1)) (i+1))=Vp (Zm.mk sS sO sD sL sC):=by
    rcases hb with ⟨k1,rfl⟩ | ⟨k1,k2,rfl⟩
    ·rw[k1] at hp;exact hp
    ·rw[k1,k2] at hp;exact hp
   unfold ZlJ at ec hp;cases hpp:(Qx i t b.X b.Y b.W b.H 0 0 qW qH).plan with
   | mk o a p t' ks=>
    simp only[hpp] at ec hp;unfold cfV at ec;simp only at ec;cases hap:QE (Zm.mk sS sO sD sL sC) ⟨3,qL,⟨0,0,0,0⟩,⟨⟨0,0,false,0⟩,0⟩,.mk o a p t' ks⟩ with
    | none=>
     rw[hap] at ec hp;simp only[KY,Ka,Kj] at ec hp;by_cases ad:ks=[]
     ·subst ad;simp +contextual -implicitDefEqProofs (maxSteps:=10^7) only[go_sem,seval,↓gZ,hx,aa,hw,ef,el,ec,ab,ae,hq,ZyS];refine ih (i+1) _ ⟨by omega,hp⟩ (by omega) ?_;simp +contextual -implicitDefEqProofs (maxSteps:=10^7) only[go_sem,seval,↓gZ]
     ·have ah:=Zlm ad;simp +contextual -implicitDefEqProofs (maxSteps:=10^7) only[go_sem,seval,↓gZ,hx,aa,hw,ef,el,ec,ab,ae,hq,ah];refine ih (i+1) _ ⟨by omega,hp⟩ (by omega) ?_;simp +contextual -implicitDefEqProofs (maxSteps:=10^7) only[go_sem,seval,↓gZ]
    | some u=>
     rw[hap] at ec hp;simp only[Li,Kk] at ec hp;rw[← hp];unfold nxT;by_cases ad:ks=[]
     ·subst ad;simp +contextual -implicitDefEqProofs (maxSteps:=10^7) only[go_sem,seval,↓gZ,hx,aa,hw,ef,el,ec,ab,ae,hq,ZyS]
     ·have ah:=Zlm ad;simp +contextual -implicitDefEqProofs (maxSteps:=10^7) only[go_sem,seval,↓gZ,hx,aa,hw,ef,el,ec,ab,ae,hq,ah]
 ·have:i=sO.length:=by omega
  subst this;rw[Zpm] at hp;rw[← hp];unfold nxT;simp +contextual -implicitDefEqProofs (maxSteps:=10^7) only[go_sem,seval,↓gZ]
def Zka:List Int→Int
 | []=>0
 | x :: l=>x+Zka l
theorem Zvw:∀ {u:List Int} {n:Nat} {v w:Int},u[n]?=some v→Zka (u.set n w)=Zka u-v+w
 | [],n,v,w,h=>by simp at h
 | x :: u,0,v,w,h=>by
  simp only[K3,Option.some.injEq] at h;subst h;simp only[Kas,Zka];omega
 | x :: u,n+1,v,w,h=>by
  simp only[KF] at h;simp only[Kac,Zka,Zvw h];omega
theorem ZsJ:∀ (l:List L.Place) (u:List Int),(∀ c∈l,∃ n:Nat,c.Pane=(n:Int)∧n<u.length)→Zka (U7 u l)=Zka u+l.length
 | [],u,_=>by simp[U7]
 | x :: l,u,h=>by
  obtain⟨n,h1,h2⟩:=h x (by simp);obtain⟨v,hv⟩:=Zl h2;rw[U7,h1,KA,hv,ZsJ l _ (fun c hc=>by
   obtain⟨m,a,b⟩:=h c (by simp[hc]);exact⟨m,a,by simpa using b⟩),Zvw hv]
  simp only[Option.getD_some,Km];omega
theorem Zvx:∀ n:Nat,Zka (List.replicate n 0)=0
 | 0=>rfl
 | n+1=>by simp[LP,Zka,Zvx n]
theorem ZzF {k:Zs} {p:Ze} (hv:Q6 k p=true):Zka (Zck k p)=((ZU k p).filterMap Q8).length:=by
 obtain⟨b,hb,ae,af,ab,aa,ad⟩:=QR hv;unfold Zck;rw[ad,YR,ZsJ _ _ (fun c hc=>by
  obtain⟨n,h1,h2⟩:=ZbQ aa c hc;exact⟨n,h1,by simpa using h2⟩),Zvx]
 omega
theorem Zjo:∀ {ps:List Pane} {us:List Int} {o d o' d' : List Zc},us.length=ps.length→Vo ps us o d=some (o',d')→Qq d'=Qq d+Zka us
 | [],us,o,d,o',d',hl,h=>by
  cases us with
  | nil=>unfold Vo at h;cases h;simp[Zka]
  | cons c us=>simp at hl
 | p :: ps,[],o,d,o',d',hl,h=>by simp at hl
 | p :: ps,c :: us,o,d,o',d',hl,h=>by
  rw[Vo] at h;simp only[Km,Nat.add_right_cancel_iff] at hl;split at h
  ·rename_i h0;rw[Zjo hl h,Zka,h0];omega
  ·split at h
   ·rw[Zjo hl h,ZcF,Zka];omega
   ·cases h
theorem ZCr {i:Int} {t:Bool} {X Y W H bX bY bW bH:Int} (h:Zc5 X Y W H bX bY bW bH):plc (Qx i t X Y W H bX bY bW bH) bX bY bW bH=[⟨i,t,⟨X,Y,W,H⟩⟩]:=by
 have h0:=h;unfold Zc5 at h0;have q4:∀ (y h' : Int),y=Y→Y+H≤y+h'→plc (if Y+H<Y+h' then BT.cut false H (.pane i t) .waste else .pane i t) X y W h'=[⟨i,t,⟨X,Y,W,H⟩⟩]:=by
  intro y h' e e2;subst e;split
  ·simp[plc]
  ·have:h'=H:=by omega
   simp[plc,this]
 have q3:plc (if bY<Y then BT.cut false (Y-bY) .waste (if Y+H<bY+bH then BT.cut false H (.pane i t) .waste else .pane i t) else (if Y+H<bY+bH then BT.cut false H (.pane i t) .waste else .pane i t)) X bY W bH=[⟨i,t,⟨X,Y,W,H⟩⟩]:=by
  split
  ·have e:Y+H<bY+bH↔Y+H<Y+(bH-(Y-bY)):=by omega
   simp only[plc,Ka,Kj,Lx,e];exact q4 _ _ (by omega) (by omega)
  ·have e:bY=Y:=by omega
   subst e;exact q4 _ _ rfl (by omega)
 have q2:∀ (x w' : Int),x=X→X+W≤x+w'→plc (if X+W<X+w' then BT.cut true W (if bY<Y then BT.cut false (Y-bY) .waste (if Y+H<bY+bH then BT.cut false H (.pane i t) .waste else .pane i t) else (if Y+H<bY+bH then BT.cut false H (.pane i t) .waste else .pane i t)) .waste else (if bY<Y then BT.cut false (Y-bY) .waste (if Y+H<bY+bH then BT.cut false H (.pane i t) .waste else .pane i t) else (if Y+H<bY+bH then BT.cut false H (.pane i t) .waste else .pane i t))) x bY w' bH=[⟨i,t,⟨X,Y,W,H⟩⟩]:=by
  intro x w' e e2;subst e;split
  ·simp only[plc,Kk,KJ,q3]
  ·have:w'=W:=by omega
   rw[this];exact q3
 unfold Qx;simp only;split
 ·have e:X+W<bX+bW↔X+W<X+(bW-(X-bX)):=by omega
  simp only[plc,Kk,Lx,e];exact q2 _ _ (by omega) (by omega)
 ·have e:bX=X:=by omega
  subst e;exact q2 _ _ rfl (by omega)
theorem ZmC {s:Zm} (hv:ZE s):∀ {m:Nat} {i:Nat} {e:Zx},s.Opn.length-i=m→WT s (s.Opn.drop i) i=some e→∃ (n j:Nat) (x:Zc) (q:Zb) (t:Bool) (b:Box),s.Opn[n]?=some x∧s.Stock[j]?=some q∧e=ZlJ n t b q∧((Q9 q x.Pane.W x.Pane.H=some b∧t=false)∨(Q9 q x.Pane.W x.Pane.H=none∧Q9 q x.Pane.H x.Pane.W=some b∧t=true))∧okP x.Pane q=true∧∃ u,QE s e=some u
 | 0,i,e,hm,h=>by
  rw[List.drop_eq_nil_of_le (by omega)] at h;simp[WT] at h
 | m+1,i,e,hm,h=>by
  obtain⟨x,hx⟩:=Zl (l:=s.Opn) (k:=i) (by omega);rw[Zhm hx] at h;have nx:=fun h=>ZmC hv (m:=m) (i:=i+1) (e:=e) (by omega) h;unfold Zpl at h;rcases Zpi s.Stock x.Pane with h0 | ⟨j,q,hj,hq,aa⟩
  ·rw[Kl h0] at h;exact nx h
  ·rw[hj,Ki (by omega),KA,hq] at h;simp only at h;cases h1:Q9 q x.Pane.W x.Pane.H with
   | some b=>
    rw[h1] at h;simp only at h;split at h
    ·rename_i ha;cases h;exact⟨i,j,x,q,false,b,hx,hq,rfl,.inl ⟨h1,rfl⟩,aa,K7.1 ha⟩
    ·exact nx h
   | none=>
    rw[h1] at h;simp only at h;cases h2:Q9 q x.Pane.H x.Pane.W with
    | some b=>
     rw[h2] at h;simp only at h;split at h
     ·rename_i ha;cases h;exact⟨i,j,x,q,true,b,hx,hq,rfl,.inr ⟨h1,h2,rfl⟩,aa,K7.1 ha⟩
     ·exact nx h
    | none=>rw[h2] at h;exact nx h
structure NFacts (s:Zm) (e:Zx) (u:Zm) (n j:Nat) (x:Zc) (q:Zb) (t:Bool) (b:Box):Prop where
 fx:s.Opn[n]?=some x
 fq:s.Stock[j]?=some q
 lab:QB 0 s.Stock q.Label=(j:Int)
 fe:e=ZlJ n t b q
 ap:QE s e=some u
 vw:VW ⟨q.W,q.H,s.Opn.map Zc.Pane⟩
 pl:ZcU ⟨q.W,q.H,s.Opn.map Zc.Pane⟩ ⟨n,t,b⟩
 good:VQ q ⟨q.W,q.H,s.Opn.map Zc.Pane⟩ e.plan
 places:(ZU ⟨q.W,q.H,s.Opn.map Zc.Pane⟩ e.plan).filterMap Q8=[⟨n,t,b⟩]
 clr:Qd q.Flaws b
 done:Qq u.Done=Qq s.Done+1
 opn:Qq u.Opn=Qq s.Opn-1
theorem ZmD {s:Zm} {e:Zx} (hv:ZE s) (h:Vp s=some e):∃ u n j x q t b,NFacts s e u n j x q t b:=by
 obtain⟨n,j,x,q,t,b,hx,hq,he,hb,af,u,hu⟩:=ZmC hv (i:=0) rfl (by simpa [Vp] using h);have aj:=Z3 hv.1.2 q (Kb hq);have ar:=aj.1;have hp:=(QO hv.2.1 x (Kb hx)).1;have au:1≤x.Pane.W∧x.Pane.W≤200∧1≤x.Pane.H∧x.Pane.H≤200:=⟨hp.1,hp.2.1,hp.2.2.1,hp.2.2.2.1⟩
 have av:=hv.2.1.1;have ak:VW ⟨q.W,q.H,s.Opn.map Zc.Pane⟩:=by
  refine⟨by simp only;omega,by simp only;omega,by simp only;omega,by simp only;omega,by simp;omega,fun z hz=>?_⟩;obtain⟨y,hy,rfl⟩:=KX.1 hz;exact(QO hv.2.1 y hy).1
 have ai:(s.Opn.map Zc.Pane)[n]?=some x.Pane:=by rw[Lc,hx];rfl
 have ad:=Zkt (k:=0) hv.1.2 hq;rw[K4] at ad;have ag:Qd q.Flaws b∧ZcU ⟨q.W,q.H,s.Opn.map Zc.Pane⟩ ⟨n,t,b⟩:=by
  rcases hb with ⟨k1,rfl⟩ | ⟨k1,k2,rfl⟩
  ·obtain⟨g1,g2,g3,g4,g5,g6,g7⟩:=ZbR k1;refine⟨g7,⟨?_,?_⟩,?_⟩
   ·simp only[VB];omega
   ·simp only[ZT];omega
   ·simp[Yc,ai,g5,g6]
  ·obtain⟨g1,g2,g3,g4,g5,g6,g7⟩:=ZbR k2;have al:¬x.Pane.W=x.Pane.H:=fun h=>by rw[h] at k1 k2;rw[k1] at k2;cases k2
   unfold okP at af;simp only[k1,KY,Lv,Kd] at af;refine⟨g7,⟨?_,?_⟩,?_⟩
   ·simp only[VB];omega
   ·simp only[ZT];omega
   ·simp[Yc,ai,g5,g6,al,af.1]
 have am:Zc5 b.X b.Y b.W b.H 0 0 q.W q.H:=by
  have:=ag.2.1;simp only[VB,ZT] at this;unfold Zc5;omega
 have hf:=Zxp hv hu;have hk:e.kind=3:=by rw[he];rfl
 obtain⟨ab,_⟩:=Zvu hu;have an:evS s e=ZdW s e:=by unfold evS;rw[Ki (by omega),Ki (by omega),Ki (by omega),Ki (by omega),Ki (by omega),Kl hk]
 rw[an] at ab;have ao:e.label=q.Label:=by rw[he];rfl
 have ap:e.plan=(Qx n t b.X b.Y b.W b.H 0 0 q.W q.H).plan:=by rw[he];rfl
 unfold ZdW at ab;rw[ao,ad,KA,hq] at ab;simp only at ab;cases hst:ZbO s.Stock q.Label ⟨q.W,q.H,s.Opn.map Zc.Pane⟩ e.plan 5 with
 | none=>rw[hst] at ab;cases ab
 | some R=>
  rw[hst] at ab;simp only at ab;have ae:VQ q ⟨q.W,q.H,s.Opn.map Zc.Pane⟩ e.plan:=by
   unfold ZbO at hst;split at hst
   ·rw[ad,KA,hq] at hst;simp only at hst;split at hst
    ·rename_i hg;exact hg.1
    ·cases hst
   ·cases hst
  have ah:=ae.1;have aa:(ZU ⟨q.W,q.H,s.Opn.map Zc.Pane⟩ e.plan).filterMap Q8=[⟨n,t,b⟩]:=by
   obtain⟨B,hB,aw,_,_,_,aq⟩:=QR ah;rw[ap,XA] at hB;cases hB;rw[aq,YR];exact ZCr am
  split at ab
  ·split at ab
   ·cases ab
   ·rename_i o d hg;cases ab;have hd:=Zjo (by rw[(Zd2 ah).1]) hg;rw[ZzF ah,aa] at hd;have hc:=hf.cnt;rw[Ki (by omega)] at hc;simp only[Km,KI] at hd;have hc:Qq o+Qq d=Qq s.Opn+Qq s.Done+0:=hc;exact⟨_,n,j,x,q,t,b,hx,hq,ad,he,hu,ak,ag.2,ae,aa,ag.1,(by show Qq d=_;omega),(by show Qq o=_;omega)⟩
  ·cases ab
theorem Zkb (K Lb X Y W H pW pH:Int) (pT:Bool) (pK Ct:Int) (B:BT):Zd Xs Ms WY [.d (Zx.enc ⟨K,Lb,⟨X,Y,W,H⟩,⟨⟨pW,pH,pT,pK⟩,Ct⟩,B.plan⟩),.d (Zx.enc ⟨K,Lb,⟨X,Y,W,H⟩,⟨⟨pW,pH,pT,pK⟩,Ct⟩,B.plan⟩)] []=some ((.d (.bool true)),[]):=by
 have e1:=Zbh B;cases hB:B.plan with
 | mk o a q t ks=>
  rw[hB,Ze.enc_mk] at e1;rw[Zx.enc_mk];refine cE ?_;simp +contextual -implicitDefEqProofs (maxSteps:=10^7) only[go_sem,seval,↓gZ,Zdj,e1]
end Go.Proofs.YtbpekaejmjlmfaaGreat
