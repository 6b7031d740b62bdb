/- Own text. -/
import Derived.Test.YthgciclhiaoecaaGreatACode
import Derived.Test.YthgciclhiaoecaaGreatAbsParts
import Derived.Test.YthgciclhiaoecaaGreatAC12
import Derived.Test.YthgciclhiaoecaaGreatAbsOkD
namespace Go.Proofs.YthgciclhiaoecaaGreat
open Go Go.Abs Go.Abs.E Go.Abs.L
open Nat (reduceMul reduceSub reduceLeDiff reduceEqDiff)
open Int (reduceLE reduceEq reduceToNat reduceNeg)
set_option linter.unusedSimpArgs false
set_option linter.unusedVariables false
set_option maxRecDepth 20000
set_option maxHeartbeats 4000000
theorem ZbT (p:Pane) (c:Int):∀ (l:List Zc),Qr (Vi p c l)=Qr l+c
 | []=>by simp[Vi,Qr]
 | x :: l=>by
  unfold Vi;split
  ·simp only[Qr];omega
  ·simp only[Qr,ZbT p c l];omega
theorem Zvp:∀ {l:List Zc} {a:Nat} {x y:Zc},l[a]?=some x→Qr (l.set a y)=Qr l-x.Count+y.Count
 | [],a,x,y,h=>by simp at h
 | z :: l,0,x,y,h=>by
  simp only[KL,Option.some.injEq] at h;subst h;simp only[Kab,Qr];omega
 | z :: l,a+1,x,y,h=>by
  simp only[KH] at h;simp only[Kad,Qr,Zvp h];omega
theorem ZpQ:∀ {l:List Zc} {a:Nat} {x:Zc},l[a]?=some x→Qr (l.eraseIdx a)=Qr l-x.Count
 | [],a,x,h=>by simp at h
 | z :: l,0,x,h=>by
  simp only[KL,Option.some.injEq] at h;subst h;simp only[List.eraseIdx_cons_zero,Qr];omega
 | z :: l,a+1,x,h=>by
  simp only[KH] at h;simp only[List.eraseIdx_cons_succ,Qr,ZpQ h];omega
theorem ZpR {l:List Zc} {p:Pane} {c:Int} (hu:UL l) (h:Xl p c false l=true):Qr (Yd l p c)=Qr l-c:=by
 by_cases hf:Vb 0 l p<0
 ·rw[Zip (Zk6 hf)] at h;cases h
 ·obtain⟨a,x,h1,h2,h3,h4⟩:=Zio (by omega:0≤Vb 0 l p);obtain⟨k1,k2⟩:=ZpI (c:=c) hu h2 h3;rw[k1,Kt] at h;rw[k2];split
  ·rw[Zvp h2];simp only;omega
  ·rw[ZpQ h2];omega
theorem ZmR:∀ {ps:List Pane} {us:List Int} {o d o' d' : List Zc},us.length=ps.length→YV ps us o d=some (o',d')→UL o→(∀ v∈us,0≤v) →
  Qr o'+Qr d'=Qr o+Qr d∧Qr d≤Qr d'∧((∃ v∈us,v≠0)→Qr d<Qr d')
 | [],us,o,d,o',d',hl,h,hu,hv=>by
  cases us with
  | nil=>unfold YV at h;cases h;simp
  | cons c us=>simp at hl
 | p :: ps,[],o,d,o',d',hl,h,hu,hv=>by simp at hl
 | p :: ps,c :: us,o,d,o',d',hl,h,hu,hv=>by
  rw[YV] at h;simp only[Kq,Nat.add_right_cancel_iff] at hl;have hc:=hv c (by simp);split at h
  ·rename_i h0;obtain⟨a,b,e⟩:=ZmR hl h hu (fun v h=>hv v (by simp[h]));refine⟨a,b,fun ⟨v,hm,hn⟩=>?_⟩;rcases Kf.1 hm with rfl | hm
   ·exact absurd h0 hn
   ·exact e ⟨v,hm,hn⟩
  ·rename_i h0;split at h
   ·rename_i ht;obtain⟨a,b,e⟩:=ZmR hl h (ZpJ hu) (fun v h=>hv v (by simp[h]));rw[ZpR hu ht,ZbT] at a;rw[ZbT] at b;exact⟨by omega,by omega,fun _=>by omega⟩
   ·cases h
structure AFacts (s:Zq) (e:Zz) (t:Zq):Prop where
 vs:ZF t
 came:t.Came=s.Came+(if e.kind=0 then e.box.W*e.box.H else 0)
 lost:s.Lost≤t.Lost
 cnt:Qr t.Opn+Qr t.Done=Qr s.Opn+Qr s.Done+(if e.kind=2 then e.line.Count else 0)
 lt:Qr t.Done<Qr s.Done↔e.kind=4
 gt:Qr s.Done<Qr t.Done↔e.kind=3
 sheet:e.kind=0→ZdH ⟨e.label,e.box.W,e.box.H,[]⟩ s.Stock∧e.box.X=0∧e.box.Y=0∧t = { s with Stock:=YP ⟨e.label,e.box.W,e.box.H,[]⟩ s.Stock,Came:=s.Came+e.box.W*e.box.H }
 ord:e.kind=2→Uc e.line
theorem Zvq {s t:Zq} {e:Zz} (h:Ye s e=some t):evS s e=some t∧ZF t:=by
 have hv:=Zqk h;unfold Ye J9 at h;split at h
 ·split at h
  ·cases h;exact⟨by assumption,hv⟩
  ·cases h
 ·cases h
theorem Zw1 {s t:Zq} {e:Zz} (hs:ZF s) (h:Ye s e=some t):AFacts s e t:=by
 obtain⟨h,hv⟩:=Zvq h;unfold evS at h;split at h
 ·rename_i k;split at h
  ·rename_i hr;cases h;exact⟨hv,by simp[k],Kam _,by simp[k],by simp[k],by simp[k],fun _=>⟨hr.1.1,hr.1.2,hr.2,rfl⟩,fun h=>by omega⟩
  ·cases h
 ·rename_i k0;split at h
  ·rename_i k;split at h
   ·cases h
   ·split at h
    ·cases h;exact⟨hv,by simp[k],Kam _,by simp[k],by simp[k],by simp[k],fun h=>absurd h k0,fun h=>by omega⟩
    ·cases h
  ·rename_i k1;split at h
   ·rename_i k;split at h
    ·cases h
    ·rename_i a q hq;cases h;have ae:q∈s.Stock:=by
      unfold ZvM at hq;split at hq
      ·obtain⟨x,hx,e⟩:=Option.map_eq_some_iff.1 hq;cases e;exact Kb hx
      ·cases hq
     have af:=(Z0 hs.1.2 q ae).1;have:=J4 (b:=⟨0,0,q.W,q.H⟩) (by simp only[VB];omega);simp only at this;exact⟨hv,by simp[k],by simp only;omega,by simp[k],by simp[k],by simp[k],fun h=>absurd h k0,fun h=>by omega⟩
   ·rename_i k5;split at h
    ·rename_i k;split at h
     ·rename_i hl;cases h;have hc:=hl.2;refine⟨hv,by simp[k],Kam _,?_,by simp[k],by simp[k],fun h=>absurd h k0,fun _=>hl⟩;simp only[ZbT,k,Km];omega
     ·cases h
    ·rename_i k2;split at h
     ·rename_i k;split at h
      ·rename_i hl;cases h;have hc:=hl.1.2;have ha:=Zel hl.1;have h1:=ZpR (ZeR hs.2.2.1) hl.2;refine⟨hv,by simp[k],by simp only;omega,?_,?_,?_,fun h=>absurd h k0,fun h=>absurd h k2⟩
       ·simp only[ZbT,h1,k];simp;omega
       ·simp only[h1,k,iff_true];omega
       ·simp only[h1,k];omega
      ·cases h
     ·rename_i k4;split at h
      ·rename_i k;unfold Zda at h;split at h
       ·cases h
       ·rename_i x hx;split at h
        ·cases h
        ·rename_i R hR;obtain⟨ab,_,_⟩:=Zlp hR;split at h
         ·rename_i hp;split at h
          ·cases h
          ·rename_i o d hg;cases h;have hu:=Zde ab;have ad:=ZsP ab hp;obtain⟨a,b,c⟩:=ZmR (by rw[hu.1]) hg (ZeR hs.2.1) (fun v h=>(hu.2 v h).1);have c:=c ad;have ag:=ZeK (l:=ZdA ⟨x.W,x.H,s.Opn.map Zc.Pane⟩ e.plan 5) (fun c hc=>by
            obtain⟨z,hz,aa⟩:=Lu.1 hc;unfold Uw at aa;split at aa
            ·cases aa;exact Zb0 ab c hz
            ·cases aa)
           refine⟨hv,by simp[k],by simp only;omega,?_,?_,?_,fun h=>absurd h k0,fun h=>absurd h k2⟩
           ·simp only[k];simp;omega
           ·simp only[k];omega
           ·simp only[k,iff_true];omega
         ·cases h
      ·cases h
end Go.Proofs.YthgciclhiaoecaaGreat
