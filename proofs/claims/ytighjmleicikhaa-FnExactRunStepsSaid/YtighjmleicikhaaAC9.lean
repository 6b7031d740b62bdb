/- Own text. -/
import Derived.Test.YtighjmleicikhaaACode
import Derived.Test.YtighjmleicikhaaAbsParts
import Derived.Test.YtighjmleicikhaaAC5
import Derived.Test.YtighjmleicikhaaAbsOkD
import Derived.Test.YtighjmleicikhaaAC8
namespace Go.Proofs.Ytighjmleicikhaa
open Go Go.Abs Go.Abs.E Go.Abs.L
open Nat (reduceMul reduceSub reduceLeDiff reduceEqDiff)
open Int (reduceLE reduceEq reduceToNat reduceNeg)
set_option linter.unusedSimpArgs false
set_option linter.unusedVariables false
set_option maxRecDepth 20000
set_option maxHeartbeats 4000000
theorem Zoo {t:List Box} {i:Nat} {x c:Box} (hx:t[i]?=some x):(t.take (i+1)).filter (· != c)=(t.take i).filter (· != c)++if x=c then [] else [x]:=by
 rw[KY,hx,List.filter_append];by_cases h:x=c<;>simp[h]
theorem Zmp (ps:List Pane) (t:List Box) (d:Bool) (a:Int) (l r:BT) (cX cY cW cH:Int) (ht:t.length≤1000) (hc:inB (Box.mk cX cY cW cH)) (h2:(BT.cut d a l r).cnt≤255) (hf:Qv ps (.cut d a l r) cW cH=true) :
  Zj Xs Ms Jz [(.d (.sl (t.map Box.enc))),(.d (.agg [J cX,J cY,J cW,J cH])),.d (BT.cut d a l r).plan.enc] []=some (.own 0,[.row 4 ((t.filter (· != (Box.mk cX cY cW cH))++[XZ d a (Box.mk cX cY cW cH),YQ d a (Box.mk cX cY cW cH)]).map Box.enc) true false]):=by
 have ah:=l.cnt_pos;have ai:=r.cnt_pos;have ad:=h2;simp only[BT.cnt] at ad;have n1:VY (.cut d a l r) 0 (Box.mk cX cY cW cH) 1=some (l,XZ d a (Box.mk cX cY cW cH)):=by
  unfold VY;rw[Kp (by omega),Ku (by omega)];cases l<;>simp[VY]
 have n2:VY (.cut d a l r) 0 (Box.mk cX cY cW cH) (1+l.cnt)=some (r,YQ d a (Box.mk cX cY cW cH)):=by
  unfold VY;rw[Kp (by omega),Kp (by omega)];cases r<;>(simp only[VY];rw[Ku (by omega)])
 have e1:=Yg ps (.cut d a l r) 0 1 cX cY cW cH l _ (by omega) (by omega) h2 hc hf n1;have e2:=Yg ps (.cut d a l r) 0 (1+l.cnt) cX cY cW cH r _ (by omega) (by omega) h2 hc hf n2;rw[Int.sub_zero] at e1 e2;have e3:=YV l.plan;rw[Ug] at e3;have hz:=Qa 255 l;have e4:Zk 255 (some l)=(l.cnt:Int):=by omega
 rw[e4] at e3;have w1:=wi (1+(l.cnt:Int)) (by omega) (by omega);obtain⟨q1,q2,q3,q4,q5,ae⟩:∃ a b c d e,l.plan=.mk a b c d e:=by cases hq:l.plan;exact⟨_,_,_,_,_,rfl⟩
 obtain⟨p1,p2,p3,p4,p5,af⟩:∃ a b c d e,r.plan=.mk a b c d e:=by cases hq:r.plan;exact⟨_,_,_,_,_,rfl⟩
 simp only[BT.plan,Ze.enc_mk,Kq,KS,ae,af] at e1 e2 e3 ⊢;generalize XZ d a (Box.mk cX cY cW cH)=kl at *;generalize YQ d a (Box.mk cX cY cW cH)=kr at *;obtain⟨lX,lY,lW,lH⟩:=kl;obtain⟨rX,rY,rW,rH⟩:=kr;refine cE ?_;simp +contextual -implicitDefEqProofs (maxSteps:=10^7) only[go_sem,seval,↓gZ,Zd9];refine LO (α:=Nat) (fun i=>[(8,.d (J (i:Int)))]) (fun i=>[(0,.row 4 (((t.take i).filter (· != (Box.mk cX cY cW cH))).map Box.enc) true false)]) (fun i=>i≤t.length) (fun i=>t.length-i) 0 (by omega) ?_;intro i hi ih;have ag:((t.take i).filter (· != (Box.mk cX cY cW cH))).length≤i:=Lc (List.length_filter_le _ _) (by simp;omega)
 by_cases ab:i<t.length
 ·obtain⟨x,hx⟩:=QN ab;have hw:=ZQ (k:=i) (by omega);have aa:=Zoo (c:=(Box.mk cX cY cW cH)) hx;have hr:(((t.take i).filter (· != (Box.mk cX cY cW cH))).length+1)*32≤140737488355328∧((t.take i).filter (· != (Box.mk cX cY cW cH))).length≤140737488355327:=by omega
  obtain⟨X,Y,W,H⟩:=x;simp only[Box.mk.injEq] at aa;by_cases h:X=cX∧Y=cY∧W=cW∧H=cH
  ·rw[Ku h,Lu] at aa;obtain⟨rfl,rfl,rfl,rfl⟩:=h;simp +contextual -implicitDefEqProofs (maxSteps:=10^7) only[go_sem,seval,↓gZ,hx,ab,hw];refine ih (i+1) _ (by omega) (by omega) ?_;simp +contextual -implicitDefEqProofs (maxSteps:=10^7) only[go_sem,seval,↓gZ,aa]
  ·rw[Kp h] at aa;simp +contextual -implicitDefEqProofs (maxSteps:=10^7) only[go_sem,seval,↓gZ,hx,ab,hw,← Bool.decide_and,h,hr];refine ih (i+1) _ (by omega) (by omega) ?_;simp +contextual -implicitDefEqProofs (maxSteps:=10^7) only[go_sem,seval,↓gZ,aa,Lt,Kq,KS]
 ·have:i=t.length:=by omega
  subst this;rw[List.take_length] at ag;have hr:((t.filter (· != (Box.mk cX cY cW cH))).length+2)*32≤140737488355328∧(t.filter (· != (Box.mk cX cY cW cH))).length+1≤140737488355327∧(t.filter (· != (Box.mk cX cY cW cH))).length+2≤140737488355327∧(t.filter (· != (Box.mk cX cY cW cH))).length+2≤140737488355328:=by omega
  simp +contextual -implicitDefEqProofs (maxSteps:=10^7) only[go_sem,seval,↓gZ,List.take_length,e1,e2,e3,w1,hr,Lt]
theorem Ziu:∀ (K:List (Int×Int)) (k:Nat) (n:Int),QM k (K.map Prod.fst) n=fKn k K n
 | [],_,_=>rfl
 | x :: l,k,n=>by simp only[Kq,QM,fKn];rw[Ziu l]
theorem Zd8:∀ (l:List Int) (k:Nat) (n:Int),(n∈l→0≤QM k l n)∧(n∉l→QM k l n=-1)
 | [],k,n=>⟨fun h=>(by cases h),fun _=>rfl⟩
 | x :: l,k,n=>by
  have ih:=Zd8 l (k+1) n;refine⟨fun h=>?_,fun h=>?_⟩
  ·unfold QM;split
   ·omega
   ·rename_i hx;exact ih.1 ((Ke.1 h).resolve_left fun e=>hx e.symm)
  ·unfold QM;rw[Kp (fun e=>h (by simp[e])),ih.2 (fun e=>h (by simp[e]))]
theorem Zh0 (kW kH:Int) (kP:List Pane) (p:Ze) (s:List Int) (hs:s.length≤1048576) (hl:kP.length<4611686018427387904):Zj Xs Ms VD [(.d (.agg [J kW,J kH,.sl (kP.map Pane.enc)])),.d p.enc,.d (.sl (s.map Wd))] []=some (rsV (UW (Q7.mk kW kH kP) p s)):=by
 have e1:=ZfS kW kH kP p hl;by_cases hv:Yc (Q7.mk kW kH kP) p=true
 ·cases hb:QG p with
  | none=>simp[Yc,hb] at hv
  | some b=>
   have hp:=Wh hb;obtain⟨hw,hc,hf⟩:=(Zd7 hb).1 hv;have e2:=WN b 0 (-1) (by omega) (by omega);have e3:=ZaL b 0 (-1) (by omega) (by omega);have ah:UW (Q7.mk kW kH kP) p s=if okS (kn b 0 (-1)) [] s=true then some (goS b ⟨0,0,kW,kH⟩ [⟨0,0,kW,kH⟩] s) else none:=by
    unfold UW;rw[hb];simp only[hv,Lj]
   rw[ah];have a3:=Jb b 0 (-1);have au:=ZkO hc;simp only[VW] at hw;rw[hv] at e1;have hg:Jc ⟨0,0,kW,kH⟩:=by unfold Jc;simp only;omega
   have av:inB ⟨0,0,kW,kH⟩:=by simp only[inB];omega
   have ap:∀ m:Nat,m<1000→∀ q c,VY b 0 ⟨0,0,kW,kH⟩ m=some (q,c)→Zj Xs Ms Xt [.d p.enc,.d (.agg [J 0,J 0,J kW,J kH]),(.d (J ((m:Int))))] []=some (.tup [.d q.plan.enc,.d c.enc],[]):=fun m hm q c hn=>by
    have:=Yg kP b 0 m 0 0 kW kH q c (by omega) (by omega) hc av hf hn;rw[Int.sub_zero,← hp] at this;exact this
   rw[← hp] at e2 e3;clear ah hb hp;obtain⟨o,a,q,t,ks⟩:=p;rw[Ze.enc_mk] at e1 e2 e3 ap ⊢;generalize hK:kn b 0 (-1)=K at *;refine cE ?_;simp +contextual -implicitDefEqProofs (maxSteps:=10^7) only[go_sem,seval,↓gZ,WZ,e1,e2,e3];refine LO (α:=Nat×List Box) (fun x=>[(11,.d (J (x.1:Int)))]) (fun x=>[(0,.row 4 (x.2.map Box.enc) true false)]) (fun x=>x.1≤s.length∧(Cl (s.take x.1) b 0∧x.2.Perm (Xl (s.take x.1) b 0 ⟨0,0,kW,kH⟩)∧x.2.length≤x.1+1∧x.2.length≤255)∧goS b ⟨0,0,kW,kH⟩ x.2 (s.drop x.1)=goS b ⟨0,0,kW,kH⟩ [⟨0,0,kW,kH⟩] s∧okS K (s.take x.1) (s.drop x.1)=okS K [] s) (fun x=>s.length-x.1) (0,[⟨0,0,kW,kH⟩]) ⟨by simp,⟨ZfV b 0,by simp[Zjw],by simp,by simp⟩,by simp,by simp⟩ ?_
   intro⟨i,t⟩ ⟨hi,⟨hC,ht,htl,htc⟩,hgo,ho⟩ ih;simp only at hi hC ht htl htc hgo ho;by_cases aa:i<s.length
   ·obtain⟨m,hx⟩:=QN aa;have ab:=ZQ (k:=i) (by omega);have ai:i≤s.length:=hi;have aw : (s.take i).length=i:=by simp;omega
    rw[Zf3 hx] at ho;have ep:=JS (K.map Prod.fst) m (by simp;omega);rw[Ziu] at ep;have ad:=JS (s.take i) m (by omega);have aq:=Zd8 (s.take i) 0 m;rcases Zf0 K 0 m with ⟨h1,h2⟩ | ⟨j,x,h1,h2,h3,h4⟩
    ·have hn:okN K (s.take i) m=false:=by unfold okN;rw[h2]
     rw[hn,Lg] at ho;rw[← ho];simp only[Ka,Kg,rsV];simp +contextual -implicitDefEqProofs (maxSteps:=10^7) only[go_sem,seval,↓gZ,hx,aa,ab,ep,h1]
    ·obtain⟨x1,x2⟩:=x;have ax:=au _ (Kr h2);simp only at h3 ax;subst h3;obtain⟨m',rfl⟩:∃ n:Nat,x1=(n:Int):=⟨x1.toNat,by omega⟩
     rw[Lb] at h1;rw[h1] at ep;have aj:¬(j:Int)<0:=by omega
     have ak:=(Kc.1 h2).1;have hn:okN K (s.take i) m'=(!decide ((m' : Int)∈s.take i)&&(decide (x2<0) || decide (x2∈s.take i))):=by unfold okN;rw[h4]
     have al:=JS (s.take i) x2 (by omega);have ae:=Zd8 (s.take i) 0 x2;by_cases hd:(m' : Int)∈s.take i
     ·have k1:=aq.1 hd;rw[hn,LP hd] at ho;simp only[Bool.not_true,Lg] at ho;rw[← ho];simp only[Ka,Kg,rsV];simp +contextual -implicitDefEqProofs (maxSteps:=10^7) only[go_sem,seval,↓gZ,hx,aa,ai,ab,ep,aj,ad,k1]
     ·have k1:=aq.2 hd;rw[k1] at ad;by_cases ha:x2<0∨x2∈s.take i
      ·have af:okN K (s.take i) m'=true:=by rw[hn,LL hd,← Bool.decide_or,LP ha];rfl
       rw[af,Lj] at ho;rw[← hK] at af;obtain⟨d,a',l,r,c,hm,n1,n2,n3,n4,n5,n6,n7,n8⟩:=Zjy hf hg hC ht af;have am:=ap m' (by omega) _ _ n1;have ay:goS b ⟨0,0,kW,kH⟩ t (s.drop i)=goS b ⟨0,0,kW,kH⟩ (t.erase c++[XZ d a' c,YQ d a' c]) (s.drop (i+1)):=by
        obtain⟨k1,k2⟩:=Kc.1 hx;rw[KB k1,k2,ZfX n1]
       rw[ay] at hgo;have az:=Zir n4 n3 ⟨rfl,rfl,by simp only;omega,by simp only;omega⟩;have a0:=List.length_erase_of_mem n5;have a1:s.take (i+1)=s.take i++[(m' : Int)]:=by rw[KY,hx];rfl
       rw[← a1] at n7 n8;have an:(BT.cut d a' l r).cnt≤255:=Lc (ZfY n1) hc;have ao:(t.erase c++[XZ d a' c,YQ d a' c]).length≤255:=by rw[n8.length_eq];exact Lc (ZfB _ _ _ _) hc
       rw[n6.erase_eq_filter] at hgo n8 ao a0;obtain⟨cX,cY,cW,cH⟩:=c;simp only at az n2;have ea:=Zmp kP t d a' l r cX cY cW cH (by omega) (by simp only[inB];omega) an n2;simp only[BT.plan,Ze.enc_mk,Kq,KS] at am ea;by_cases h0:x2<0
       ·have ag : ¬0≤x2:=by omega
        simp +contextual -implicitDefEqProofs (maxSteps:=10^7) only[go_sem,seval,↓gZ,hx,aa,ai,ab,ep,aj,ad,h2,ak,ag,am,ea];refine ih (i+1,t.filter (· != ⟨cX,cY,cW,cH⟩)++[XZ d a' ⟨cX,cY,cW,cH⟩,YQ d a' ⟨cX,cY,cW,cH⟩]) _ ⟨by simp only;omega,⟨n7,n8,by simp only[Kn,Kk,KI];omega,ao⟩,hgo,ho⟩ (by simp only;omega) ?_;simp +contextual -implicitDefEqProofs (maxSteps:=10^7) only[go_sem,seval,↓gZ]
       ·have ag : 0≤x2:=by omega
        have k2:=ae.1 (ha.resolve_left h0);have a2 : ¬QM 0 (s.take i) x2<0:=by omega
        simp +contextual -implicitDefEqProofs (maxSteps:=10^7) only[go_sem,seval,↓gZ,hx,aa,ai,ab,ep,aj,ad,h2,ak,ag,al,a2,am,ea];refine ih (i+1,t.filter (· != ⟨cX,cY,cW,cH⟩)++[XZ d a' ⟨cX,cY,cW,cH⟩,YQ d a' ⟨cX,cY,cW,cH⟩]) _ ⟨by simp only;omega,⟨n7,n8,by simp only[Kn,Kk,KI];omega,ao⟩,hgo,ho⟩ (by simp only;omega) ?_;simp +contextual -implicitDefEqProofs (maxSteps:=10^7) only[go_sem,seval,↓gZ]
      ·have ag : 0≤x2:=by omega
       have k2:=ae.2 (fun h=>ha (.inr h));rw[k2] at al;have af:okN K (s.take i) m'=false:=by rw[hn,LL hd,← Bool.decide_or,LL ha];rfl
       rw[af,Lg] at ho;rw[← ho];simp only[Ka,Kg,rsV];simp +contextual -implicitDefEqProofs (maxSteps:=10^7) only[go_sem,seval,↓gZ,hx,aa,ai,ab,ep,aj,ad,h2,ak,ag,al]
   ·have:i=s.length:=by omega
    subst this;rw[LD,goS] at hgo;rw[LD,okS] at ho;rw[← ho,← hgo];simp only[Kh,rsV];simp +contextual -implicitDefEqProofs (maxSteps:=10^7) only[go_sem,seval,↓gZ]
 ·have ar : Yc (Q7.mk kW kH kP) p=false:=Bool.eq_false_iff.2 hv;have ah:UW (Q7.mk kW kH kP) p s=none:=by
   unfold UW;cases QG p with
   | none=>rfl
   | some b=>simp only[ar,Lg,Ka,Kg]
  rw[ah,rsV];rw[ar] at e1;obtain⟨o,a,q,t,ks⟩:=p;rw[Ze.enc_mk] at e1 ⊢;refine cE ?_;simp +contextual -implicitDefEqProofs (maxSteps:=10^7) only[go_sem,seval,↓gZ,WZ,e1]
end Go.Proofs.Ytighjmleicikhaa
namespace Go.Proofs.Ytighjmleicikhaa
open Go Go.Abs Go.Abs.E Go.Abs.L
open Nat (reduceMul reduceSub reduceLeDiff reduceEqDiff)
open Int (reduceLE reduceEq reduceToNat reduceNeg)
set_option linter.unusedSimpArgs false
set_option linter.unusedVariables false
set_option maxRecDepth 20000
set_option maxHeartbeats 4000000
theorem Zop (k:Q7) (p:Ze) (s:List Int):match UW k p s with
  | some t=>t.length≤255
  | none=>True:=by
 unfold UW;cases hb:QG p with
 | none=>trivial
 | some b=>
  simp only;by_cases h:(Yc k p&&okS (kn b 0 (-1)) [] s)=true
  ·rw[Ku h];rw[Kb] at h;obtain⟨hw,hc,hf⟩:=(Zd7 hb).1 h.1;simp only[VW] at hw;exact Lc (Zru (g:=⟨0,0,k.W,k.H⟩) hf (by unfold Jc;simp only;omega) h.2) hc
  ·rw[Kp h];trivial
theorem rs_out (k:Q7) (p:Ze) (s:List Int):∃ (t:List Box) (ok:Bool),t.length≤255∧rsV (UW k p s)=(.tup [.own 0,(.d (.bool ok))],[.row 4 (t.map Box.enc) true false]):=by
 have h:=Zop k p s;cases hr:UW k p s with
 | none=>exact⟨[],false,by simp,rfl⟩
 | some t=>rw[hr] at h;exact⟨t,true,h,rfl⟩
theorem ZaO (k:Q7) (p:Ze) (s:List Int) (hk:k.ok) (hp:p.ok) (hs:s.length≤maxLen∧∀ x∈s,I64 x):Zj Xs Ms Q6 [.d k.enc,.d p.enc,.d (.sl (s.map Wd))] []=some ((.d (.bool true)),[]):=by
 obtain⟨kW,kH,kP⟩:=k;obtain⟨po,pa,pp,pt,pk⟩:=p;rw[Ze.enc_mk];by_cases s0:s.length≤1048576
 ·have aa : ¬(1048576:Int)<(s.length:Int):=by omega
  have e1:=ZkR kW kH kP hk.2.2.1 1048576 (by decide) (by decide);by_cases s1:(kP.length:Int)≤1048576
  ·rw[JU s1] at e1;have y1:¬(1048576:Int)-(kP.length:Int)<0:=by omega
   have e2:=ZkU _ hp (1048576-kP.length) (by omega) (by omega);have ab:(Ze.mk po pa pp pt pk).nodes-1=nL pk:=by simp only[Ze.nodes,nL];omega
   rw[Ze.enc_mk,ab] at e2;by_cases s2:((nL pk:Nat):Int)≤1048576-kP.length
   ·rw[JU s2] at e2;have y2:¬(1048576:Int)-(kP.length:Int)-((nL pk:Nat):Int)<0:=by omega
    have t1:=ZkS kW kH kP (by omega);have t2:=ZkV po pa pp pt pk (by omega);have t3:=ZkQ s (by omega);have c1:=Zh0 kW kH kP (.mk po pa pp pt pk) s (by omega) (by omega);have c2:=ZhQ kW kH kP (.mk po pa pp pt pk) s (by omega);obtain⟨R,ok,hR,hr⟩:=rs_out ⟨kW,kH,kP⟩ (.mk po pa pp pt pk) s;rw[hr] at c1 c2;rw[Ze.enc_mk] at c1 c2;have q1:=ZhW kW kH kP (by omega);have q2:=ZhY po pa pp pt pk (by omega);have q3:=ZhU s (by omega);have q4:=ZhR R (by omega);have m1:=ZhX kW kH kP (by omega) 1 (by decide) (by decide);have m2:=ZhZ po pa pp pt pk (by omega) (1+((4*kP.length:Nat):Int)) (by omega) (by omega);have m3:=ZhV s (by omega) (1+((4*kP.length:Nat):Int)+((4*nL pk:Nat):Int)) (by omega) (by omega)
    have y3:¬1+((4*kP.length:Nat):Int)+((4*nL pk:Nat):Int)+((1*s.length:Nat):Int)<0:=by omega
    have m4:=ZhS R (by omega) 1 (by decide) (by decide);have h4:=ZhT R.length (by omega) 1 (by decide) (by decide);have y4:¬(1:Int)+((4*R.length:Nat):Int)<0:=by omega
    generalize nL pk=np at *;generalize 1+((4*kP.length:Nat):Int)=g1 at *;generalize g1+((4*np:Nat):Int)=g2 at *;generalize g2+((1*s.length:Nat):Int)=g3 at *;generalize (1:Int)+((4*R.length:Nat):Int)=g4 at *;generalize mks ZaM 4 R.length 1=R2 at *;refine cE ?_;simp +contextual -implicitDefEqProofs (maxSteps:=10^7) only[go_sem,seval,↓gZ,QA,aa,e1,y1,e2,y2,t1,t2,t3,c1,c2,q1,q2,q3,q4,m1,m2,m3,m4,y3,h4,y4,bNe,bne_self_eq_false]
   ·rw[ZaJ s2] at e2;refine cE ?_;simp +contextual -implicitDefEqProofs (maxSteps:=10^7) only[go_sem,seval,↓gZ,QA,aa,e1,y1,e2]
  ·rw[ZaJ s1] at e1;refine cE ?_;simp +contextual -implicitDefEqProofs (maxSteps:=10^7) only[go_sem,seval,↓gZ,QA,aa,e1]
 ·have aa : (1048576:Int)<(s.length:Int):=by omega
  refine cE ?_;simp +contextual -implicitDefEqProofs (maxSteps:=10^7) only[go_sem,seval,↓gZ,QA,aa]
end Go.Proofs.Ytighjmleicikhaa
