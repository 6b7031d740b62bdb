/- Own text. -/
import Derived.Test.YtighjmleicikhaaBCode
import Derived.Test.YtighjmleicikhaaAbsParts
import Derived.Test.YtighjmleicikhaaBC6
import Derived.Test.YtighjmleicikhaaAbsOkD
namespace Go.Proofs.Ytighjmleicikhaa
open Go Go.Abs Go.Abs.E Go.Abs.L
open Nat (reduceMul reduceSub reduceLeDiff reduceEqDiff)
open Int (reduceLE reduceEq reduceToNat reduceNeg)
set_option linter.unusedSimpArgs false
set_option linter.unusedVariables false
set_option maxRecDepth 20000
set_option maxHeartbeats 4000000
theorem VJ:∀ (b:BT) (n a:Int),0≤n→n+b.cnt≤255→Zl Xs Ms QZ [.d b.plan.enc,(.d (J n))] []=some (.own 0,[.row 1 (((kn b n a).map Prod.fst).map Xa) true false])
 | .waste,n,a,h0,h1=>by
  simp only[BT.plan,Ze.enc_mk,kn];refine cE ?_;simp +contextual -implicitDefEqProofs (maxSteps:=10^7) only[go_sem,seval,↓gZ,Y1,ZP]
 | .pane i t,n,a,h0,h1=>by
  simp only[BT.plan,Ze.enc_mk,kn];refine cE ?_;simp +contextual -implicitDefEqProofs (maxSteps:=10^7) only[go_sem,seval,↓gZ,Y1,ZP]
 | .cut d c l r,n,a,h0,h1=>by
  simp only[BT.cnt] at h1;have w1:=wi (n+1) (by omega) (by omega);have w2:=wi (n+1+l.cnt) (by omega) (by omega);have e1:=VJ l (n+1) n (by omega) (by omega);have e2:=VJ r (n+1+l.cnt) n (by omega) (by omega);have e3:=Yg l.plan;rw[Y5] at e3;have hz:=ZH 255 l;have e4:Zi 255 (some l)=(l.cnt:Int):=by omega
  rw[e4] at e3;have hd:(Q9 d=2∨Q9 d=3)=True:=eq_true (by cases d<;>simp[Q9]);have k1:=XV l (n+1) n;have k2:=XV r (n+1+l.cnt) n;have r1:((kn l (n+1) n).length+1)*8≤140737488355328∧(kn l (n+1) n).length+1≤140737488355328∧(1+(kn l (n+1) n).length)*8≤140737488355328∧1+(kn l (n+1) n).length≤140737488355328:=by omega
  have r2:((kn l (n+1) n).length+1+(kn r (n+1+l.cnt) n).length)*8≤140737488355328∧(kn l (n+1) n).length+1+(kn r (n+1+l.cnt) n).length≤140737488355328∧(1+(kn l (n+1) n).length+(kn r (n+1+l.cnt) n).length)*8≤140737488355328∧1+(kn l (n+1) n).length+(kn r (n+1+l.cnt) n).length≤140737488355328:=by omega
  simp only[BT.plan,Ze.enc_mk,kn];refine cE ?_;simp +contextual -implicitDefEqProofs (maxSteps:=10^7) only[go_sem,seval,↓gZ,Y1,ZP,hd,w1,w2,e1,e2,e3,r1,r2];try (simp[Xa];done)
theorem JA:∀ (b:BT) (n a:Int),0≤n→n+b.cnt≤255→Zl Xs Ms YX [.d b.plan.enc,(.d (J n)),(.d (J a))] []=some (.own 0,[.row 1 (((kn b n a).map Prod.snd).map Xa) true false])
 | .waste,n,a,h0,h1=>by
  simp only[BT.plan,Ze.enc_mk,kn];refine cE ?_;simp +contextual -implicitDefEqProofs (maxSteps:=10^7) only[go_sem,seval,↓gZ,Jh,ZP]
 | .pane i t,n,a,h0,h1=>by
  simp only[BT.plan,Ze.enc_mk,kn];refine cE ?_;simp +contextual -implicitDefEqProofs (maxSteps:=10^7) only[go_sem,seval,↓gZ,Jh,ZP]
 | .cut d c l r,n,a,h0,h1=>by
  simp only[BT.cnt] at h1;have w1:=wi (n+1) (by omega) (by omega);have w2:=wi (n+1+l.cnt) (by omega) (by omega);have e1:=JA l (n+1) n (by omega) (by omega);have e2:=JA r (n+1+l.cnt) n (by omega) (by omega);have e3:=Yg l.plan;rw[Y5] at e3;have hz:=ZH 255 l;have e4:Zi 255 (some l)=(l.cnt:Int):=by omega
  rw[e4] at e3;have hd:(Q9 d=2∨Q9 d=3)=True:=eq_true (by cases d<;>simp[Q9]);have k1:=XV l (n+1) n;have k2:=XV r (n+1+l.cnt) n;have r1:((kn l (n+1) n).length+1)*8≤140737488355328∧(kn l (n+1) n).length+1≤140737488355328∧(1+(kn l (n+1) n).length)*8≤140737488355328∧1+(kn l (n+1) n).length≤140737488355328:=by omega
  have r2:((kn l (n+1) n).length+1+(kn r (n+1+l.cnt) n).length)*8≤140737488355328∧(kn l (n+1) n).length+1+(kn r (n+1+l.cnt) n).length≤140737488355328∧(1+(kn l (n+1) n).length+(kn r (n+1+l.cnt) n).length)*8≤140737488355328∧1+(kn l (n+1) n).length+(kn r (n+1+l.cnt) n).length≤140737488355328:=by omega
  simp only[BT.plan,Ze.enc_mk,kn];refine cE ?_;simp +contextual -implicitDefEqProofs (maxSteps:=10^7) only[go_sem,seval,↓gZ,Jh,ZP,hd,w1,w2,e1,e2,e3,r1,r2];try (simp[Xa];done)
theorem YU (ps:List Pane):∀ (b:BT) (n m:Int) (gX gY gW gH:Int) (q:BT) (c:Box),n≤m→m≤n+1000→b.cnt≤255→inB (Box.mk gX gY gW gH)→Z4 ps b gW gH=true→WH b n (Box.mk gX gY gW gH) m=some (q,c) →
  Zl Xs Ms XM [.d b.plan.enc,(.d (.agg [J gX,J gY,J gW,J gH])),(.d (J (m-n)))] []=some (.tup [.d q.plan.enc,.d c.enc],[])
 | .waste,n,m,gX,gY,gW,gH,q,c,h0,hm,h1,hg,hf,h=>by
  unfold WH at h;split at h
  ·rename_i e;cases h;subst e;have h2:m-m=0:=by omega
   rw[h2];simp only[BT.plan,Ze.enc_mk];refine cE ?_;simp +contextual -implicitDefEqProofs (maxSteps:=10^7) only[go_sem,seval,↓gZ,X7]
  ·cases h
 | .pane i t,n,m,gX,gY,gW,gH,q,c,h0,hm,h1,hg,hf,h=>by
  unfold WH at h;split at h
  ·rename_i e;cases h;subst e;have h2:m-m=0:=by omega
   rw[h2];simp only[BT.plan,Ze.enc_mk];refine cE ?_;simp +contextual -implicitDefEqProofs (maxSteps:=10^7) only[go_sem,seval,↓gZ,X7]
  ·cases h
 | .cut d a l r,n,m,gX,gY,gW,gH,q,c,h0,hm,h1,hg,hf,h=>by
  unfold WH at h;split at h
  ·rename_i e;cases h;subst e;have h2:m-m=0:=by omega
   rw[h2];simp only[BT.plan,Ze.enc_mk,Km,Ku];refine cE ?_;simp +contextual -implicitDefEqProofs (maxSteps:=10^7) only[go_sem,seval,↓gZ,X7]
  ·rename_i e;simp only[BT.cnt] at h1;have e3:=Yg l.plan;rw[Y5] at e3;have hz:=ZH 255 l;have e4:Zi 255 (some l)=(l.cnt:Int):=by omega
   rw[e4] at e3;have ae:¬m-n=0:=by omega
   have w3:=wi (m-n-1) (by omega) (by omega);have w4:=wi (m-n-1-l.cnt) (by omega) (by omega);have ha:=Zlx hf;simp only[inB] at hg;cases d
   ·simp only[Ka,Kf] at ha;have w1:=wi (gY+a) (by omega) (by omega);have w2:=wi (gH-a) (by omega) (by omega);have w5:=wi (gX+a) (by omega) (by omega);have w6:=wi (gW-a) (by omega) (by omega);have aa:=hf;simp only[Z4,Kb,Ka,Kf,Kk] at aa;split at h
    ·rename_i af;simp only[XL,Ka,Kf] at h;have ih:=YU ps l (n+1) m gX gY gW a q c (by omega) (by omega) (by omega) (by simp only[inB];omega) aa.1.2 h;have hq:m-(n+1)=m-n-1:=by omega
     rw[hq] at ih;have ab:m-n≤(l.cnt:Int):=by omega
     simp only[BT.plan,Ze.enc_mk,Km,Ku,Q9,Ka,Kf];obtain⟨q1,q2,q3,q4,q5,ad⟩:∃ a b c d e,q.plan=.mk a b c d e:=by cases hq:q.plan;exact⟨_,_,_,_,_,rfl⟩
     rw[ad,Ze.enc_mk] at ih ⊢;refine cE ?_;simp +contextual -implicitDefEqProofs (maxSteps:=10^7) only[go_sem,seval,↓gZ,X7,ae,e3,ab,w1,w2,w3,w5,w6,ih]
    ·rename_i af;simp only[X5,Ka,Kf] at h;have ih:=YU ps r (n+1+l.cnt) m gX (gY+a) gW (gH-a) q c (by omega) (by omega) (by omega) (by simp only[inB];omega) aa.2 h;have hq:m-(n+1+l.cnt)=m-n-1-l.cnt:=by omega
     rw[hq] at ih;have ab:¬m-n≤(l.cnt:Int):=by omega
     simp only[BT.plan,Ze.enc_mk,Km,Ku,Q9,Ka,Kf];obtain⟨q1,q2,q3,q4,q5,ad⟩:∃ a b c d e,q.plan=.mk a b c d e:=by cases hq:q.plan;exact⟨_,_,_,_,_,rfl⟩
     rw[ad,Ze.enc_mk] at ih ⊢;refine cE ?_;simp +contextual -implicitDefEqProofs (maxSteps:=10^7) only[go_sem,seval,↓gZ,X7,ae,e3,ab,w1,w2,w3,w4,w5,w6,ih]
   ·simp only[Kh] at ha;have w5:=wi (gX+a) (by omega) (by omega);have w6:=wi (gW-a) (by omega) (by omega);have aa:=hf;simp only[Z4,Kb,Kh,Kk] at aa;split at h
    ·rename_i af;simp only[XL,Kh] at h;have ih:=YU ps l (n+1) m gX gY a gH q c (by omega) (by omega) (by omega) (by simp only[inB];omega) aa.1.2 h;have hq:m-(n+1)=m-n-1:=by omega
     rw[hq] at ih;have ab:m-n≤(l.cnt:Int):=by omega
     simp only[BT.plan,Ze.enc_mk,Km,Ku,Q9,Kh];obtain⟨q1,q2,q3,q4,q5,ad⟩:∃ a b c d e,q.plan=.mk a b c d e:=by cases hq:q.plan;exact⟨_,_,_,_,_,rfl⟩
     rw[ad,Ze.enc_mk] at ih ⊢;refine cE ?_;simp +contextual -implicitDefEqProofs (maxSteps:=10^7) only[go_sem,seval,↓gZ,X7,ae,e3,ab,w3,w5,w6,ih]
    ·rename_i af;simp only[X5,Kh] at h;have ih:=YU ps r (n+1+l.cnt) m (gX+a) gY (gW-a) gH q c (by omega) (by omega) (by omega) (by simp only[inB];omega) aa.2 h;have hq:m-(n+1+l.cnt)=m-n-1-l.cnt:=by omega
     rw[hq] at ih;have ab:¬m-n≤(l.cnt:Int):=by omega
     simp only[BT.plan,Ze.enc_mk,Km,Ku,Q9,Kh];obtain⟨q1,q2,q3,q4,q5,ad⟩:∃ a b c d e,q.plan=.mk a b c d e:=by cases hq:q.plan;exact⟨_,_,_,_,_,rfl⟩
     rw[ad,Ze.enc_mk] at ih ⊢;refine cE ?_;simp +contextual -implicitDefEqProofs (maxSteps:=10^7) only[go_sem,seval,↓gZ,X7,ae,e3,ab,w3,w4,w5,w6,ih]
end Go.Proofs.Ytighjmleicikhaa
namespace Go.Proofs.Ytighjmleicikhaa
open Go Go.Abs Go.Abs.E Go.Abs.L
open Nat (reduceMul reduceSub reduceLeDiff reduceEqDiff)
open Int (reduceLE reduceEq reduceToNat reduceNeg)
set_option linter.unusedSimpArgs false
set_option linter.unusedVariables false
set_option maxRecDepth 20000
set_option maxHeartbeats 4000000
theorem ZoJ {t:List Box} {i:Nat} {x c:Box} (hx:t[i]?=some x):(t.take (i+1)).filter (· != c)=(t.take i).filter (· != c)++if x=c then [] else [x]:=by
 rw[Lb,hx,List.filter_append];by_cases h:x=c<;>simp[h]
theorem ZmR (ps:List Pane) (t:List Box) (d:Bool) (a:Int) (l r:BT) (cX cY cW cH:Int) (ht:t.length≤1000) (hc:inB (Box.mk cX cY cW cH)) (h2:(BT.cut d a l r).cnt≤255) (hf:Z4 ps (.cut d a l r) cW cH=true) :
  Zl Xs Ms Zaf [(.d (.sl (t.map Box.enc))),(.d (.agg [J cX,J cY,J cW,J cH])),.d (BT.cut d a l r).plan.enc] []=some (.own 0,[.row 4 ((t.filter (· != (Box.mk cX cY cW cH))++[XL d a (Box.mk cX cY cW cH),X5 d a (Box.mk cX cY cW cH)]).map Box.enc) true false]):=by
 have ah:=l.cnt_pos;have ai:=r.cnt_pos;have ad:=h2;simp only[BT.cnt] at ad;have n1:WH (.cut d a l r) 0 (Box.mk cX cY cW cH) 1=some (l,XL d a (Box.mk cX cY cW cH)):=by
  unfold WH;rw[Kp (by omega),Kv (by omega)];cases l<;>simp[WH]
 have n2:WH (.cut d a l r) 0 (Box.mk cX cY cW cH) (1+l.cnt)=some (r,X5 d a (Box.mk cX cY cW cH)):=by
  unfold WH;rw[Kp (by omega),Kp (by omega)];cases r<;>(simp only[WH];rw[Kv (by omega)])
 have e1:=YU ps (.cut d a l r) 0 1 cX cY cW cH l _ (by omega) (by omega) h2 hc hf n1;have e2:=YU ps (.cut d a l r) 0 (1+l.cnt) cX cY cW cH r _ (by omega) (by omega) h2 hc hf n2;rw[Int.sub_zero] at e1 e2;have e3:=Yg l.plan;rw[Y5] at e3;have hz:=ZH 255 l;have e4:Zi 255 (some l)=(l.cnt:Int):=by omega
 rw[e4] at e3;have w1:=wi (1+(l.cnt:Int)) (by omega) (by omega);obtain⟨q1,q2,q3,q4,q5,ae⟩:∃ a b c d e,l.plan=.mk a b c d e:=by cases hq:l.plan;exact⟨_,_,_,_,_,rfl⟩
 obtain⟨p1,p2,p3,p4,p5,af⟩:∃ a b c d e,r.plan=.mk a b c d e:=by cases hq:r.plan;exact⟨_,_,_,_,_,rfl⟩
 simp only[BT.plan,Ze.enc_mk,Km,Ku,ae,af] at e1 e2 e3 ⊢;generalize XL d a (Box.mk cX cY cW cH)=kl at *;generalize X5 d a (Box.mk cX cY cW cH)=kr at *;obtain⟨lX,lY,lW,lH⟩:=kl;obtain⟨rX,rY,rW,rH⟩:=kr;refine cE ?_;simp +contextual -implicitDefEqProofs (maxSteps:=10^7) only[go_sem,seval,↓gZ,ZeI];refine LO (α:=Nat) (fun i=>[(8,.d (J (i:Int)))]) (fun i=>[(0,.row 4 (((t.take i).filter (· != (Box.mk cX cY cW cH))).map Box.enc) true false)]) (fun i=>i≤t.length) (fun i=>t.length-i) 0 (by omega) ?_;intro i hi ih;have ag:((t.take i).filter (· != (Box.mk cX cY cW cH))).length≤i:=K1 (List.length_filter_le _ _) (by simp;omega)
 by_cases ab:i<t.length
 ·obtain⟨x,hx⟩:=Qx ab;have hw:=ZY (k:=i) (by omega);have aa:=ZoJ (c:=(Box.mk cX cY cW cH)) hx;have hr:(((t.take i).filter (· != (Box.mk cX cY cW cH))).length+1)*32≤140737488355328∧((t.take i).filter (· != (Box.mk cX cY cW cH))).length≤140737488355327:=by omega
  obtain⟨X,Y,W,H⟩:=x;simp only[Box.mk.injEq] at aa;by_cases h:X=cX∧Y=cY∧W=cW∧H=cH
  ·rw[Kv h,K8] at aa;obtain⟨rfl,rfl,rfl,rfl⟩:=h;simp +contextual -implicitDefEqProofs (maxSteps:=10^7) only[go_sem,seval,↓gZ,hx,ab,hw];refine ih (i+1) _ (by omega) (by omega) ?_;simp +contextual -implicitDefEqProofs (maxSteps:=10^7) only[go_sem,seval,↓gZ,aa]
  ·rw[Kp h] at aa;simp +contextual -implicitDefEqProofs (maxSteps:=10^7) only[go_sem,seval,↓gZ,hx,ab,hw,← Lg,h,hr];refine ih (i+1) _ (by omega) (by omega) ?_;simp +contextual -implicitDefEqProofs (maxSteps:=10^7) only[go_sem,seval,↓gZ,aa,Lf,Km,Ku]
 ·have:i=t.length:=by omega
  subst this;rw[List.take_length] at ag;have hr:((t.filter (· != (Box.mk cX cY cW cH))).length+2)*32≤140737488355328∧(t.filter (· != (Box.mk cX cY cW cH))).length+1≤140737488355327∧(t.filter (· != (Box.mk cX cY cW cH))).length+2≤140737488355327∧(t.filter (· != (Box.mk cX cY cW cH))).length+2≤140737488355328:=by omega
  simp +contextual -implicitDefEqProofs (maxSteps:=10^7) only[go_sem,seval,↓gZ,List.take_length,e1,e2,e3,w1,hr,Lf]
theorem Zjl:∀ (K:List (Int×Int)) (k:Nat) (n:Int),QG k (K.map Prod.fst) n=fKn k K n
 | [],_,_=>rfl
 | x :: l,k,n=>by simp only[Km,QG,fKn];rw[Zjl l]
theorem Zae:∀ (l:List Int) (k:Nat) (n:Int),(n∈l→0≤QG k l n)∧(n∉l→QG k l n=-1)
 | [],k,n=>⟨fun h=>(by cases h),fun _=>rfl⟩
 | x :: l,k,n=>by
  have ih:=Zae l (k+1) n;refine⟨fun h=>?_,fun h=>?_⟩
  ·unfold QG;split
   ·omega
   ·rename_i hx;exact ih.1 ((Ke.1 h).resolve_left fun e=>hx e.symm)
  ·unfold QG;rw[Kp (fun e=>h (by simp[e])),ih.2 (fun e=>h (by simp[e]))]
theorem Zh5 (kW kH:Int) (kP:List Pane) (p:Ze) (s:List Int) (hs:s.length≤1048576) (hl:kP.length<4611686018427387904):Zl Xs Ms Wv [(.d (.agg [J kW,J kH,.sl (kP.map Pane.enc)])),.d p.enc,.d (.sl (s.map Xa))] []=some (rsV (Ub (QR.mk kW kH kP) p s)):=by
 have e1:=Zhp kW kH kP p hl;by_cases hv:XN (QR.mk kW kH kP) p=true
 ·cases hb:Qp p with
  | none=>simp[XN,hb] at hv
  | some b=>
   have hp:=Y6 hb;obtain⟨hw,hc,hf⟩:=(ZeH hb).1 hv;have e2:=VJ b 0 (-1) (by omega) (by omega);have e3:=JA b 0 (-1) (by omega) (by omega);have ah:Ub (QR.mk kW kH kP) p s=if okS (kn b 0 (-1)) [] s=true then some (goS b ⟨0,0,kW,kH⟩ [⟨0,0,kW,kH⟩] s) else none:=by
    unfold Ub;rw[hb];simp only[hv,KO]
   rw[ah];have a3:=XV b 0 (-1);have au:=Zd3 hc;simp only[VW] at hw;rw[hv] at e1;have hg:Jd ⟨0,0,kW,kH⟩:=by unfold Jd;simp only;omega
   have av:inB ⟨0,0,kW,kH⟩:=by simp only[inB];omega
   have ap:∀ m:Nat,m<1000→∀ q c,WH b 0 ⟨0,0,kW,kH⟩ m=some (q,c)→Zl Xs Ms XM [.d p.enc,.d (.agg [J 0,J 0,J kW,J kH]),(.d (J ((m:Int))))] []=some (.tup [.d q.plan.enc,.d c.enc],[]):=fun m hm q c hn=>by
    have:=YU kP b 0 m 0 0 kW kH q c (by omega) (by omega) hc av hf hn;rw[Int.sub_zero,← hp] at this;exact this
   rw[← hp] at e2 e3;clear ah hb hp;obtain⟨o,a,q,t,ks⟩:=p;rw[Ze.enc_mk] at e1 e2 e3 ap ⊢;generalize hK:kn b 0 (-1)=K at *;refine cE ?_;simp +contextual -implicitDefEqProofs (maxSteps:=10^7) only[go_sem,seval,↓gZ,UF,e1,e2,e3];refine LO (α:=Nat×List Box) (fun x=>[(11,.d (J (x.1:Int)))]) (fun x=>[(0,.row 4 (x.2.map Box.enc) true false)]) (fun x=>x.1≤s.length∧(Cl (s.take x.1) b 0∧x.2.Perm (Xg (s.take x.1) b 0 ⟨0,0,kW,kH⟩)∧x.2.length≤x.1+1∧x.2.length≤255)∧goS b ⟨0,0,kW,kH⟩ x.2 (s.drop x.1)=goS b ⟨0,0,kW,kH⟩ [⟨0,0,kW,kH⟩] s∧okS K (s.take x.1) (s.drop x.1)=okS K [] s) (fun x=>s.length-x.1) (0,[⟨0,0,kW,kH⟩]) ⟨by simp,⟨ZeF b 0,by simp[ZfO],by simp,by simp⟩,by simp,by simp⟩ ?_
   intro⟨i,t⟩ ⟨hi,⟨hC,ht,htl,htc⟩,hgo,ho⟩ ih;simp only at hi hC ht htl htc hgo ho;by_cases aa:i<s.length
   ·obtain⟨m,hx⟩:=Qx aa;have ab:=ZY (k:=i) (by omega);have ai:i≤s.length:=hi;have aw : (s.take i).length=i:=by simp;omega
    rw[Zhy hx] at ho;have ep:=Wq (K.map Prod.fst) m (by simp;omega);rw[Zjl] at ep;have ad:=Wq (s.take i) m (by omega);have aq:=Zae (s.take i) 0 m;rcases Zhv K 0 m with ⟨h1,h2⟩ | ⟨j,x,h1,h2,h3,h4⟩
    ·have hn:okN K (s.take i) m=false:=by unfold okN;rw[h2]
     rw[hn,K6] at ho;rw[← ho];simp only[Ka,Kf,rsV];simp +contextual -implicitDefEqProofs (maxSteps:=10^7) only[go_sem,seval,↓gZ,hx,aa,ab,ep,h1]
    ·obtain⟨x1,x2⟩:=x;have ax:=au _ (Kr h2);simp only at h3 ax;subst h3;obtain⟨m',rfl⟩:∃ n:Nat,x1=(n:Int):=⟨x1.toNat,by omega⟩
     rw[K0] at h1;rw[h1] at ep;have aj:¬(j:Int)<0:=by omega
     have ak:=(Kc.1 h2).1;have hn:okN K (s.take i) m'=(!decide ((m' : Int)∈s.take i)&&(decide (x2<0) || decide (x2∈s.take i))):=by unfold okN;rw[h4]
     have al:=Wq (s.take i) x2 (by omega);have ae:=Zae (s.take i) 0 x2;by_cases hd:(m' : Int)∈s.take i
     ·have k1:=aq.1 hd;rw[hn,K7 hd] at ho;simp only[Bool.not_true,K6] at ho;rw[← ho];simp only[Ka,Kf,rsV];simp +contextual -implicitDefEqProofs (maxSteps:=10^7) only[go_sem,seval,↓gZ,hx,aa,ai,ab,ep,aj,ad,k1]
     ·have k1:=aq.2 hd;rw[k1] at ad;by_cases ha:x2<0∨x2∈s.take i
      ·have af:okN K (s.take i) m'=true:=by rw[hn,Ln hd,← Ll,K7 ha];rfl
       rw[af,KO] at ho;rw[← hK] at af;obtain⟨d,a',l,r,c,hm,n1,n2,n3,n4,n5,n6,n7,n8⟩:=Zke hf hg hC ht af;have am:=ap m' (by omega) _ _ n1;have ay:goS b ⟨0,0,kW,kH⟩ t (s.drop i)=goS b ⟨0,0,kW,kH⟩ (t.erase c++[XL d a' c,X5 d a' c]) (s.drop (i+1)):=by
        obtain⟨k1,k2⟩:=Kc.1 hx;rw[KQ k1,k2,Zhs n1]
       rw[ay] at hgo;have az:=Zjk n4 n3 ⟨rfl,rfl,by simp only;omega,by simp only;omega⟩;have a0:=List.length_erase_of_mem n5;have a1:s.take (i+1)=s.take i++[(m' : Int)]:=by rw[Lb,hx];rfl
       rw[← a1] at n7 n8;have an:(BT.cut d a' l r).cnt≤255:=K1 (Zht n1) hc;have ao:(t.erase c++[XL d a' c,X5 d a' c]).length≤255:=by rw[n8.length_eq];exact K1 (ZfP _ _ _ _) hc
       rw[n6.erase_eq_filter] at hgo n8 ao a0;obtain⟨cX,cY,cW,cH⟩:=c;simp only at az n2;have ea:=ZmR kP t d a' l r cX cY cW cH (by omega) (by simp only[inB];omega) an n2;simp only[BT.plan,Ze.enc_mk,Km,Ku] at am ea;by_cases h0:x2<0
       ·have ag : ¬0≤x2:=by omega
        simp +contextual -implicitDefEqProofs (maxSteps:=10^7) only[go_sem,seval,↓gZ,hx,aa,ai,ab,ep,aj,ad,h2,ak,ag,am,ea];refine ih (i+1,t.filter (· != ⟨cX,cY,cW,cH⟩)++[XL d a' ⟨cX,cY,cW,cH⟩,X5 d a' ⟨cX,cY,cW,cH⟩]) _ ⟨by simp only;omega,⟨n7,n8,by simp only[Kg,Ki,KA];omega,ao⟩,hgo,ho⟩ (by simp only;omega) ?_;simp +contextual -implicitDefEqProofs (maxSteps:=10^7) only[go_sem,seval,↓gZ]
       ·have ag : 0≤x2:=by omega
        have k2:=ae.1 (ha.resolve_left h0);have a2 : ¬QG 0 (s.take i) x2<0:=by omega
        simp +contextual -implicitDefEqProofs (maxSteps:=10^7) only[go_sem,seval,↓gZ,hx,aa,ai,ab,ep,aj,ad,h2,ak,ag,al,a2,am,ea];refine ih (i+1,t.filter (· != ⟨cX,cY,cW,cH⟩)++[XL d a' ⟨cX,cY,cW,cH⟩,X5 d a' ⟨cX,cY,cW,cH⟩]) _ ⟨by simp only;omega,⟨n7,n8,by simp only[Kg,Ki,KA];omega,ao⟩,hgo,ho⟩ (by simp only;omega) ?_;simp +contextual -implicitDefEqProofs (maxSteps:=10^7) only[go_sem,seval,↓gZ]
      ·have ag : 0≤x2:=by omega
       have k2:=ae.2 (fun h=>ha (.inr h));rw[k2] at al;have af:okN K (s.take i) m'=false:=by rw[hn,Ln hd,← Ll,Ln ha];rfl
       rw[af,K6] at ho;rw[← ho];simp only[Ka,Kf,rsV];simp +contextual -implicitDefEqProofs (maxSteps:=10^7) only[go_sem,seval,↓gZ,hx,aa,ai,ab,ep,aj,ad,h2,ak,ag,al]
   ·have:i=s.length:=by omega
    subst this;rw[List.drop_length,goS] at hgo;rw[List.drop_length,okS] at ho;rw[← ho,← hgo];simp only[Kh,rsV];simp +contextual -implicitDefEqProofs (maxSteps:=10^7) only[go_sem,seval,↓gZ]
 ·have ar : XN (QR.mk kW kH kP) p=false:=Bool.eq_false_iff.2 hv;have ah:Ub (QR.mk kW kH kP) p s=none:=by
   unfold Ub;cases Qp p with
   | none=>rfl
   | some b=>simp only[ar,K6,Ka,Kf]
  rw[ah,rsV];rw[ar] at e1;obtain⟨o,a,q,t,ks⟩:=p;rw[Ze.enc_mk] at e1 ⊢;refine cE ?_;simp +contextual -implicitDefEqProofs (maxSteps:=10^7) only[go_sem,seval,↓gZ,UF,e1]
end Go.Proofs.Ytighjmleicikhaa
