/- Own text. -/
import Derived.Test.YtighjmleicikhaaACode
import Derived.Test.YtighjmleicikhaaAbsParts
import Derived.Test.YtighjmleicikhaaAC4
import Derived.Test.YtighjmleicikhaaAbsOkD
namespace Go.Proofs.Ytighjmleicikhaa
open Go Go.Abs Go.Abs.E Go.Abs.L
open Nat (reduceMul reduceSub reduceLeDiff reduceEqDiff)
open Int (reduceLE reduceEq reduceToNat reduceNeg)
set_option linter.unusedSimpArgs false
set_option linter.unusedVariables false
set_option maxRecDepth 20000
set_option maxHeartbeats 4000000
theorem WN:∀ (b:BT) (n a:Int),0≤n→n+b.cnt≤255→Zj Xs Ms Xe [.d b.plan.enc,(.d (J n))] []=some (.own 0,[.row 1 (((kn b n a).map Prod.fst).map Wd) true false])
 | .waste,n,a,h0,h1=>by
  simp only[BT.plan,Ze.enc_mk,kn];refine cE ?_;simp +contextual -implicitDefEqProofs (maxSteps:=10^7) only[go_sem,seval,↓gZ,Yn,Z5]
 | .pane i t,n,a,h0,h1=>by
  simp only[BT.plan,Ze.enc_mk,kn];refine cE ?_;simp +contextual -implicitDefEqProofs (maxSteps:=10^7) only[go_sem,seval,↓gZ,Yn,Z5]
 | .cut d c l r,n,a,h0,h1=>by
  simp only[BT.cnt] at h1;have w1:=wi (n+1) (by omega) (by omega);have w2:=wi (n+1+l.cnt) (by omega) (by omega);have e1:=WN l (n+1) n (by omega) (by omega);have e2:=WN r (n+1+l.cnt) n (by omega) (by omega);have e3:=YV l.plan;rw[Ug] at e3;have hz:=Qa 255 l;have e4:Zk 255 (some l)=(l.cnt:Int):=by omega
  rw[e4] at e3;have hd:(X3 d=2∨X3 d=3)=True:=eq_true (by cases d<;>simp[X3]);have k1:=Jb l (n+1) n;have k2:=Jb r (n+1+l.cnt) n;have r1:((kn l (n+1) n).length+1)*8≤140737488355328∧(kn l (n+1) n).length+1≤140737488355328∧(1+(kn l (n+1) n).length)*8≤140737488355328∧1+(kn l (n+1) n).length≤140737488355328:=by omega
  have r2:((kn l (n+1) n).length+1+(kn r (n+1+l.cnt) n).length)*8≤140737488355328∧(kn l (n+1) n).length+1+(kn r (n+1+l.cnt) n).length≤140737488355328∧(1+(kn l (n+1) n).length+(kn r (n+1+l.cnt) n).length)*8≤140737488355328∧1+(kn l (n+1) n).length+(kn r (n+1+l.cnt) n).length≤140737488355328:=by omega
  simp only[BT.plan,Ze.enc_mk,kn];refine cE ?_;simp +contextual -implicitDefEqProofs (maxSteps:=10^7) only[go_sem,seval,↓gZ,Yn,Z5,hd,w1,w2,e1,e2,e3,r1,r2];try (simp[Wd];done)
theorem ZaL:∀ (b:BT) (n a:Int),0≤n→n+b.cnt≤255→Zj Xs Ms Vg [.d b.plan.enc,(.d (J n)),(.d (J a))] []=some (.own 0,[.row 1 (((kn b n a).map Prod.snd).map Wd) true false])
 | .waste,n,a,h0,h1=>by
  simp only[BT.plan,Ze.enc_mk,kn];refine cE ?_;simp +contextual -implicitDefEqProofs (maxSteps:=10^7) only[go_sem,seval,↓gZ,Ur,Z5]
 | .pane i t,n,a,h0,h1=>by
  simp only[BT.plan,Ze.enc_mk,kn];refine cE ?_;simp +contextual -implicitDefEqProofs (maxSteps:=10^7) only[go_sem,seval,↓gZ,Ur,Z5]
 | .cut d c l r,n,a,h0,h1=>by
  simp only[BT.cnt] at h1;have w1:=wi (n+1) (by omega) (by omega);have w2:=wi (n+1+l.cnt) (by omega) (by omega);have e1:=ZaL l (n+1) n (by omega) (by omega);have e2:=ZaL r (n+1+l.cnt) n (by omega) (by omega);have e3:=YV l.plan;rw[Ug] at e3;have hz:=Qa 255 l;have e4:Zk 255 (some l)=(l.cnt:Int):=by omega
  rw[e4] at e3;have hd:(X3 d=2∨X3 d=3)=True:=eq_true (by cases d<;>simp[X3]);have k1:=Jb l (n+1) n;have k2:=Jb r (n+1+l.cnt) n;have r1:((kn l (n+1) n).length+1)*8≤140737488355328∧(kn l (n+1) n).length+1≤140737488355328∧(1+(kn l (n+1) n).length)*8≤140737488355328∧1+(kn l (n+1) n).length≤140737488355328:=by omega
  have r2:((kn l (n+1) n).length+1+(kn r (n+1+l.cnt) n).length)*8≤140737488355328∧(kn l (n+1) n).length+1+(kn r (n+1+l.cnt) n).length≤140737488355328∧(1+(kn l (n+1) n).length+(kn r (n+1+l.cnt) n).length)*8≤140737488355328∧1+(kn l (n+1) n).length+(kn r (n+1+l.cnt) n).length≤140737488355328:=by omega
  simp only[BT.plan,Ze.enc_mk,kn];refine cE ?_;simp +contextual -implicitDefEqProofs (maxSteps:=10^7) only[go_sem,seval,↓gZ,Ur,Z5,hd,w1,w2,e1,e2,e3,r1,r2];try (simp[Wd];done)
theorem Yg (ps:List Pane):∀ (b:BT) (n m:Int) (gX gY gW gH:Int) (q:BT) (c:Box),n≤m→m≤n+1000→b.cnt≤255→inB (Box.mk gX gY gW gH)→Qv ps b gW gH=true→VY b n (Box.mk gX gY gW gH) m=some (q,c) →
  Zj Xs Ms Xt [.d b.plan.enc,(.d (.agg [J gX,J gY,J gW,J gH])),(.d (J (m-n)))] []=some (.tup [.d q.plan.enc,.d c.enc],[])
 | .waste,n,m,gX,gY,gW,gH,q,c,h0,hm,h1,hg,hf,h=>by
  unfold VY at h;split at h
  ·rename_i e;cases h;subst e;have h2:m-m=0:=by omega
   rw[h2];simp only[BT.plan,Ze.enc_mk];refine cE ?_;simp +contextual -implicitDefEqProofs (maxSteps:=10^7) only[go_sem,seval,↓gZ,XK]
  ·cases h
 | .pane i t,n,m,gX,gY,gW,gH,q,c,h0,hm,h1,hg,hf,h=>by
  unfold VY at h;split at h
  ·rename_i e;cases h;subst e;have h2:m-m=0:=by omega
   rw[h2];simp only[BT.plan,Ze.enc_mk];refine cE ?_;simp +contextual -implicitDefEqProofs (maxSteps:=10^7) only[go_sem,seval,↓gZ,XK]
  ·cases h
 | .cut d a l r,n,m,gX,gY,gW,gH,q,c,h0,hm,h1,hg,hf,h=>by
  unfold VY at h;split at h
  ·rename_i e;cases h;subst e;have h2:m-m=0:=by omega
   rw[h2];simp only[BT.plan,Ze.enc_mk,Kq,KS];refine cE ?_;simp +contextual -implicitDefEqProofs (maxSteps:=10^7) only[go_sem,seval,↓gZ,XK]
  ·rename_i e;simp only[BT.cnt] at h1;have e3:=YV l.plan;rw[Ug] at e3;have hz:=Qa 255 l;have e4:Zk 255 (some l)=(l.cnt:Int):=by omega
   rw[e4] at e3;have ae:¬m-n=0:=by omega
   have w3:=wi (m-n-1) (by omega) (by omega);have w4:=wi (m-n-1-l.cnt) (by omega) (by omega);have ha:=ZkP hf;simp only[inB] at hg;cases d
   ·simp only[Ka,Kg] at ha;have w1:=wi (gY+a) (by omega) (by omega);have w2:=wi (gH-a) (by omega) (by omega);have w5:=wi (gX+a) (by omega) (by omega);have w6:=wi (gW-a) (by omega) (by omega);have aa:=hf;simp only[Qv,Kb,Ka,Kg,Kj] at aa;split at h
    ·rename_i af;simp only[XZ,Ka,Kg] at h;have ih:=Yg ps l (n+1) m gX gY gW a q c (by omega) (by omega) (by omega) (by simp only[inB];omega) aa.1.2 h;have hq:m-(n+1)=m-n-1:=by omega
     rw[hq] at ih;have ab:m-n≤(l.cnt:Int):=by omega
     simp only[BT.plan,Ze.enc_mk,Kq,KS,X3,Ka,Kg];obtain⟨q1,q2,q3,q4,q5,ad⟩:∃ a b c d e,q.plan=.mk a b c d e:=by cases hq:q.plan;exact⟨_,_,_,_,_,rfl⟩
     rw[ad,Ze.enc_mk] at ih ⊢;refine cE ?_;simp +contextual -implicitDefEqProofs (maxSteps:=10^7) only[go_sem,seval,↓gZ,XK,ae,e3,ab,w1,w2,w3,w5,w6,ih]
    ·rename_i af;simp only[YQ,Ka,Kg] at h;have ih:=Yg ps r (n+1+l.cnt) m gX (gY+a) gW (gH-a) q c (by omega) (by omega) (by omega) (by simp only[inB];omega) aa.2 h;have hq:m-(n+1+l.cnt)=m-n-1-l.cnt:=by omega
     rw[hq] at ih;have ab:¬m-n≤(l.cnt:Int):=by omega
     simp only[BT.plan,Ze.enc_mk,Kq,KS,X3,Ka,Kg];obtain⟨q1,q2,q3,q4,q5,ad⟩:∃ a b c d e,q.plan=.mk a b c d e:=by cases hq:q.plan;exact⟨_,_,_,_,_,rfl⟩
     rw[ad,Ze.enc_mk] at ih ⊢;refine cE ?_;simp +contextual -implicitDefEqProofs (maxSteps:=10^7) only[go_sem,seval,↓gZ,XK,ae,e3,ab,w1,w2,w3,w4,w5,w6,ih]
   ·simp only[Kh] at ha;have w5:=wi (gX+a) (by omega) (by omega);have w6:=wi (gW-a) (by omega) (by omega);have aa:=hf;simp only[Qv,Kb,Kh,Kj] at aa;split at h
    ·rename_i af;simp only[XZ,Kh] at h;have ih:=Yg ps l (n+1) m gX gY a gH q c (by omega) (by omega) (by omega) (by simp only[inB];omega) aa.1.2 h;have hq:m-(n+1)=m-n-1:=by omega
     rw[hq] at ih;have ab:m-n≤(l.cnt:Int):=by omega
     simp only[BT.plan,Ze.enc_mk,Kq,KS,X3,Kh];obtain⟨q1,q2,q3,q4,q5,ad⟩:∃ a b c d e,q.plan=.mk a b c d e:=by cases hq:q.plan;exact⟨_,_,_,_,_,rfl⟩
     rw[ad,Ze.enc_mk] at ih ⊢;refine cE ?_;simp +contextual -implicitDefEqProofs (maxSteps:=10^7) only[go_sem,seval,↓gZ,XK,ae,e3,ab,w3,w5,w6,ih]
    ·rename_i af;simp only[YQ,Kh] at h;have ih:=Yg ps r (n+1+l.cnt) m (gX+a) gY (gW-a) gH q c (by omega) (by omega) (by omega) (by simp only[inB];omega) aa.2 h;have hq:m-(n+1+l.cnt)=m-n-1-l.cnt:=by omega
     rw[hq] at ih;have ab:¬m-n≤(l.cnt:Int):=by omega
     simp only[BT.plan,Ze.enc_mk,Kq,KS,X3,Kh];obtain⟨q1,q2,q3,q4,q5,ad⟩:∃ a b c d e,q.plan=.mk a b c d e:=by cases hq:q.plan;exact⟨_,_,_,_,_,rfl⟩
     rw[ad,Ze.enc_mk] at ih ⊢;refine cE ?_;simp +contextual -implicitDefEqProofs (maxSteps:=10^7) only[go_sem,seval,↓gZ,XK,ae,e3,ab,w3,w4,w5,w6,ih]
end Go.Proofs.Ytighjmleicikhaa
