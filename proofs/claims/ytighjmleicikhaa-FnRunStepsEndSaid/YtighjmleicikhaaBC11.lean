/- Own text. -/
import Derived.Test.YtighjmleicikhaaBCode
import Derived.Test.YtighjmleicikhaaAbsParts
import Derived.Test.YtighjmleicikhaaBC10
import Derived.Test.YtighjmleicikhaaAbsOkD
namespace Go.Proofs.Ytighjmleicikhaa
open Go Go.Abs Go.Abs.E Go.Abs.L
open Nat (reduceMul reduceSub reduceLeDiff reduceEqDiff)
open Int (reduceLE reduceEq reduceToNat reduceNeg)
set_option linter.unusedSimpArgs false
set_option linter.unusedVariables false
set_option maxRecDepth 20000
set_option maxHeartbeats 4000000
theorem Zh0 (bs:List UInt8) (hb:bs.length≤2000) (p:Nat) (hp:p<900000000) (P:Ze):∃ (out:List Int) (f:Bool) (p' : Nat),p'≤p+256∧out.length≤255 ∧
  Zl Xs Ms Wz [.ptr 0 0,.d P.enc] [.box [.d (.sl (bs.map Xc)),(.d (J p))]]=some (.own 1,[.box [.d (.sl (bs.map Xc)),(.d (J (p')))],.row 1 (out.map Xa) f false]):=by
 have es:=Yg P;by_cases aa:Zi 255 (Qp P)<0
 ·refine⟨[0],true,p,by omega,by simp,?_⟩;obtain⟨o,a,q,t,ks⟩:=P;rw[Ze.enc_mk] at es ⊢;refine cE ?_;simp +contextual -implicitDefEqProofs (maxSteps:=10^7) only[go_sem,seval,↓gZ,XH,es,aa]
 ·cases hB:Qp P with
  | none=>rw[hB] at aa;simp[Zi] at aa
  | some b=>
   have hP:=Y6 hB;have hz:=ZH 255 b;rw[hB] at aa es;have hc:b.cnt≤255:=by omega
   obtain⟨out,p',h1,h2,e1⟩:=Zhq bs hb p hp b hc;rw[← hP] at e1;clear hB hP;generalize Zi 255 (some b)=z at *;obtain⟨o,a,q,t,ks⟩:=P;rw[Ze.enc_mk] at es e1 ⊢;by_cases hl:1<out.length
   ·have ab : (1:Int)<(out.length:Int):=by omega
    have ep:=Xl bs p' 12 hb (by omega);generalize Xw bs p' 12=c at ep;obtain⟨x0,h0⟩:=Qx (l:=out) (k:=0) (by omega);obtain⟨x1,af⟩:=Qx (l:=out) (k:=1) hl;have ad:0<out.length:=by omega
    by_cases c0:c=0
    ·refine⟨out.set 1 x0,true,p'+1,by omega,by simpa using h2,?_⟩;refine cE ?_;simp +contextual -implicitDefEqProofs (maxSteps:=10^7) only[go_sem,seval,↓gZ,XH,es,aa,e1,hl,ab,ep,c0,h0,af,ad];try (simp[List.map_set,Xa];done)
    by_cases c1:c=1
    ·obtain⟨m,hm⟩:∃ m:Nat,out.length=m+1:=⟨out.length-1,by omega⟩
     obtain⟨xm,ag⟩:=Qx (l:=out) (k:=m) (by omega);have ah:m<out.length:=by omega
     have hw:IntKind.i64.wrap ((out.length:Int)-1)=(m:Int):=by rw[Yo (by omega) (by omega)];omega
     have ai:IntKind.i64.wrap (((m+1:Nat):Int)-1)=(m:Int):=by rw[Yo (by omega) (by omega)];omega
     refine⟨out.set 0 xm,true,p'+1,by omega,by simpa using h2,?_⟩;refine cE ?_;simp +contextual -implicitDefEqProofs (maxSteps:=10^7) only[go_sem,seval,↓gZ,XH,es,aa,e1,hl,ab,ep,c0,c1,h0,ag,ah,hw,ad];try (simp[List.map_set,Xa];done)
    by_cases c2:c=2
    ·have hr:(out.length-1+1)*8≤140737488355328∧out.length-1+1≤140737488355328∧(out.length-1+1)*8≤Zt∧out.length-1+1≤Zt:=by unfold Zt;omega
     have ht:((out.drop 1).take (out.length-1))=out.drop 1:=K9 (by simp);have ae:(1:Int)≤(out.length:Int):=by omega
     refine⟨out.drop 1++[x0],false,p'+1,by omega,by simp;omega,?_⟩;refine cE ?_;simp +contextual -implicitDefEqProofs (maxSteps:=10^7) only[go_sem,seval,↓gZ,XH,es,aa,e1,hl,ab,ep,c0,c1,c2,h0,ad,hr,ht,ae];try (simp[Xa];done)
    ·refine⟨out,true,p'+1,by omega,h2,?_⟩;refine cE ?_;simp +contextual -implicitDefEqProofs (maxSteps:=10^7) only[go_sem,seval,↓gZ,XH,es,aa,e1,hl,ab,ep,c0,c1,c2]
   ·have ab : ¬(1:Int)<(out.length:Int):=by omega
    refine⟨out,true,p',by omega,h2,?_⟩;refine cE ?_;simp +contextual -implicitDefEqProofs (maxSteps:=10^7) only[go_sem,seval,↓gZ,XH,es,aa,e1,hl,ab]
theorem ZbF:∀ (b:BT),b.cnt≤1000→Zl Xs Ms YY [.d b.plan.enc] []=some ((.d (J (((kn b 0 0).length:Nat)))),[])
 | .waste,hb=>by
  simp only[BT.plan,Ze.enc_mk,kn];refine cE ?_;simp +contextual -implicitDefEqProofs (maxSteps:=10^7) only[go_sem,seval,↓gZ,Ji,ZP]
 | .pane i t,hb=>by
  simp only[BT.plan,Ze.enc_mk,kn];refine cE ?_;simp +contextual -implicitDefEqProofs (maxSteps:=10^7) only[go_sem,seval,↓gZ,Ji,ZP]
 | .cut d a l r,hb=>by
  simp only[BT.cnt] at hb;have e1:=ZbF l (by omega);have e2:=ZbF r (by omega);have k1:=XV l 0 0;have k2:=XV r 0 0;have g1:=Zc7 l 0 0;have g2:=Zc7 r 0 0;have g3:=Zc7 (.cut d a l r) 0 0;simp only[BT.cnt] at g3;have hk:((kn (.cut d a l r) 0 0).length:Int)=1+((kn l 0 0).length:Nat)+((kn r 0 0).length:Nat):=by omega
  rw[hk];have w1:=wi (1+(((kn l 0 0).length:Nat):Int)) (by omega) (by omega);have w2:=wi (1+(((kn l 0 0).length:Nat):Int)+(((kn r 0 0).length:Nat):Int)) (by omega) (by omega);have hd:(Q9 d=2∨Q9 d=3)=True:=eq_true (by cases d<;>simp[Q9]);simp only[BT.plan,Ze.enc_mk];refine cE ?_;simp +contextual -implicitDefEqProofs (maxSteps:=10^7) only[go_sem,seval,↓gZ,Ji,ZP,hd,e1,e2,w1,w2]
def PCuts (bs:List UInt8) (p:Nat) (r:AV×List Zh):Prop:=∃ (K:AV) (p' : Nat) (W H:Int) (ps:List Pane) (o a q:Int) (t:Bool) (ks:List Ze),p'≤p+1100∧ps.length≤24∧(K=.own 2∨K=.ownv 2 0 1∧ks.length=2) ∧
  r=(.tup [.agg [(.d (J W)),(.d (J H)),.own 1],.agg [(.d (J o)),(.d (J a)),(.d (J q)),(.d (.bool t)),K]],[.box [.d (.sl (bs.map Xc)),(.d (J (p')))],.row 4 (ps.map Pane.enc) true false,.row 5 (ks.map Ze.enc) true false])
theorem Zh1 (bs:List UInt8) (hb:bs.length≤2000) (p:Nat) (hp:p<800000000) (ab:Int):∃ r,Zl Xs Ms Wy [.ptr 0 0,(.d (J ab))] [.box [.d (.sl (bs.map Xc)),(.d (J p))]]=some r∧PCuts bs p r:=by
 refine cW ?_;simp +contextual -implicitDefEqProofs (maxSteps:=10^7) only[go_sem,seval,↓gZ,ZaU];refine LO (α:=Nat×Nat) (fun s=>[(6,.d (J (s.1:Int)))]) (fun s=>[(0,.box [.d (.sl (bs.map Xc)),(.d (J (s.2)))])]) (fun s=>s.1≤4∧s.2≤p+200*s.1) (fun s=>4-s.1) (0,p) ⟨by simp,by simp⟩ ?_;intro⟨i,pp⟩ ⟨hi,hpp⟩ ih;simp only at hi hpp;by_cases ad:i<4
 ·have aa : (i:Int)<4:=by omega
  have hw:=ZY (k:=i) (by omega);obtain⟨W,H,b,p',ps,o,a,q,t,ks,af,h1,h2,h3,h4,h5,h6,h7,h8,h9,e1⟩:=ZcC bs hb pp (by omega);have e2:=ZbF b (by omega);rw[af,Ze.enc_mk] at e2;generalize (((kn b 0 0).length:Nat):Int)=n at e2;by_cases c1:n≤ab
  ·by_cases c2:1<n
   ·simp +contextual -implicitDefEqProofs (maxSteps:=10^7) only[go_sem,seval,↓gZ,ad,aa,e1,e2,c1,c2];exact⟨.own 2,p',W,H,ps,o,a,q,t,ks,by omega,h7,.inl rfl,rfl⟩
   ·simp +contextual -implicitDefEqProofs (maxSteps:=10^7) only[go_sem,seval,↓gZ,ad,aa,e1,e2,c1,c2,hw];refine ih (i+1,p') _ ⟨by simp only;omega,by simp only;omega⟩ (by simp only;omega) ?_;simp +contextual -implicitDefEqProofs (maxSteps:=10^7) only[go_sem,seval,↓gZ]
  ·simp +contextual -implicitDefEqProofs (maxSteps:=10^7) only[go_sem,seval,↓gZ,ad,aa,e1,e2,c1,hw];refine ih (i+1,p') _ ⟨by simp only;omega,by simp only;omega⟩ (by simp only;omega) ?_;simp +contextual -implicitDefEqProofs (maxSteps:=10^7) only[go_sem,seval,↓gZ]
 ·have:i=4:=by omega
  subst this;obtain⟨K,p',W,H,ps,o,a,q,t,ks,h1,ae,hK,e1⟩:=Zka bs hb pp (by omega);rcases hK with rfl | ⟨rfl,ag⟩
  ·simp +contextual -implicitDefEqProofs (maxSteps:=10^7) only[go_sem,seval,↓gZ,ad,e1];exact⟨.own 2,p',W,H,ps,o,a,q,t,ks,by omega,ae,.inl rfl,rfl⟩
  ·simp +contextual -implicitDefEqProofs (maxSteps:=10^7) only[go_sem,seval,↓gZ,ad,e1];exact⟨.ownv 2 0 1,p',W,H,ps,o,a,q,t,ks,by omega,ae,.inr ⟨rfl,ag⟩,rfl⟩
def PRunS (r:AV×List Zh):Prop:=∃ (K S:AV) (W H:Int) (ps:List Pane) (o a q:Int) (t:Bool) (ks:List Ze) (out:List Int) (f:Bool),(ps.length≤24∧out.length≤255)∧(K=.own 1∨K=.ownv 1 0 1∧ks.length=2)∧(S=.own 2∨∃ n:Nat,n≤out.length∧S=.ownv 2 0 n) ∧
  r=(.tup [.agg [(.d (J W)),(.d (J H)),.own 0],.agg [(.d (J o)),(.d (J a)),(.d (J q)),(.d (.bool t)),K],S],[.row 4 (ps.map Pane.enc) true false,.row 5 (ks.map Ze.enc) true true,.row 1 (out.map Xa) f false])
theorem ZdZ (aa:List UInt8):∃ r,Zl Xs Ms Xm [.d (.sl (aa.map Xc))] []=some r∧PRunS r:=by
 have e1:=Zhm aa;have hb:(aa.take 2000).length≤2000:=by simp;omega
 obtain⟨r,e2,K,p',W,H,ps,o,a,q,t,ks,h1,ae,hK,rfl⟩:=Zh1 (aa.take 2000) hb 0 (by decide) 20;rw[show ((0:Nat):Int)=0 from rfl] at e2;have ai:∀ (ad : List Ze),(K=.own 2∧ad=ks∨K=.ownv 2 0 1∧ks.length=2∧ad=ks.take 1)→∃ r,Zl Xs Ms Xm [.d (.sl (aa.map Xc))] []=some r∧PRunS r:=by
  intro ad hk;obtain⟨out,f,p2,h2,h3,e3⟩:=Zh0 (aa.take 2000) hb p' (by omega) (.mk o a q t ad);rw[Ze.enc_mk] at e3;have ep:=Xl (aa.take 2000) p2 2 hb (by omega);have ah:=Xl (aa.take 2000) (p2+1) ((out.length:Int)+1) hb (by omega);have al:=Vq (aa.take 2000) (p2+1) ((out.length:Int)+1);have ak:=Zaa (aa.take 2000) (p2+1) ((out.length:Int)+1) (by omega);generalize Xw (aa.take 2000) p2 2=c at ep;obtain⟨n,hn⟩:∃ n:Nat,Xw (aa.take 2000) (p2+1) ((out.length:Int)+1)=(n:Int):=⟨(Xw (aa.take 2000) (p2+1) ((out.length:Int)+1)).toNat,by omega⟩
  rw[hn] at ah ak;have hw:=wi ((out.length:Int)+1) (by omega) (by omega);have aj:(n:Int)≤(out.length:Int):=by omega
  have af : n≤out.length:=by omega
  refine cW ?_;rcases hk with ⟨rfl,rfl⟩ | ⟨rfl,ag,rfl⟩
  ·by_cases h0:0<out.length
   ·have ab : (0:Int)<(out.length:Int):=by omega
    by_cases c0:c=0
    ·simp +contextual -implicitDefEqProofs (maxSteps:=10^7) only[go_sem,seval,↓gZ,Qw,e1,e2,e3,h0,ab,ep,c0,ah,hw,aj,af];exact⟨.own 1,.ownv 2 0 n,W,H,ps,o,a,q,t,ad,out,f,⟨ae,h3⟩,.inl rfl,.inr ⟨n,by omega,rfl⟩,rfl⟩
    ·simp +contextual -implicitDefEqProofs (maxSteps:=10^7) only[go_sem,seval,↓gZ,Qw,e1,e2,e3,h0,ab,ep,c0];exact⟨.own 1,.own 2,W,H,ps,o,a,q,t,ad,out,f,⟨ae,h3⟩,.inl rfl,.inl rfl,rfl⟩
   ·have ab : ¬(0:Int)<(out.length:Int):=by omega
    simp +contextual -implicitDefEqProofs (maxSteps:=10^7) only[go_sem,seval,↓gZ,Qw,e1,e2,e3,h0,ab];exact⟨.own 1,.own 2,W,H,ps,o,a,q,t,ad,out,f,⟨ae,h3⟩,.inl rfl,.inl rfl,rfl⟩
  ·by_cases h0:0<out.length
   ·have ab : (0:Int)<(out.length:Int):=by omega
    by_cases c0:c=0
    ·simp +contextual -implicitDefEqProofs (maxSteps:=10^7) only[go_sem,seval,↓gZ,Qw,e1,e2,e3,h0,ab,ep,c0,ah,hw,aj,af];exact⟨.ownv 1 0 1,.ownv 2 0 n,W,H,ps,o,a,q,t,ks,out,f,⟨ae,h3⟩,.inr ⟨rfl,ag⟩,.inr ⟨n,by omega,rfl⟩,rfl⟩
    ·simp +contextual -implicitDefEqProofs (maxSteps:=10^7) only[go_sem,seval,↓gZ,Qw,e1,e2,e3,h0,ab,ep,c0];exact⟨.ownv 1 0 1,.own 2,W,H,ps,o,a,q,t,ks,out,f,⟨ae,h3⟩,.inr ⟨rfl,ag⟩,.inl rfl,rfl⟩
   ·have ab : ¬(0:Int)<(out.length:Int):=by omega
    simp +contextual -implicitDefEqProofs (maxSteps:=10^7) only[go_sem,seval,↓gZ,Qw,e1,e2,e3,h0,ab];exact⟨.ownv 1 0 1,.own 2,W,H,ps,o,a,q,t,ks,out,f,⟨ae,h3⟩,.inr ⟨rfl,ag⟩,.inl rfl,rfl⟩
 rcases hK with rfl | ⟨rfl,ag⟩
 ·exact ai ks (.inl ⟨rfl,rfl⟩)
 ·exact ai (ks.take 1) (.inr ⟨rfl,ag,rfl⟩)
theorem ZoD (W H:Int) (ps:List Pane) (P:Ze) (s:List Int) (hs:s.length≤255) :
  Ub ⟨W,H,ps⟩ P s=none∨∃ (b:BT) (t u:List Box),Ub ⟨W,H,ps⟩ P s=some t∧Qp P=some b∧b.cnt≤255∧t.length≤255∧wfP P=true∧Um P=kn b 0 (-1)∧okS (Um P) [] s=true∧s.length≤(Um P).length ∧
   XJ ⟨W,H,ps⟩ P=pt b 0 0 W H∧XN ⟨W,H,ps⟩ P=true∧Ub ⟨W,H,ps⟩ P (Q5 b 0)=some u∧(∀ x∈u,x∈VQ b ⟨0,0,W,H⟩)∧u.length=(VQ b ⟨0,0,W,H⟩).length ∧
   (s.length=(Um P).length→(∀ x∈t,x∈VQ b ⟨0,0,W,H⟩)∧t.length=(VQ b ⟨0,0,W,H⟩).length):=by
 cases hb:Qp P with
 | none=>left;unfold Ub;rw[hb]
 | some b=>
  by_cases hv:(XN ⟨W,H,ps⟩ P&&okS (kn b 0 (-1)) [] s)=true
  ·right
   have ab:=hv;rw[Kb] at hv;obtain⟨hw,hc,hf⟩:=(ZeH hb).1 hv.1;simp only[VW] at hw;have hg:Jd ⟨0,0,W,H⟩:=by unfold Jd;simp only;omega
   obtain⟨b1,b2⟩:=ZqX b;have aa:Um P=kn b 0 (-1):=by unfold Um;rw[hb];simp only[hc,Kh]
   have p1:=ZhC (g:=⟨0,0,W,H⟩) hf hg b1 b2;refine⟨b,goS b ⟨0,0,W,H⟩ [⟨0,0,W,H⟩] s,goS b ⟨0,0,W,H⟩ [⟨0,0,W,H⟩] (Q5 b 0),?_,rfl,hc,?_,?_,aa,?_,?_,?_,hv.1,?_,fun x hx=>p1.mem_iff.1 hx,p1.length_eq,fun hl=>?_⟩
   ·unfold Ub;rw[hb];simp only[ab,Kh]
   ·exact K1 (ZqQ (g:=⟨0,0,W,H⟩) hf hg hv.2) hc
   ·have hz:=ZH 255 b;have:=b.cnt_pos;unfold wfP;rw[hb];exact K7 (by omega)
   ·rw[aa];exact hv.2
   ·rw[aa];exact ZqV hv.2
   ·unfold XJ;have:=hv.1;unfold XN at this;rw[hb] at this ⊢;simp only at this ⊢;rw[Kv this]
   ·unfold Ub;rw[hb];simp only[hv.1,b1,Bool.and_self,Kh]
   ·rw[aa] at hl;have p2:=ZhC (g:=⟨0,0,W,H⟩) hf hg hv.2 hl;exact⟨fun x hx=>p2.mem_iff.1 hx,p2.length_eq⟩
  ·left
   unfold Ub;rw[hb];simp only[hv,Kf];rfl
theorem Zc3 (aa:List UInt8):Zl Xs Ms XE [.d (.sl (aa.map Xc))] []=some ((.d (.bool true)),[]):=by
 by_cases hc:aa.length≤1048576
 ·have ad : ¬(1048576:Int)<(aa.length:Int):=by omega
  obtain⟨r,e1,K,S,W,H,ps,o,a,q,t,ks,out,f,⟨ap,aj⟩,hK,hS,rfl⟩:=ZdZ aa;have ag:∀ (ab : List Ze) (s:List Int),(K=.own 1∧ab=ks∨K=.ownv 1 0 1∧ks.length=2∧ab=ks.take 1)→(S=.own 2∧s=out∨∃ n:Nat,n≤out.length∧S=.ownv 2 0 n∧s=out.take n)→Zl Xs Ms XE [.d (.sl (aa.map Xc))] []=some ((.d (.bool true)),[]):=by
   intro ab s hk hs;have ak:s.length≤255:=by
    rcases hs with ⟨_,rfl⟩ | ⟨n,_,_,rfl⟩
    ·exact aj
    ·rw[KW];omega
   have c1:=ZcE W H ps (.mk o a q t ab) s (by omega);have c2:=Zh5 W H ps (.mk o a q t ab) s (by omega) (by omega);have c3:=Zfv (.mk o a q t ab) s (by omega);have c4:=Zly (.mk o a q t ab);have c5:=Zh3 W H ps (.mk o a q t ab);have c6:=Zh4 W H ps (.mk o a q t ab);rcases ZoD W H ps (.mk o a q t ab) s ak with hn | ⟨b,T,u,r1,r2,r3,r4,r5,r6,r7,r8,r9,aq,al,am,an,ao⟩
   ·have bE:Zfo .eql true (AV.d (.bool false)) (.d (.bool false))=Qk (.d (.bool true)):=rfl;have q1:=Za0 [] [] (by simp);simp only[Ku,decide_true] at q1;rw[hn,rsV] at c1 c2;rw[Ze.enc_mk] at c1 c2;rcases hk with ⟨rfl,rfl⟩ | ⟨rfl,af,rfl⟩<;>rcases hs with ⟨rfl,rfl⟩ | ⟨n,ah,rfl,rfl⟩ <;>
    ·refine cE ?_;simp +contextual -implicitDefEqProofs (maxSteps:=10^7) only[go_sem,seval,↓gZ,Z8,ad,e1,c1,c2,q1,bE,bNe,bne_self_eq_false]
   ·have q1:=Za0 T T (by omega);rw[K7 rfl] at q1;rw[r1,rsV] at c1 c2;rw[r5,r7,KO,Lu] at c3;rw[r5] at c4;simp only[Kh] at c4;rw[Ze.enc_mk] at c1 c2 c3 c4;by_cases hl:s.length=(Um (.mk o a q t ab)).length
    ·obtain⟨g1,g2⟩:=ao hl;have hp:=Y6 r2;have c7:=ZhD b r3;have ar:=V2 b 0 (-1);have au:=XV b 0 (-1);have av:=Zc7 b 0 (-1);have c8:=ZcE W H ps (.mk o a q t ab) (Q5 b 0) (by omega);have ai:=Zc6 b 0 (-1) ⟨0,0,W,H⟩;have q2:=ZbJ T (VQ b ⟨0,0,W,H⟩) g1 g2 (by omega);have q3:=ZbJ u (VQ b ⟨0,0,W,H⟩) am an (by omega);rw[al,rsV] at c8;rw[r9,ZiQ] at c5;rw[r9,Zb2] at c6;have aw:(plc b 0 0 W H).length≤255∧(wst b 0 0 W H).length≤255∧(plc b 0 0 W H).length+(wst b 0 0 W H).length≤255:=by
      unfold VQ at ai;simp only[Kg,KG] at ai;omega
     have c9:=Zkb (plc b 0 0 W H) (by omega);have hr:((plc b 0 0 W H).length+(wst b 0 0 W H).length)*32≤140737488355328∧(plc b 0 0 W H).length+(wst b 0 0 W H).length≤140737488355328:=by omega
     unfold VQ at q2 q3;simp only at q2 q3;rw[← hp] at c7;rw[K7 hl] at c3;rw[Ze.enc_mk] at c5 c6 c7 c8;rcases hk with ⟨rfl,rfl⟩ | ⟨rfl,af,rfl⟩<;>rcases hs with ⟨rfl,rfl⟩ | ⟨n,ah,rfl,rfl⟩ <;>
     ·refine cE ?_;simp +contextual -implicitDefEqProofs (maxSteps:=10^7) only[go_sem,seval,↓gZ,Z8,ad,e1,c1,c2,q1,c3,c5,c6,c7,c8,c9,hr,q2,q3,bNe,bne_self_eq_false]
    ·rw[Ln hl] at c3;have ae:(s.length:Int)<((Um (.mk o a q t ab)).length:Int):=by omega
     rcases hk with ⟨rfl,rfl⟩ | ⟨rfl,af,rfl⟩<;>rcases hs with ⟨rfl,rfl⟩ | ⟨n,ah,rfl,rfl⟩
     ·refine cE ?_;simp +contextual -implicitDefEqProofs (maxSteps:=10^7) only[go_sem,seval,↓gZ,Z8,ad,e1,c1,c2,q1,c3,c4,ae,bNe,bne_self_eq_false]
     ·rw[KW,Nat.min_eq_left ah] at ae;refine cE ?_;simp +contextual -implicitDefEqProofs (maxSteps:=10^7) only[go_sem,seval,↓gZ,Z8,ad,e1,c1,c2,q1,c3,c4,ae,Int.ofNat_lt.1 ae,bNe,bne_self_eq_false]
     ·refine cE ?_;simp +contextual -implicitDefEqProofs (maxSteps:=10^7) only[go_sem,seval,↓gZ,Z8,ad,e1,c1,c2,q1,c3,c4,ae,bNe,bne_self_eq_false]
     ·rw[KW,Nat.min_eq_left ah] at ae;refine cE ?_;simp +contextual -implicitDefEqProofs (maxSteps:=10^7) only[go_sem,seval,↓gZ,Z8,ad,e1,c1,c2,q1,c3,c4,ae,Int.ofNat_lt.1 ae,bNe,bne_self_eq_false]
  rcases hK with rfl | ⟨rfl,af⟩<;>rcases hS with rfl | ⟨n,hn,rfl⟩
  ·exact ag ks out (.inl ⟨rfl,rfl⟩) (.inl ⟨rfl,rfl⟩)
  ·exact ag ks (out.take n) (.inl ⟨rfl,rfl⟩) (.inr ⟨n,hn,rfl,rfl⟩)
  ·exact ag (ks.take 1) out (.inr ⟨rfl,af,rfl⟩) (.inl ⟨rfl,rfl⟩)
  ·exact ag (ks.take 1) (out.take n) (.inr ⟨rfl,af,rfl⟩) (.inr ⟨n,hn,rfl,rfl⟩)
 ·have ad : (1048576:Int)<(aa.length:Int):=by omega
  refine cE ?_;simp +contextual -implicitDefEqProofs (maxSteps:=10^7) only[go_sem,seval,↓gZ,Z8,ad]
end Go.Proofs.Ytighjmleicikhaa
