/- Own text. -/
import Derived.Test.YtighjmleicikhaaBCode
import Derived.Test.YtighjmleicikhaaAbsParts
import Derived.Test.YtighjmleicikhaaBC1
import Derived.Test.YtighjmleicikhaaAbsOkD
namespace Go.Proofs.Ytighjmleicikhaa
open Go Go.Abs Go.Abs.E Go.Abs.L
open Nat (reduceMul reduceSub reduceLeDiff reduceEqDiff)
open Int (reduceLE reduceEq reduceToNat reduceNeg)
set_option linter.unusedSimpArgs false
set_option linter.unusedVariables false
set_option maxRecDepth 20000
set_option maxHeartbeats 4000000
theorem Za0 (a b:List Box) (ha:a.length<4611686018427387904):Zl Xs Ms XW [(.d (.sl (a.map Box.enc))),(.d (.sl (b.map Box.enc)))] []=some ((.d (.bool (decide (a=b)))),[]):=by
 refine cE ?_;by_cases hl:a.length=b.length
 ·simp +contextual -implicitDefEqProofs (maxSteps:=10^7) only[go_sem,seval,↓gZ,WD,hl];refine Zdt Xs Ms (st0:=?st0) (α:=Nat) (fun k=>[(5,.d (J (k:Int)))]) (fun _=>[]) (fun k=>k≤b.length∧a.take k=b.take k) (fun k=>b.length-k) 0 ?hc ⟨by omega,rfl⟩ ?h0 ?step
  case hc=>simp +contextual -implicitDefEqProofs (maxSteps:=10^7) only[go_sem,seval,↓gZ,hl];exact rfl
  case h0=>rfl
  case step=>
   intro k ⟨hk,hp⟩ ih;by_cases aa:k<b.length
   ·obtain⟨x,hx⟩:∃ x,a[k]?=some x:=Qx (by omega);obtain⟨y,hy⟩:∃ y,b[k]?=some y:=Qx aa;have hw:=ZY (k:=k) (by omega);have ht:=ZjJ hx hy hp;by_cases he:x=y
    ·subst he;obtain⟨X,Y,W,H⟩:=x;simp +contextual -implicitDefEqProofs (maxSteps:=10^7) only[go_sem,seval,↓gZ,hx,hy,aa,hl,hw];refine ih (k+1) _ ⟨by omega,ht.2 rfl⟩ (by omega) ?_;simp +contextual -implicitDefEqProofs (maxSteps:=10^7) only[go_sem,seval,↓gZ,hl]
    ·have ab:¬a=b:=fun e=>he (ht.1 (by rw[e]));obtain⟨X,Y,W,H⟩:=x;obtain⟨X',Y',W',H'⟩:=y;simp only[Box.mk.injEq] at he;simp +contextual -implicitDefEqProofs (maxSteps:=10^7) only[go_sem,seval,↓gZ,hx,hy,aa,hl,hw,he,ab]
   ·have:a=b:=by
     have h1:=hp;rw[K9 (by omega),K9 (by omega)] at h1;exact h1
    simp +contextual -implicitDefEqProofs (maxSteps:=10^7) only[go_sem,seval,↓gZ,aa,hl,this]
 ·have ab:¬a=b:=fun e=>hl (by rw[e]);simp +contextual -implicitDefEqProofs (maxSteps:=10^7) only[go_sem,seval,↓gZ,WD,hl,ab]
theorem Zkb (L:List Go.Abs.L.Place) (hl:L.length≤1048576):Zl Xs Ms Uc [(.d (.sl (L.map Go.Abs.L.Place.enc)))] []=some (.own 0,[.row 4 ((L.map Go.Abs.L.Place.Box).map Box.enc) true false]):=by
 refine cE ?_;simp +contextual -implicitDefEqProofs (maxSteps:=10^7) only[go_sem,seval,↓gZ,ZbK];refine LO (α:=Nat) (fun i=>[(4,.d (J (i:Int)))]) (fun i=>[(0,.row 4 (((L.take i).map Go.Abs.L.Place.Box).map Box.enc) true false)]) (fun i=>i≤L.length) (fun i=>L.length-i) 0 (by omega) ?_;intro i hi ih;by_cases aa:i<L.length
 ·obtain⟨x,hx⟩:=Qx aa;have hw:=ZY (k:=i) (by omega);have hm:(L.take (i+1)).map Go.Abs.L.Place.Box=(L.take i).map Go.Abs.L.Place.Box++[x.Box]:=by rw[Lb,hx];simp
  have ab:(L.take i).length≤i:=by simp;omega
  have hr:((L.take i).length+1)*32≤140737488355328∧(L.take i).length≤140737488355327:=by omega
  obtain⟨q,t,⟨X,Y,W,H⟩⟩:=x;simp only at hm;simp +contextual -implicitDefEqProofs (maxSteps:=10^7) only[go_sem,seval,↓gZ,hx,aa,hw,hr];refine ih (i+1) _ (by omega) (by omega) ?_;simp +contextual -implicitDefEqProofs (maxSteps:=10^7) only[go_sem,seval,↓gZ,hm]
  first | rfl | (simp;done) | (simp;rfl)
 ·have:i=L.length:=by omega
  subst this;simp +contextual -implicitDefEqProofs (maxSteps:=10^7) only[go_sem,seval,↓gZ];try simp
def Xb:Nat→Nat
 | 0=>5
 | n+1=>2*Xb n+5
theorem Zd0 {ps aa : List Pane}:∀ {b:BT} {w h:Int},Z4 ps b w h=true→Z4 (ps++aa) b w h=true
 | .waste,w,h,_=>rfl
 | .pane i t,w,h,hf=>by
  simp only[Z4,ZW,Kb,Kk] at hf ⊢;refine⟨hf.1,?_⟩;have h2:=hf.2;cases hq:ps[i.toNat]? with
  | none=>rw[hq] at h2;cases h2
  | some q=>
   have ab:=(Kc.1 hq).1;rw[Kq ab,hq];rw[hq] at h2;exact h2
 | .cut d a l r,w,h,hf=>by
  cases d<;>simp only[Z4,Kb,Kk,Kh,Ka,Kf] at hf ⊢ <;> exact⟨⟨hf.1.1,Zd0 hf.1.2⟩,Zd0 hf.2⟩
def UC (bs:List UInt8) (kW kH:Int) (p:Nat) (ps:List Pane) (ks:List Ze):Bool→List Zh
 | true=>[.box [.d (.sl (bs.map Xc)),(.d (J p))],.box [(.d (J kW)),(.d (J kH)),.own 2],.row 4 (ps.map Pane.enc) true false,.row 5 (ks.map Ze.enc) true false]
 | false=>[.box [.d (.sl (bs.map Xc)),(.d (J p))],.box [(.d (J kW)),(.d (J kH)),.own 4],.gone,.row 5 (ks.map Ze.enc) true false,.row 4 (ps.map Pane.enc) true false]
def Zfn (bs:List UInt8) (kW kH:Int) (n p:Nat) (w h:Int) (ps:List Pane):Prop:=
 ∃ (b:BT) (p' : Nat) (ext:List Pane) (o a q:Int) (t:Bool) (ks:List Ze) (sh:Bool),b.plan=.mk o a q t ks∧p≤p'∧p'≤p+Xb n∧(ps++ext).length≤24∧Z4 (ps++ext) b w h=true∧b.cnt≤Xb n ∧
  Zl Xs Ms WB [.ptr 0 0,.ptr 1 0,(.d (J w)),(.d (J h)),(.d (J n))] [.box [.d (.sl (bs.map Xc)),(.d (J p))],.box [(.d (J kW)),(.d (J kH)),.own 2],.row 4 (ps.map Pane.enc) true false] =
   some (.agg [(.d (J o)),(.d (J a)),(.d (J q)),(.d (.bool t)),.own 3],UC bs kW kH p' (ps++ext) ks sh)
def ZpI (bs:List UInt8) (kW kH:Int) (n:Nat):Prop:=∀ (m:Nat),m<n→∀ (p:Nat) (w h:Int) (ps:List Pane),m≤4→1≤w→w≤1000→1≤h→h≤1000→ps.length≤24→p+Xb m<1000000000→Zfn bs kW kH m p w h ps
theorem ZoE (bs:List UInt8) (hb:bs.length≤2000) (kW kH:Int) (n:Nat) (IH:ZpI bs kW kH n) (p:Nat) (w h:Int) (ps:List Pane) (af:n≤4) (ag:1≤w) (ah:w≤1000) (aa:1≤h) (ab:h≤1000) (ad:ps.length≤24) (hp:p+Xb n<1000000000)
  (c:Int) (p0:Zl Xs Ms Zn [.ptr 0 0,(.d (J 8))] [.box [.d (.sl (bs.map Xc)),(.d (J p))]]=some ((.d (J c)),[.box [.d (.sl (bs.map Xc)),(.d (J ((p+1:Nat))))]]))
  (ae:(0<(n:Int)∧1<w)∧(c<3∨(c<4∧h=1))):Zfn bs kW kH n p w h ps:=by
 obtain⟨m,rfl⟩:∃ m,n=m+1:=⟨n-1,by omega⟩
 simp only[Xb] at hp;have w0:=wi (w-1) (by omega) (by omega);have p1:=Xl bs (p+1) (w-1) hb (by omega);have q2:=Vq bs (p+1) (w-1);have q3:=Zaa bs (p+1) (w-1) (by omega);generalize Xw bs (p+1) (w-1)=a0 at p1 q2 q3;have w2:=wi (1+a0) (by omega) (by omega);have w3:=wi (w-(1+a0)) (by omega) (by omega);have w4:IntKind.i64.wrap (((m+1:Nat):Int)-1)=(m:Int):=by rw[Yo (by omega) (by omega)];omega
 obtain⟨b1,p2,e1,o1,a1,r1,t1,k1,s1,g1,g2,g3,g4,g5,g6,g7⟩:=IH m (by omega) (p+2) (1+a0) h ps (by omega) (by omega) (by omega) aa ab ad (by omega);obtain⟨b2,p3,e2,o2,a2,r2,t2,k2,s2,f1,f2,f3,f4,f5,f6,f7⟩:=IH m (by omega) p2 (w-(1+a0)) h (ps++e1) (by omega) (by omega) (by omega) aa ab g4 (by omega);refine⟨.cut true (1+a0) b1 b2,p3,e1++e2,2,1+a0,0,false,[.mk o1 a1 r1 t1 k1,.mk o2 a2 r2 t2 k2],s1&&s2,?_,by omega,by simp only[Xb];omega,by rw[← Kw];exact f4,?_,by simp only[BT.cnt,Xb];omega,?_⟩
 ·simp[BT.plan,Q9,g1,f1]
 ·simp only[Z4,Kh,Ka,Kf,Kb,Kk,← Kw];exact⟨⟨⟨by omega,by omega⟩,Zd0 g5⟩,f5⟩
 ·simp only[← Kw];cases s1<;>cases s2<;>simp only[UC,Lu,Bool.and_false,KO,K6] at g7 f7 ⊢
  all_goals
   refine cE ?_;simp +contextual -implicitDefEqProofs (maxSteps:=10^7) only[go_sem,seval,↓gZ,WE,← Lg,← Ll,p0,ae,w0,p1,w2,w3,w4,g7,f7]
end Go.Proofs.Ytighjmleicikhaa
namespace Go.Proofs.Ytighjmleicikhaa
open Go Go.Abs Go.Abs.E Go.Abs.L
open Nat (reduceMul reduceSub reduceLeDiff reduceEqDiff)
open Int (reduceLE reduceEq reduceToNat reduceNeg)
set_option linter.unusedSimpArgs false
set_option linter.unusedVariables false
set_option maxRecDepth 20000
set_option maxHeartbeats 4000000
theorem Zlt (bs:List UInt8) (hb:bs.length≤2000) (kW kH:Int) (n:Nat) (IH:ZpI bs kW kH n) (p:Nat) (w h:Int) (ps:List Pane) (ah:n≤4) (ab:1≤w) (ad:w≤1000) (ai:1≤h) (aj:h≤1000) (af:ps.length≤24) (hp:p+Xb n<1000000000)
  (c:Int) (p0:Zl Xs Ms Zn [.ptr 0 0,(.d (J 8))] [.box [.d (.sl (bs.map Xc)),(.d (J p))]]=some ((.d (J c)),[.box [.d (.sl (bs.map Xc)),(.d (J ((p+1:Nat))))]]))
  (ag:¬((0<(n:Int)∧1<w)∧(c<3∨(c<4∧h=1)))) (ae:(0<(n:Int)∧1<h)∧c<6):Zfn bs kW kH n p w h ps:=by
 obtain⟨m,rfl⟩:∃ m,n=m+1:=⟨n-1,by omega⟩
 simp only[Xb] at hp;have w0:=wi (h-1) (by omega) (by omega);have p1:=Xl bs (p+1) (h-1) hb (by omega);have q2:=Vq bs (p+1) (h-1);have q3:=Zaa bs (p+1) (h-1) (by omega);generalize Xw bs (p+1) (h-1)=a0 at p1 q2 q3;have w2:=wi (1+a0) (by omega) (by omega);have w3:=wi (h-(1+a0)) (by omega) (by omega);have w4:IntKind.i64.wrap (((m+1:Nat):Int)-1)=(m:Int):=by rw[Yo (by omega) (by omega)];omega
 have aa : ¬(1<w∧(c<3∨(c<4∧h=1))):=fun h=>ag ⟨⟨ae.1.1,h.1⟩,h.2⟩;obtain⟨b1,p2,e1,o1,a1,r1,t1,k1,s1,g1,g2,g3,g4,g5,g6,g7⟩:=IH m (by omega) (p+2) w (1+a0) ps (by omega) ab ad (by omega) (by omega) af (by omega);obtain⟨b2,p3,e2,o2,a2,r2,t2,k2,s2,f1,f2,f3,f4,f5,f6,f7⟩:=IH m (by omega) p2 w (h-(1+a0)) (ps++e1) (by omega) ab ad (by omega) (by omega) g4 (by omega);refine⟨.cut false (1+a0) b1 b2,p3,e1++e2,3,1+a0,0,false,[.mk o1 a1 r1 t1 k1,.mk o2 a2 r2 t2 k2],s1&&s2,?_,by omega,by simp only[Xb];omega,by rw[← Kw];exact f4,?_,by simp only[BT.cnt,Xb];omega,?_⟩
 ·simp[BT.plan,Q9,g1,f1]
 ·simp only[Z4,Kh,Ka,Kf,Kb,Kk,← Kw];exact⟨⟨⟨by omega,by omega⟩,Zd0 g5⟩,f5⟩
 ·simp only[← Kw];cases s1<;>cases s2<;>simp only[UC,Lu,Bool.and_false,KO,K6] at g7 f7 ⊢
  all_goals
   refine cE ?_;simp +contextual -implicitDefEqProofs (maxSteps:=10^7) only[go_sem,seval,↓gZ,WE,← Lg,← Ll,p0,aa,ae,w0,p1,w2,w3,w4,g7,f7]
theorem ZmP (bs:List UInt8) (hb:bs.length≤2000) (kW kH:Int) (n:Nat) (p:Nat) (w h:Int) (ps:List Pane) (aa:ps.length≤24) (hp:p+Xb n<1000000000)
  (c:Int) (p0:Zl Xs Ms Zn [.ptr 0 0,(.d (J 8))] [.box [.d (.sl (bs.map Xc)),(.d (J p))]]=some ((.d (J c)),[.box [.d (.sl (bs.map Xc)),(.d (J ((p+1:Nat))))]]))
  (ab:¬((0<(n:Int)∧1<w)∧(c<3∨(c<4∧h=1)))) (ad:¬((0<(n:Int)∧1<h)∧c<6)) (h7:c=7):Zfn bs kW kH n p w h ps:=by
 have ae:5≤Xb n:=by cases n<;>simp[Xb]
 subst h7;refine⟨.waste,p+1,[],0,0,0,false,[],true,rfl,by omega,by omega,by simpa using aa,rfl,by simp[BT.cnt];omega,?_⟩;simp only[K8,UC];simp only[Int.reduceLT,false_or,false_and,or_false,and_false,not_false_eq_true] at ab ad;refine cE ?_;simp +contextual -implicitDefEqProofs (maxSteps:=10^7) only[go_sem,seval,↓gZ,WE,← Lg,← Ll,p0]
theorem Zjj (bs:List UInt8) (hb:bs.length≤2000) (kW kH:Int) (n:Nat) (p:Nat) (w h:Int) (ps:List Pane) (aj:1≤w) (ak:w≤1000) (al:1≤h) (am:h≤1000) (ae:ps.length≤24) (hp:p+Xb n<1000000000)
  (c:Int) (p0:Zl Xs Ms Zn [.ptr 0 0,(.d (J 8))] [.box [.d (.sl (bs.map Xc)),(.d (J p))]]=some ((.d (J c)),[.box [.d (.sl (bs.map Xc)),(.d (J ((p+1:Nat))))]]))
  (af:¬((0<(n:Int)∧1<w)∧(c<3∨(c<4∧h=1)))) (ag:¬((0<(n:Int)∧1<h)∧c<6)) (h7:¬c=7)
  (k0:Nat) (an:k0<ps.length) (t0:Bool) (ab:ZW ps k0 t0 w h=true) (ah:t0=true→ZW ps k0 false w h=false) (aa:∀ k,k<k0→∀ t,ZW ps k t w h=false):Zfn bs kW kH n p w h ps:=by
 have ao:5≤Xb n:=by cases n<;>simp[Xb]
 refine⟨.pane k0 t0,p+1,[],1,0,k0,t0,[],true,rfl,by omega,by omega,by simpa using ae,by simpa [Z4] using ab,by simp[BT.cnt];omega,?_⟩;simp only[K8,UC];refine cE ?_;simp +contextual -implicitDefEqProofs (maxSteps:=10^7) only[go_sem,seval,↓gZ,WE,← Lg,← Ll,p0,af,ag,h7];refine LO (α:=Nat) (fun k=>[(16,.d (J (k:Int)))]) (fun _=>[]) (fun k=>k≤k0) (fun k=>ps.length-k) 0 (by omega) ?_;intro k hk ih;have ad:k<ps.length:=by omega
 have hw:=ZY (k:=k) (by omega);have ef:=Qr kW kH ps k false w h (by omega);have et:=Qr kW kH ps k true w h (by omega);simp only[BT.plan,Ze.enc_mk,Ku] at ef et;by_cases ai : k=k0
 ·subst ai;cases t0 with
  | false=>
   rw[ab] at ef;simp +contextual -implicitDefEqProofs (maxSteps:=10^7) only[go_sem,seval,↓gZ,ad,hw];refine Qn Xs Ms ?_;simp +contextual -implicitDefEqProofs (maxSteps:=10^7) only[go_sem,seval,↓gZ,ef]
  | true=>
   rw[ah rfl] at ef;rw[ab] at et;simp +contextual -implicitDefEqProofs (maxSteps:=10^7) only[go_sem,seval,↓gZ,ad,hw];refine Qn Xs Ms ?_;simp +contextual -implicitDefEqProofs (maxSteps:=10^7) only[go_sem,seval,↓gZ,ef];refine Qn Xs Ms ?_;simp +contextual -implicitDefEqProofs (maxSteps:=10^7) only[go_sem,seval,↓gZ,et]
 ·rw[aa k (by omega) false] at ef;rw[aa k (by omega) true] at et;simp +contextual -implicitDefEqProofs (maxSteps:=10^7) only[go_sem,seval,↓gZ,ad,hw];refine Qn Xs Ms ?_;simp +contextual -implicitDefEqProofs (maxSteps:=10^7) only[go_sem,seval,↓gZ,ef];refine Qn Xs Ms ?_;simp +contextual -implicitDefEqProofs (maxSteps:=10^7) only[go_sem,seval,↓gZ,et];refine Qn Xs Ms ?_;simp +contextual -implicitDefEqProofs (maxSteps:=10^7) only[go_sem,seval,↓gZ,hw];refine ih (k+1) _ (by omega) (by omega) ?_;simp +contextual -implicitDefEqProofs (maxSteps:=10^7) only[go_sem,seval,↓gZ]
theorem ZoF (bs:List UInt8) (hb:bs.length≤2000) (kW kH:Int) (n:Nat) (p:Nat) (w h:Int) (ps:List Pane) (ag:1≤w) (ah:w≤1000) (ai:1≤h) (aj:h≤1000) (ak:ps.length=24) (hp:p+Xb n<1000000000)
  (c:Int) (p0:Zl Xs Ms Zn [.ptr 0 0,(.d (J 8))] [.box [.d (.sl (bs.map Xc)),(.d (J p))]]=some ((.d (J c)),[.box [.d (.sl (bs.map Xc)),(.d (J ((p+1:Nat))))]]))
  (ad:¬((0<(n:Int)∧1<w)∧(c<3∨(c<4∧h=1)))) (ae:¬((0<(n:Int)∧1<h)∧c<6)) (h7:¬c=7)
  (aa:∀ k,k<ps.length→∀ t,ZW ps k t w h=false):Zfn bs kW kH n p w h ps:=by
 have al:5≤Xb n:=by cases n<;>simp[Xb]
 refine⟨.waste,p+1,[],0,0,0,false,[],true,rfl,by omega,by omega,by simpa using (by omega:ps.length≤24),rfl,by simp[BT.cnt];omega,?_⟩;simp only[K8,UC];have af:((ps.length:Nat):Int)=24:=by omega
 refine cE ?_;simp +contextual -implicitDefEqProofs (maxSteps:=10^7) only[go_sem,seval,↓gZ,WE,← Lg,← Ll,p0,ad,ae,h7];refine LO (α:=Nat) (fun k=>[(16,.d (J (k:Int)))]) (fun _=>[]) (fun k=>k≤ps.length) (fun k=>ps.length-k) 0 (by omega) ?_;intro k hk ih;by_cases ab:k<ps.length
 ·have hw:=ZY (k:=k) (by omega);have ef:=Qr kW kH ps k false w h (by omega);have et:=Qr kW kH ps k true w h (by omega);simp only[BT.plan,Ze.enc_mk,Ku] at ef et;rw[aa k ab false] at ef;rw[aa k ab true] at et;simp +contextual -implicitDefEqProofs (maxSteps:=10^7) only[go_sem,seval,↓gZ,ab,hw];refine Qn Xs Ms ?_;simp +contextual -implicitDefEqProofs (maxSteps:=10^7) only[go_sem,seval,↓gZ,ef];refine Qn Xs Ms ?_;simp +contextual -implicitDefEqProofs (maxSteps:=10^7) only[go_sem,seval,↓gZ,et];refine Qn Xs Ms ?_;simp +contextual -implicitDefEqProofs (maxSteps:=10^7) only[go_sem,seval,↓gZ,hw]
  refine ih (k+1) _ (by omega) (by omega) ?_;simp +contextual -implicitDefEqProofs (maxSteps:=10^7) only[go_sem,seval,↓gZ]
 ·have:k=ps.length:=by omega
  subst this;simp +contextual -implicitDefEqProofs (maxSteps:=10^7) only[go_sem,seval,↓gZ,af]
theorem ZpJ (bs:List UInt8) (hb:bs.length≤2000) (kW kH:Int) (n:Nat) (p:Nat) (w h:Int) (ps:List Pane) (ai:1≤w) (aj:w≤1000) (ak:1≤h) (al:h≤1000) (am:ps.length<24) (hp:p+Xb n<1000000000)
  (c:Int) (p0:Zl Xs Ms Zn [.ptr 0 0,(.d (J 8))] [.box [.d (.sl (bs.map Xc)),(.d (J p))]]=some ((.d (J c)),[.box [.d (.sl (bs.map Xc)),(.d (J ((p+1:Nat))))]]))
  (af:¬((0<(n:Int)∧1<w)∧(c<3∨(c<4∧h=1)))) (ag:¬((0<(n:Int)∧1<h)∧c<6)) (h7:¬c=7)
  (aa:∀ k,k<ps.length→∀ t,ZW ps k t w h=false):Zfn bs kW kH n p w h ps:=by
 have an:5≤Xb n:=by cases n<;>simp[Xb]
 have ad:¬((ps.length:Nat):Int)=24:=by omega
 have p1:=Xl bs (p+1) 3 hb (by omega);generalize Xw bs (p+1) 3=v1 at p1;have w5:IntKind.i64.wrap (((ps.length+1:Nat):Int)-1)=((ps.length:Nat):Int):=by rw[Yo (by omega) (by omega)];omega
 have hr:(ps.length+1)*32≤140737488355328∧ps.length≤140737488355327:=by omega
 by_cases ae:v1=0∧¬w=h
 ·have p2:=Xl bs (p+2) 2 hb (by omega);generalize Xw bs (p+2) 2=v3 at p2;refine⟨.pane ps.length true,p+3,[⟨h,w,true,v3⟩],1,0,ps.length,true,[],false,rfl,by omega,by omega,by simp<;>omega,?_,by simp only[BT.cnt]<;>omega,?_⟩
  ·have:¬h=w:=fun e=>ae.2 e.symm;simp[Z4,ZW,this]
  simp only[UC];refine cE ?_;simp +contextual -implicitDefEqProofs (maxSteps:=10^7) only[go_sem,seval,↓gZ,WE,← Lg,← Ll,p0,af,ag,h7];refine LO (α:=Nat) (fun k=>[(16,.d (J (k:Int)))]) (fun _=>[]) (fun k=>k≤ps.length) (fun k=>ps.length-k) 0 (by omega) ?_;intro k hk ih;by_cases ab:k<ps.length
  ·have hw:=ZY (k:=k) (by omega);have ef:=Qr kW kH ps k false w h (by omega);have et:=Qr kW kH ps k true w h (by omega);simp only[BT.plan,Ze.enc_mk,Ku] at ef et;rw[aa k ab false] at ef;rw[aa k ab true] at et;simp +contextual -implicitDefEqProofs (maxSteps:=10^7) only[go_sem,seval,↓gZ,ab,hw];refine Qn Xs Ms ?_;simp +contextual -implicitDefEqProofs (maxSteps:=10^7) only[go_sem,seval,↓gZ,ef];refine Qn Xs Ms ?_;simp +contextual -implicitDefEqProofs (maxSteps:=10^7) only[go_sem,seval,↓gZ,et];refine Qn Xs Ms ?_;simp +contextual -implicitDefEqProofs (maxSteps:=10^7) only[go_sem,seval,↓gZ,hw]
   refine ih (k+1) _ (by omega) (by omega) ?_;simp +contextual -implicitDefEqProofs (maxSteps:=10^7) only[go_sem,seval,↓gZ]
  ·have:k=ps.length:=by omega
   subst this;simp +contextual -implicitDefEqProofs (maxSteps:=10^7) only[go_sem,seval,↓gZ,ad,p1,p2,ae,w5,hr]
   first | rfl | (simp[Pane.enc]<;>omega)
 ·have p2:=Xl bs (p+2) 2 hb (by omega);generalize Xw bs (p+2) 2=v2 at p2;have p3:=Xl bs (p+3) 2 hb (by omega);generalize Xw bs (p+3) 2=v3 at p3;refine⟨.pane ps.length false,p+4,[⟨w,h,decide (v2=0),v3⟩],1,0,ps.length,false,[],false,rfl,by omega,by omega,by simp<;>omega,?_,by simp only[BT.cnt]<;>omega,?_⟩
  ·simp[Z4,ZW]
  simp only[UC];refine cE ?_;simp +contextual -implicitDefEqProofs (maxSteps:=10^7) only[go_sem,seval,↓gZ,WE,← Lg,← Ll,p0,af,ag,h7];refine LO (α:=Nat) (fun k=>[(16,.d (J (k:Int)))]) (fun _=>[]) (fun k=>k≤ps.length) (fun k=>ps.length-k) 0 (by omega) ?_;intro k hk ih;by_cases ab:k<ps.length
  ·have hw:=ZY (k:=k) (by omega);have ef:=Qr kW kH ps k false w h (by omega);have et:=Qr kW kH ps k true w h (by omega);simp only[BT.plan,Ze.enc_mk,Ku] at ef et;rw[aa k ab false] at ef;rw[aa k ab true] at et;simp +contextual -implicitDefEqProofs (maxSteps:=10^7) only[go_sem,seval,↓gZ,ab,hw];refine Qn Xs Ms ?_;simp +contextual -implicitDefEqProofs (maxSteps:=10^7) only[go_sem,seval,↓gZ,ef];refine Qn Xs Ms ?_;simp +contextual -implicitDefEqProofs (maxSteps:=10^7) only[go_sem,seval,↓gZ,et];refine Qn Xs Ms ?_;simp +contextual -implicitDefEqProofs (maxSteps:=10^7) only[go_sem,seval,↓gZ,hw]
   refine ih (k+1) _ (by omega) (by omega) ?_;simp +contextual -implicitDefEqProofs (maxSteps:=10^7) only[go_sem,seval,↓gZ]
  ·have:k=ps.length:=by omega
   subst this;by_cases hv:v1=0
   ·have ah:w=h:=by
     by_cases e:w=h
     ·exact e
     ·exact absurd ⟨hv,e⟩ ae
    subst ah;simp +contextual -implicitDefEqProofs (maxSteps:=10^7) only[go_sem,seval,↓gZ,ad,p1,p2,p3,hv,w5,hr]
    first | rfl | (simp[Pane.enc]<;>omega)
   ·simp +contextual -implicitDefEqProofs (maxSteps:=10^7) only[go_sem,seval,↓gZ,ad,p1,p2,p3,hv,w5,hr]
    first | rfl | (simp[Pane.enc]<;>omega)
theorem ZoG (bs:List UInt8) (hb:bs.length≤2000) (kW kH:Int):∀ (n p:Nat) (w h:Int) (ps:List Pane),n≤4→1≤w→w≤1000→1≤h→h≤1000→ps.length≤24→p+Xb n<1000000000→Zfn bs kW kH n p w h ps:=by
 intro n
 induction n using Nat.strongRecOn with
 | _ n IH=>
 intro p w h ps al ad ae af ag ai hp;have ap:5≤Xb n:=by cases n<;>simp[Xb]
 have p0:=Xl bs p 8 hb (by omega);generalize Xw bs p 8=c at p0;by_cases ab:(0<(n:Int)∧1<w)∧(c<3∨(c<4∧h=1))
 ·exact ZoE bs hb kW kH n IH p w h ps al ad ae af ag ai hp c p0 ab
 ·by_cases ah:(0<(n:Int)∧1<h)∧c<6
  ·exact Zlt bs hb kW kH n IH p w h ps al ad ae af ag ai hp c p0 ab ah
  ·by_cases h7:c=7
   ·exact ZmP bs hb kW kH n p w h ps ai hp c p0 ab ah h7
   ·by_cases hx:∃ k,k<ps.length∧∃ t,ZW ps k t w h=true
    ·have an : ∃ k0,(k0<ps.length∧∃ t,ZW ps k0 t w h=true)∧∀ k,k<k0→¬(k<ps.length∧∃ t,ZW ps k t w h=true):=by
      obtain⟨k,hk⟩:=hx
      induction k using Nat.strongRecOn with
      | _ k ihk=>
       by_cases hm:∃ j,j<k∧(j<ps.length∧∃ t,ZW ps j t w h=true)
       ·obtain⟨j,hj,aj⟩:=hm;exact ihk j hj aj
       ·exact⟨k,hk,fun j hj aj=>hm ⟨j,hj,aj⟩⟩
     obtain⟨k0,⟨am,t,ht⟩,ak⟩:=an;have aa : ∀ k,k<k0→∀ t,ZW ps k t w h=false:=fun k hk t=>by
      cases hf:ZW ps k t w h with
      | false=>rfl
      | true=>exact absurd ⟨by omega,t,hf⟩ (ak k hk)
     cases hf:ZW ps k0 false w h with
     | true=>exact Zjj bs hb kW kH n p w h ps ad ae af ag ai hp c p0 ab ah h7 k0 am false hf (fun e=>by cases e) aa
     | false=>
      cases t with
      | false=>rw[hf] at ht;cases ht
      | true=>exact Zjj bs hb kW kH n p w h ps ad ae af ag ai hp c p0 ab ah h7 k0 am true ht (fun _=>hf) aa
    ·have aa : ∀ k,k<ps.length→∀ t,ZW ps k t w h=false:=fun k hk t=>by
      cases hf:ZW ps k t w h with
      | false=>rfl
      | true=>exact absurd ⟨k,hk,t,hf⟩ hx
     by_cases ao:ps.length=24
     ·exact ZoF bs hb kW kH n p w h ps ad ae af ag ao hp c p0 ab ah h7 aa
     ·exact ZpJ bs hb kW kH n p w h ps ad ae af ag (by omega) hp c p0 ab ah h7 aa
theorem ZcC (bs:List UInt8) (hb:bs.length≤2000) (p:Nat) (hp:p<900000000):∃ (W H:Int) (b:BT) (p' : Nat) (ps:List Pane) (o a q:Int) (t:Bool) (ks:List Ze),b.plan=.mk o a q t ks∧p≤p'∧p'≤p+200∧1≤W∧W≤30∧1≤H∧H≤20∧ps.length≤24∧Z4 ps b W H=true∧b.cnt≤155 ∧
  Zl Xs Ms Ve [.ptr 0 0] [.box [.d (.sl (bs.map Xc)),(.d (J p))]]=some (.tup [.agg [(.d (J W)),(.d (J H)),.own 1],.agg [(.d (J o)),(.d (J a)),(.d (J q)),(.d (.bool t)),.own 2]],[.box [.d (.sl (bs.map Xc)),(.d (J (p')))],.row 4 (ps.map Pane.enc) true false,.row 5 (ks.map Ze.enc) true false]):=by
 obtain⟨W,hW,eW⟩:=Ja bs p [12,20,8,30,1,5] hb (by omega) (by decide);obtain⟨H,hH,eH⟩:=Ja bs (p+1) [10,16,6,20,1,9] hb (by omega) (by decide);obtain⟨dp,hd,eD⟩:=Ja bs (p+2) [3,2,4,1,0] hb (by omega) (by decide);have ab : 1≤W∧W≤30:=by simp only[Ke,Lo,or_false] at hW;omega
 have ad : 1≤H∧H≤20:=by simp only[Ke,Lo,or_false] at hH;omega
 obtain⟨n,rfl,hn⟩:∃ n:Nat,dp=(n:Int)∧n≤4:=by
  simp only[Ke,Lo,or_false] at hd;exact⟨dp.toNat,by omega,by omega⟩
 have hg:Xb n≤155:=by
  have aa:Xb 0=5∧Xb 1=15∧Xb 2=35∧Xb 3=75∧Xb 4=155:=⟨rfl,rfl,rfl,rfl,rfl⟩
  rcases (by omega:n=0∨n=1∨n=2∨n=3∨n=4) with rfl | rfl | rfl | rfl | rfl<;>omega
 obtain⟨b,p',ps,o,a,q,t,ks,sh,g1,g2,g3,g4,g5,g6,g7⟩:=ZoG bs hb W H n (p+3) W H [] hn ab.1 (by omega) ad.1 (by omega) (by simp) (by omega);simp only[Le] at g4 g5 g7;refine⟨W,H,b,p',ps,o,a,q,t,ks,g1,by omega,by omega,ab.1,ab.2,ad.1,ad.2,g4,g5,by omega,?_⟩;simp only[Km,Ku,Xa] at eW eH eD g7;cases sh<;>simp only[UC] at g7
 all_goals
  refine cE ?_;simp +contextual -implicitDefEqProofs (maxSteps:=10^7) only[go_sem,seval,↓gZ,ZaW,eW,eH,eD,g7]
end Go.Proofs.Ytighjmleicikhaa
