/- Own text. -/
import Derived.Test.YtbpekaejmjlmfaaGreatACode
import Derived.Test.YtbpekaejmjlmfaaGreatAbsParts
import Derived.Test.YtbpekaejmjlmfaaGreatAC2
import Derived.Test.YtbpekaejmjlmfaaGreatAC17
import Derived.Test.YtbpekaejmjlmfaaGreatAC1
namespace Go.Proofs.YtbpekaejmjlmfaaGreat
open Go Go.Abs Go.Abs.E Go.Abs.L
open Nat (reduceMul reduceSub reduceLeDiff reduceEqDiff)
open Int (reduceLE reduceEq reduceToNat reduceNeg)
set_option linter.unusedSimpArgs false
set_option linter.unusedVariables false
set_option maxRecDepth 20000
set_option maxHeartbeats 4000000
def fBx:Nat→List Box→Box→Int
 | _,[],_=>-1
 | k,x :: l,n=>if x=n then (k:Int) else fBx (k+1) l n
theorem ZA5 {l:List Box} {k:Nat} {x n:Box} (hx:l[k]?=some x):fBx k (l.drop k) n=if x=n then (k:Int) else fBx (k+1) (l.drop (k+1)) n:=by
 obtain⟨h1,h2⟩:=Kc.1 hx;rw[Ku h1,h2,fBx]
theorem ZyY:∀ {l:List Box} {k:Nat} {n:Box},n∈l→∃ i,fBx k l n=((k+i:Nat):Int)∧i<l.length∧l.eraseIdx i=l.erase n
 | [],k,n,h=>by cases h
 | x :: l,k,n,h=>by
  by_cases hx:x=n
  ·exact⟨0,by simp[fBx,hx],by simp,by simp[hx]⟩
  ·obtain⟨i,h1,h2,h3⟩:=ZyY (l:=l) (k:=k+1) ((Kg.1 h).resolve_left fun e=>hx e.symm);refine⟨i+1,by simp only[fBx,hx,Kj];rw[h1];congr 1;omega,by simp only[Km];omega,?_⟩;rw[L7,h3,List.erase_cons_tail (by simpa using hx)]
theorem Zlx (l:List Box) (bX bY bW bH:Int) (hl:l.length<4611686018427387904):Zd Xs Ms Vs [(.d (.sl (l.map Box.enc))),(.d (.agg [J bX,J bY,J bW,J bH]))] []=some ((.d (J (fBx 0 l (Box.mk bX bY bW bH)))),[]):=by
 refine cE ?_;simp +contextual -implicitDefEqProofs (maxSteps:=10^7) only[go_sem,seval,↓gZ,Zbm];refine LO (α:=Nat) (fun k=>[(8,.d (J (k:Int)))]) (fun _=>[]) (fun k=>k≤l.length∧fBx k (l.drop k) (Box.mk bX bY bW bH)=fBx 0 l (Box.mk bX bY bW bH)) (fun k=>l.length-k) 0 ⟨by omega,rfl⟩ ?_;intro k ⟨hk,hp⟩ ih;by_cases aa:k<l.length
 ·obtain⟨x,hx⟩:=Zl aa;rw[ZA5 hx] at hp;have hw:=Zh (k:=k) (by omega);obtain⟨X,Y,W,H⟩:=x;simp only[Box.mk.injEq] at hp;by_cases h:X=bX∧Y=bY∧W=bW∧H=bH
  ·rw[Kl h] at hp;obtain⟨rfl,rfl,rfl,rfl⟩:=h;simp +contextual -implicitDefEqProofs (maxSteps:=10^7) only[go_sem,seval,↓gZ,hx,aa,hw];try (rw[← hp])
  ·rw[Ki h] at hp;have h' : ¬(bX=X∧bY=Y∧bW=W∧bH=H):=fun e=>h ⟨e.1.symm,e.2.1.symm,e.2.2.1.symm,e.2.2.2.symm⟩;simp +contextual -implicitDefEqProofs (maxSteps:=10^7) only[go_sem,seval,↓gZ,hx,aa,hw,← KV,h,h'];refine ih (k+1) _ ⟨by omega,hp⟩ (by omega) ?_;simp +contextual -implicitDefEqProofs (maxSteps:=10^7) only[go_sem,seval,↓gZ]
 ·have:k=l.length:=by omega
  subst this;simp +contextual -implicitDefEqProofs (maxSteps:=10^7) only[go_sem,seval,↓gZ];rw[← hp];simp[fBx]
theorem ZiX {α β:Type} (f:α→β):∀ (l:List α) (i:Nat),(l.map f).eraseIdx i=(l.eraseIdx i).map f
 | [],_=>rfl
 | _ :: _,0=>rfl
 | x :: l,i+1=>by simp[ZiX f l i]
theorem Zkf (l:List Box) (i:Nat) (hi:i<l.length):Zd Xs Ms ZR [.own 0,(.d (J i)),(.d (J ((i:Int)+1)))] [.row 4 (l.map Box.enc) true false]=some (.own 1,[.gone,.row 4 ((l.eraseIdx i).map Box.enc) true false]):=by
 refine Zj1 Xs Ms Zjz ?_;unfold Zec;simp only;rw[Kl ⟨rfl,by omega,rfl,by simp;omega,by rw[ZDa];trivial,by rw[ZBH];trivial,rfl,rfl⟩,KA,ZiX]
def rsV:Option (List Box)→AV×List Zn
 | some t=>(.tup [.own 0,(.d (.bool true))],[.row 4 (t.map Box.enc) true false])
 | none=>(.tup [.own 0,(.d (.bool false))],[.row 4 [] true false])
theorem ZvF {b:BT} (h:b.cnt≤255):∀ q∈kn b 0 (-1),0≤q.1∧q.1<255∧q.2<255:=fun q hq=>by
 have:=UX hq;omega
theorem ZCs (b:BT) (x y w h:Int):(pt b x y w h)[0]?=some ⟨b.plan,⟨x,y,w,h⟩⟩:=by cases b<;>rfl
theorem ZzJ {k:Zs} {p:Ze} {b:BT} (hb:Xz p=some b):Q6 k p=true↔VW k∧b.cnt≤255∧QF k.Panes b k.W k.H=true:=by
 unfold Q6;rw[hb];simp only[Kd,Kr,and_assoc]
theorem ZzK {c g:Box} (hc:Zeq c) (hi:ZT c g) (hg:g.X=0∧g.Y=0∧g.W≤200∧g.H≤200):0≤c.X∧0≤c.Y∧c.X+c.W≤200∧c.Y+c.H≤200∧1≤c.W∧1≤c.H:=by
 unfold Zeq at hc;unfold ZT at hi;omega
theorem ZvG {ps:List Pane} {d:Bool} {a:Int} {l r:BT} {w h:Int} (hf:QF ps (.cut d a l r) w h=true):1≤a∧a≤(if d then w else h)-1:=by
 cases d
 ·simp only[QF,Kd,Ka,Kj,Kr] at hf ⊢;exact hf.1.1
 ·simp only[QF,Kd,Kk,Kr] at hf ⊢;exact hf.1.1
theorem ZoU (d:Bool) (a:Int) (l r:BT) (cX cY cW cH:Int) (hc:0≤cX∧0≤cY∧cX+cW≤200∧cY+cH≤200∧1≤cW∧1≤cH) (ha:1≤a∧a≤(if d then cW else cH)-1) :
  Zd Xs Ms Xg [.d (BT.cut d a l r).plan.enc,(.d (.agg [J cX,J cY,J cW,J cH]))] []=some (.tup [.d (UY d a (Box.mk cX cY cW cH)).enc,.d (J9 d a (Box.mk cX cY cW cH)).enc],[]):=by
 simp only[BT.plan,Ze.enc_mk,Ko,Kz];cases d
 ·simp only[Ka,Kj] at ha;exact WF 3 a 0 false [l.plan.enc,r.plan.enc] cX cY cW cH (by decide) ⟨by omega,by omega⟩ ⟨by omega,by omega⟩
 ·simp only[Kk] at ha;exact Jv 2 a 0 false [l.plan.enc,r.plan.enc] cX cY cW cH rfl ⟨by omega,by omega⟩ ⟨by omega,by omega⟩
theorem ZiY (kW kH:Int) (kP:List Pane) (p:Ze) (s:List Int) (hs:s.length≤1048576):Zd Xs Ms Ut [(.d (.agg [J kW,J kH,.sl (kP.map Pane.enc)])),.d p.enc,.d (.sl (s.map Qg))] []=some (rsV (Zke (Zs.mk kW kH kP) p s)):=by
 have e1:=Zcu kW kH kP p;have e2:=Zct p;by_cases hv:Q6 (Zs.mk kW kH kP) p=true
 ·cases hb:Xz p with
  | none=>simp[Q6,hb] at hv
  | some b=>
   have hp:=ZcO hb;obtain⟨hw,hc,hf⟩:=(ZzJ hb).1 hv;have e3:=Zfb (kn b 0 (-1)) s (ZvF hc) (Kt (JH b 0 (-1)) hc) hs;have ae:Zg6 p=kn b 0 (-1):=by unfold Zg6;rw[hb];simp only[hc,Kk]
   have af:wfP p=true:=by
    have hz:=Ql 255 b;have:=b.cnt_pos;unfold wfP;rw[hb];exact Ke (by omega)
   have aa:ZU (Zs.mk kW kH kP) p=pt b 0 0 kW kH:=by
    unfold ZU;rw[hb];have:=hv;unfold Q6 at this;rw[hb] at this;simp only at this ⊢;rw[Kl this]
   have aj:=WD b 0 0 kW kH;have h0:=ZCs b 0 0 kW kH;have ak:=b.cnt_pos;simp only[VW] at hw;rw[aa,hv] at e1;rw[ae,af] at e2;have ab:Zke (Zs.mk kW kH kP) p s=if okS (kn b 0 (-1)) [] s=true then some (goS b ⟨0,0,kW,kH⟩ [⟨0,0,kW,kH⟩] s) else none:=by
    unfold Zke;rw[hb];simp only[hv,Lf]
   rw[ab];clear ab aa ae af;generalize hP:pt b 0 0 kW kH=P at *;have ag:¬(P.length:Int)=0:=by omega
   have ah:0<P.length:=by omega
   cases hok:okS (kn b 0 (-1)) [] s with
   | false=>
    rw[hok] at e3;simp only[Ka,Kj,rsV];obtain⟨o,a,q,t,ks⟩:=p;rw[Ze.enc_mk] at e1 e2 ⊢;refine cE ?_;simp +contextual -implicitDefEqProofs (maxSteps:=10^7) only[go_sem,seval,↓gZ,ZaB,e1,e2,e3,ag,ah]
   | true=>
    rw[hok] at e3;simp only[Kk,rsV];have hg:Zeq ⟨0,0,kW,kH⟩:=by unfold Zeq;simp only;omega
    rw[← hp] at h0;clear hb hp;obtain⟨o,a,q,t,ks⟩:=p;rw[Ze.enc_mk] at e1 e2 ⊢;refine cE ?_;simp +contextual -implicitDefEqProofs (maxSteps:=10^7) only[go_sem,seval,↓gZ,ZaB,e1,e2,e3,ag,ah,h0];refine LO (α:=Nat×List Box) (fun x=>[(45,.d (J (x.1:Int)))]) (fun x=>[(0,.row 4 (x.2.map Box.enc) true false)]) (fun x=>x.1≤s.length∧(Cl (s.take x.1) b 0∧x.2.Perm (YE (s.take x.1) b 0 ⟨0,0,kW,kH⟩)∧x.2.length≤x.1+1)∧goS b ⟨0,0,kW,kH⟩ x.2 (s.drop x.1)=goS b ⟨0,0,kW,kH⟩ [⟨0,0,kW,kH⟩] s∧okS (kn b 0 (-1)) (s.take x.1) (s.drop x.1)=true) (fun x=>s.length-x.1) (0,[⟨0,0,kW,kH⟩]) ⟨by simp,⟨Zt3 b 0,by simp[ZyU],by simp⟩,by simp,by simpa using hok⟩ ?_
    intro⟨i,t⟩ ⟨hi,⟨hC,ht,htl⟩,hgo,ho⟩ ih;simp only at hi hC ht htl hgo ho;by_cases ai:i<s.length
    ·obtain⟨m,hx⟩:=Zl ai;have al:=Zh (k:=i) (by omega);rw[ZvE hx,Kd] at ho;obtain⟨d,a',l,r,c,hm,n1,n2,n3,n4,n5,n6,n7,n8⟩:=ZyW hf hg hC ht ho.1;obtain⟨m',rfl⟩:∃ n:Nat,m=(n:Int):=⟨m.toNat,by omega⟩
     obtain⟨g1,g2⟩:=Zt2 (by omega) n1;simp only[Int.sub_zero,KA,hP] at g1;have am:m' < P.length:=(Kc.1 g1).1;obtain⟨j,j1,j2,j3⟩:=ZyY (k:=0) n5;have an:goS b ⟨0,0,kW,kH⟩ t (s.drop i)=goS b ⟨0,0,kW,kH⟩ (t.erase c++[UY d a' c,J9 d a' c]) (s.drop (i+1)):=by
      obtain⟨k1,k2⟩:=Kc.1 hx;rw[Ku k1,k2,ZvA n1]
     rw[an] at hgo;have ao:=ZzK n4 n3 ⟨rfl,rfl,by simp only;omega,by simp only;omega⟩;have au:=List.length_erase_of_mem n5;have ap:s.take (i+1)=s.take i++[(m' : Int)]:=by rw[Kw,hx];rfl
     rw[← ap] at n7 n8;obtain⟨cX,cY,cW,cH⟩:=c;have ei:=Zlx t cX cY cW cH (by omega);have ed:=Zkf t j j2;have es:=ZoU d a' l r cX cY cW cH ao (ZvG n2);rw[j1,K4] at ei;rw[j3] at ed;have aq:¬(j:Int)<0:=by omega
     have ar:=wi ((j:Int)+1) (by omega) (by omega);have hr:((t.erase ⟨cX,cY,cW,cH⟩).length+2)*32≤140737488355328∧(t.erase ⟨cX,cY,cW,cH⟩).length+1≤140737488355327∧(t.erase ⟨cX,cY,cW,cH⟩).length+2≤140737488355327∧(t.erase ⟨cX,cY,cW,cH⟩).length+2≤140737488355328:=by omega
     simp only[BT.plan,Ze.enc_mk,Ko,Kz] at es g1;simp +contextual -implicitDefEqProofs (maxSteps:=10^7) only[go_sem,seval,↓gZ,hx,ai,al,g1,am,ei,ed,es,aq,ar,hr];refine ih (i+1,t.erase ⟨cX,cY,cW,cH⟩++[UY d a' ⟨cX,cY,cW,cH⟩,J9 d a' ⟨cX,cY,cW,cH⟩]) _ ⟨by simp only;omega,⟨n7,n8,by simp only[Kp,Km,KI];omega⟩,hgo,ho.2⟩ (by simp only;omega) ?_;simp +contextual -implicitDefEqProofs (maxSteps:=10^7) only[go_sem,seval,↓gZ,KG]
    ·have:i=s.length:=by omega
     subst this;rw[List.drop_length,goS] at hgo;rw[← hgo];simp +contextual -implicitDefEqProofs (maxSteps:=10^7) only[go_sem,seval,↓gZ]
 ·have ad : Q6 (Zs.mk kW kH kP) p=false:=Bool.eq_false_iff.2 hv;have aa:ZU (Zs.mk kW kH kP) p=[]:=by
   unfold ZU;cases hb:Xz p with
   | none=>rfl
   | some b=>
    have:=ad;unfold Q6 at this;rw[hb] at this;simp only at this ⊢;rw[this];rfl
  have ab:Zke (Zs.mk kW kH kP) p s=none:=by
   unfold Zke;cases Xz p with
   | none=>rfl
   | some b=>simp only[ad,LU,Ka,Kj]
  rw[ab,rsV];rw[aa,ad] at e1;obtain⟨o,a,q,t,ks⟩:=p;rw[Ze.enc_mk] at e1 e2 ⊢;refine cE ?_;simp +contextual -implicitDefEqProofs (maxSteps:=10^7) only[go_sem,seval,↓gZ,ZaB,e1,e2]
theorem ZsK:∀ (l:List Int) (k:Nat) (n:Int),(n∈l→0≤ZO k l n)∧(n∉l→ZO k l n=-1)
 | [],k,n=>⟨fun h=>(by cases h),fun _=>rfl⟩
 | x :: l,k,n=>by
  have ih:=ZsK l (k+1) n;refine⟨fun h=>?_,fun h=>?_⟩
  ·unfold ZO;split
   ·omega
   ·rename_i hx;exact ih.1 ((Kg.1 h).resolve_left fun e=>hx e.symm)
  ·unfold ZO;rw[Ki (fun e=>h (by simp[e])),ih.2 (fun e=>h (by simp[e]))]
end Go.Proofs.YtbpekaejmjlmfaaGreat
namespace Go.Proofs.YtbpekaejmjlmfaaGreat
open Go Go.Abs Go.Abs.E Go.Abs.L
open Nat (reduceMul reduceSub reduceLeDiff reduceEqDiff)
open Int (reduceLE reduceEq reduceToNat reduceNeg)
set_option linter.unusedSimpArgs false
set_option linter.unusedVariables false
set_option maxRecDepth 20000
set_option maxHeartbeats 4000000
theorem Zg8:∀ (b:BT) (n a:Int),((kn b n a).map Prod.fst).Nodup
 | .waste,n,a=>by simp[kn]
 | .pane _ _,n,a=>by simp[kn]
 | .cut d c l r,n,a=>by
  have h1:=Zg8 l (n+1) n;have h2:=Zg8 r (n+1+l.cnt) n;simp only[kn,Ko,KG,KR,Kf,KX,LH];refine⟨?_,h1,h2,?_⟩
  ·rintro (⟨q,hq,e⟩ | ⟨q,hq,e⟩)
   ·have:=UX hq;omega
   ·have:=UX hq;omega
  ·rintro x ⟨q,hq,rfl⟩ y ⟨q',hq',rfl⟩ e
   have:=UX hq;have:=UX hq';omega
theorem ZCt {K:List (Int×Int)} {q:Int×Int} (h:q∈K) (hn:(K.map Prod.fst).Nodup):(K.find? fun x=>x.1==q.1)=some q:=by
 induction K with
 | nil=>cases h
 | cons x r ih=>
  simp only[Ko,KR] at hn;rcases Kg.1 h with rfl | h
  ·simp
  ·have aa:¬(x.1==q.1)=true:=by
    simp only[beq_iff_eq];intro e;exact hn.1 (KX.2 ⟨q,h,e.symm⟩)
   rw[List.find?_cons_of_neg (by simpa using aa)];exact ih h hn.2
theorem ZA6 {K:List (Int×Int)} {dn:List Int} {m ab:Int} (h:(m,ab)∈K) (hn:(K.map Prod.fst).Nodup) (hm:m∉dn) (ha:ab<0∨ab∈dn):okN K dn m=true:=by
 have:=ZCt h hn;simp only at this;unfold okN;rw[this];simp only[Kd,KS,KT,Lj,Kr];exact⟨hm,ha⟩
theorem ZCu {K:List (Int×Int)} {dn:List Int} {m:Int} (h:okN K dn m=true):m∈K.map Prod.fst∧m∉dn:=by
 unfold okN at h;split at h
 ·rename_i q hq;have h1:=List.find?_some hq;have h2:=List.mem_of_find?_eq_some hq;simp only[beq_iff_eq] at h1;simp only[Kd,KS,KT] at h;exact⟨KX.2 ⟨q,h2,h1⟩,h.1⟩
 ·cases h
theorem ZfA {K:List (Int×Int)}:∀ {a dn c:List Int},okS K dn (a++c)=(okS K dn a&&okS K (dn++a) c)
 | [],dn,c=>by simp[okS]
 | m :: a,dn,c=>by
  simp only[KK,okS];rw[ZfA (a:=a),Bool.and_assoc,K6,List.singleton_append]
theorem Zon {K:List (Int×Int)}:∀ {s dn:List Int},okS K dn s=true→dn.Nodup→(dn++s).Nodup∧∀ m∈s,m∈K.map Prod.fst
 | [],dn,_,h=>by simpa using h
 | m :: s,dn,ho,h=>by
  simp only[okS,Kd] at ho;obtain⟨h1,h2⟩:=ZCu ho.1;have hd:(dn++[m]).Nodup:=by
   rw[LH];exact⟨h,by simp,fun x hx y hy e=>by rw[KH.1 hy] at e;exact h2 (e ▸ hx)⟩
  obtain⟨k1,k2⟩:=Zon ho.2 hd;rw[K6,List.singleton_append] at k1;exact⟨k1,fun x hx=>by
   rcases Kg.1 hx with rfl | hx
   ·exact h1
   ·exact k2 x hx⟩
theorem ZyZ {α:Type} [DecidableEq α]:∀ {l m:List α},l.Nodup→(∀ x∈l,x∈m)→l.length≤m.length
 | [],m,_,_=>Kai _
 | x :: l,m,hn,hs=>by
  rw[KR] at hn;have hx:=hs x (by simp);have ih:=ZyZ (l:=l) (m:=m.erase x) hn.2 fun y hy=>(List.mem_erase_of_ne (by rintro rfl;exact hn.1 hy)).2 (hs y (by simp[hy]));rw[List.length_erase_of_mem hx] at ih;have:=List.length_pos_of_mem hx;simp only[Km];omega
theorem ZCv {α:Type} [DecidableEq α] {l m:List α} (hn:l.Nodup) (hs:∀ x∈l,x∈m) (hl:m.length≤l.length):∀ x∈m,x∈l:=fun x hx=>by
 by_cases h:x∈l
 ·exact h
 ·have:=ZyZ (l:=x :: l) (m:=m) (KR.2 ⟨h,hn⟩) fun y hy=>by
   rcases Kg.1 hy with rfl | hy
   ·exact hx
   ·exact hs y hy
  simp only[Km] at this;omega
theorem ZCw {b:BT} {s:List Int} (h:okS (kn b 0 (-1)) [] s=true) (hl:s.length=(kn b 0 (-1)).length):∀ q∈kn b 0 (-1),q.1∈s:=fun q hq=>by
 obtain⟨h1,h2⟩:=Zon h Lk;exact ZCv (by simpa using h1) h2 (by simp[hl]) q.1 (KX.2 ⟨q,hq,rfl⟩)
def ZfB (b:BT) (g:Box):List Box:=(plc b g.X g.Y g.W g.H).map L.Place.Box++wst b g.X g.Y g.W g.H
theorem ZfC {s:List Int}:∀ {b:BT} {n a:Int} {g:Box},(∀ q∈kn b n a,q.1∈s)→(YE s b n g).Perm (ZfB b g)
 | .waste,n,a,g,_=>by simp[YE,ZfB,plc,wst]
 | .pane i t,n,a,g,_=>by simp[YE,ZfB,plc,wst]
 | .cut d c l r,n,a,g,h=>by
  have hn:n∈s:=h (n,a) (by simp[kn]);have h1:=ZfC (b:=l) (n:=n+1) (a:=n) (g:=UY d c g) fun q hq=>h q (by simp[kn,hq]);have h2:=ZfC (b:=r) (n:=n+1+l.cnt) (a:=n) (g:=J9 d c g) fun q hq=>h q (by simp[kn,hq]);simp only[YE,hn,Kk];refine(h1.append h2).trans ?_;unfold ZfB;have e:∀ A B C D:List Box,(A++B++(C++D)).Perm (A++C++(B++D)):=fun A B C D=>by
   rw[K6,K6];refine List.Perm.append_left A ?_;rw[← K6,← K6];exact List.Perm.append_right D List.perm_append_comm
  cases d
  ·simp only[UY,J9,plc,wst,Ka,Kj,KG];exact e _ _ _ _
  ·simp only[UY,J9,plc,wst,Kk,KG];exact e _ _ _ _
theorem Zjq:∀ (b:BT) (n a:Int) (g:Box),(ZfB b g).length=(kn b n a).length+1
 | .waste,n,a,g=>rfl
 | .pane _ _,n,a,g=>rfl
 | .cut d c l r,n,a,g=>by
  have h1:=Zjq l (n+1) n (UY d c g);have h2:=Zjq r (n+1+l.cnt) n (J9 d c g);unfold ZfB at h1 h2 ⊢;simp only[kn,Km,Kp,Kv] at h1 h2 ⊢;cases d
  ·simp only[UY,J9,plc,wst,Ka,Kj,Kp] at h1 h2 ⊢;omega
  ·simp only[UY,J9,plc,wst,Kk,Kp] at h1 h2 ⊢;omega
theorem Zxq:∀ (b:BT) (n a:Int),b.cnt=2*(kn b n a).length+1
 | .waste,n,a=>rfl
 | .pane _ _,n,a=>rfl
 | .cut d c l r,n,a=>by
  have h1:=Zxq l (n+1) n;have h2:=Zxq r (n+1+l.cnt) n;simp only[kn,BT.cnt,Km,Kp];omega
theorem ZoV {ps:List Pane} {b:BT} {g:Box} {s:List Int} (hf:QF ps b g.W g.H=true) (hg:Zeq g) (ho:okS (kn b 0 (-1)) [] s=true) (hl:s.length=(kn b 0 (-1)).length):(goS b g [g] s).Perm (ZfB b g):=by
 have h:=(ZyX hf hg (Zt3 b 0) (t:=[g]) (by rw[ZyU]) ho).1;rw[Lx] at h;exact h.trans (ZfC (ZCw ho hl))
def X2:BT→Int
 | .cut _ _ l r=>if X2 l=X2 r then X2 l+1 else max (X2 l) (X2 r)
 | .waste=>0
 | .pane _ _=>0
def Qw:BT→Int→List Int
 | .cut _ _ l r,n=>if X2 r<X2 l then n :: (Qw r (n+1+l.cnt)++Qw l (n+1)) else n :: (Qw l (n+1)++Qw r (n+1+l.cnt))
 | .waste,_=>[]
 | .pane _ _,_=>[]
theorem V5:∀ b:BT,0≤X2 b∧X2 b≤b.cnt
 | .waste=>by simp[X2,BT.cnt]
 | .pane _ _=>by simp[X2,BT.cnt]
 | .cut _ _ l r=>by
  have h1:=V5 l;have h2:=V5 r;simp only[X2,BT.cnt];split<;>omega
theorem Zbi:∀ (b:BT) (n a:Int),(Qw b n).length=(kn b n a).length
 | .waste,n,a=>rfl
 | .pane _ _,n,a=>rfl
 | .cut d c l r,n,a=>by
  have h1:=Zbi l (n+1) n;have h2:=Zbi r (n+1+l.cnt) n;simp only[Qw,kn];split<;>(simp only[Km,Kp];omega)
theorem Zd1:∀ {b:BT} {n m:Int},m∈Qw b n→n≤m∧m<n+b.cnt
 | .waste,n,m,h=>by simp[Qw] at h
 | .pane _ _,n,m,h=>by simp[Qw] at h
 | .cut d c l r,n,m,h=>by
  have h' : m=n∨m∈Qw l (n+1)∨m∈Qw r (n+1+l.cnt):=by
   simp only[Qw] at h;split at h
   ·simp only[Kg,Kf] at h;rcases h with h | h | h<;>simp[h]
   ·simpa only[Kg,Kf] using h
  simp only[BT.cnt];rcases h' with h | h | h
  ·omega
  ·have:=Zd1 h;omega
  ·have:=Zd1 h;omega
theorem Zg9 {K:List (Int×Int)} (hK:(K.map Prod.fst).Nodup):∀ {b:BT} {n a:Int} {dn:List Int},(∀ q∈kn b n a,q∈K)→(∀ m∈dn,m<n∨n+b.cnt≤m)→(a<0∨a∈dn)→okS K dn (Qw b n)=true
 | .waste,n,a,dn,_,_,_=>rfl
 | .pane _ _,n,a,dn,_,_,_=>rfl
 | .cut d c l r,n,a,dn,hq,hd,ha=>by
  simp only[BT.cnt] at hd;have h0:okN K dn n=true:=ZA6 (hq (n,a) (by simp[kn])) hK (fun h=>by have:=hd n h;omega) ha;have hl:∀ q∈kn l (n+1) n,q∈K:=fun q h=>hq q (by simp[kn,h]);have hr:∀ q∈kn r (n+1+l.cnt) n,q∈K:=fun q h=>hq q (by simp[kn,h]);simp only[Qw];split
  ·simp only[okS,h0,Lf];rw[ZfA,Kd];refine⟨Zg9 hK hr (fun m hm=>?_) (.inr (by simp)),Zg9 hK hl (fun m hm=>?_) (.inr (by simp))⟩
   ·rcases Vm.1 hm with hm | rfl
    ·have:=hd m hm;omega
    ·omega
   ·rcases Kf.1 hm with hm | hm
    ·rcases Vm.1 hm with hm | rfl
     ·have:=hd m hm;omega
     ·omega
    ·have:=Zd1 hm;omega
  ·simp only[okS,h0,Lf];rw[ZfA,Kd];refine⟨Zg9 hK hl (fun m hm=>?_) (.inr (by simp)),Zg9 hK hr (fun m hm=>?_) (.inr (by simp))⟩
   ·rcases Vm.1 hm with hm | rfl
    ·have:=hd m hm;omega
    ·omega
   ·rcases Kf.1 hm with hm | hm
    ·rcases Vm.1 hm with hm | rfl
     ·have:=hd m hm;omega
     ·omega
    ·have:=Zd1 hm;omega
theorem Zy0 (b:BT):okS (kn b 0 (-1)) [] (Qw b 0)=true∧(Qw b 0).length=(kn b 0 (-1)).length:=
 ⟨Zg9 (Zg8 b 0 (-1)) (a:=-1) (fun _ h=>h) (fun _ h=>by cases h) (.inl (by decide)),Zbi b 0 (-1)⟩
theorem Zt6 {K:List (Int×Int)} (hK:(K.map Prod.fst).Nodup):∀ {b:BT} {n a:Int} {dn:List Int},(∀ q∈kn b n a,q∈K)→(∀ m∈dn,m<n∨n+b.cnt≤m)→(a<0∨a∈dn)→okS K dn ((kn b n a).map Prod.fst)=true
 | .waste,n,a,dn,_,_,_=>rfl
 | .pane _ _,n,a,dn,_,_,_=>rfl
 | .cut d c l r,n,a,dn,hq,hd,ha=>by
  simp only[BT.cnt] at hd;have h0:okN K dn n=true:=ZA6 (hq (n,a) (by simp[kn])) hK (fun h=>by have:=hd n h;omega) ha;have hl:∀ q∈kn l (n+1) n,q∈K:=fun q h=>hq q (by simp[kn,h]);have hr:∀ q∈kn r (n+1+l.cnt) n,q∈K:=fun q h=>hq q (by simp[kn,h]);simp only[kn,Ko,KG,okS,h0,Lf];rw[ZfA,Kd];refine⟨Zt6 hK hl (fun m hm=>?_) (.inr (by simp)),Zt6 hK hr (fun m hm=>?_) (.inr (by simp))⟩
  ·rcases Vm.1 hm with hm | rfl
   ·have:=hd m hm;omega
   ·omega
  ·rcases Kf.1 hm with hm | hm
   ·rcases Vm.1 hm with hm | rfl
    ·have:=hd m hm;omega
    ·omega
   ·obtain⟨q,aa,rfl⟩:=KX.1 hm;have:=UX aa;omega
theorem ZA7 (b:BT):okS (kn b 0 (-1)) [] ((kn b 0 (-1)).map Prod.fst)=true:=Zt6 (Zg8 b 0 (-1)) (fun _ h=>h) (fun _ h=>by cases h) (.inl (by decide))
theorem Y2:∀ (b:BT),b.cnt≤1000→Zd Xs Ms Yf [.d b.plan.enc] []=some ((.d (J (X2 b))),[])
 | .waste,hb=>by
  simp only[BT.plan,Ze.enc_mk,X2];refine cE ?_;simp +contextual -implicitDefEqProofs (maxSteps:=10^7) only[go_sem,seval,↓gZ,UE,Zr]
 | .pane i t,hb=>by
  simp only[BT.plan,Ze.enc_mk,X2];refine cE ?_;simp +contextual -implicitDefEqProofs (maxSteps:=10^7) only[go_sem,seval,↓gZ,UE,Zr]
 | .cut d a l r,hb=>by
  simp only[BT.cnt] at hb;have e1:=Y2 l (by omega);have e2:=Y2 r (by omega);have b1:=V5 l;have b2:=V5 r;have w1:=wi (X2 r+1) (by omega) (by omega);have w2:=wi (X2 l+1) (by omega) (by omega);have hd:(Z9 d=2∨Z9 d=3)=True:=eq_true (by cases d<;>simp[Z9]);simp only[BT.plan,Ze.enc_mk,X2];by_cases h:X2 l=X2 r
  ·rw[Kl h];refine cE ?_;simp +contextual -implicitDefEqProofs (maxSteps:=10^7) only[go_sem,seval,↓gZ,UE,Zr,hd,e1,e2,h,w1,w2]
  ·rw[Ki h];refine cE ?_;simp +contextual -implicitDefEqProofs (maxSteps:=10^7) only[go_sem,seval,↓gZ,UE,Zr,hd,e1,e2,h]
def abV (b:BT) (xs:List D) (n:Int):AV×List Zn:=match b with
 | .cut d c l r=>(.own 1,[.gone,.row 1 (xs++(Qw (.cut d c l r) n).map Qg) true false])
 | _=>(.own 0,[.row 1 xs true false])
theorem YG (b:BT):(∃ d c l r,b=.cut d c l r)∨((∀ n,Qw b n=[])∧∀ xs n,abV b xs n=(.own 0,[.row 1 xs true false])):=by
 cases b with
 | cut d' c' l' r'=>exact .inl ⟨_,_,_,_,rfl⟩
 | _=>exact .inr ⟨fun _=>rfl,fun _ _=>rfl⟩
theorem Jz {b:BT} {xs:List D} {n:Int} (h:∃ d c l r,b=.cut d c l r):abV b xs n=(.own 1,[.gone,.row 1 (xs++(Qw b n).map Qg) true false]):=by
 obtain⟨d,c,l,r,rfl⟩:=h;rfl
theorem Yl:∀ (b:BT) (xs:List D) (n:Int),0≤n→n+b.cnt≤255→xs.length+b.cnt≤1000→Zd Xs Ms Qk [.own 0,.d b.plan.enc,(.d (J n))] [.row 1 xs true false]=some (abV b xs n)
 | .waste,xs,n,h0,h1,h2=>by
  simp only[BT.plan,Ze.enc_mk,abV];refine cE ?_;simp +contextual -implicitDefEqProofs (maxSteps:=10^7) only[go_sem,seval,↓gZ,ZX,Zr]
 | .pane i t,xs,n,h0,h1,h2=>by
  simp only[BT.plan,Ze.enc_mk,abV];refine cE ?_;simp +contextual -implicitDefEqProofs (maxSteps:=10^7) only[go_sem,seval,↓gZ,ZX,Zr]
 | .cut d c l r,xs,n,h0,h1,h2=>by
  simp only[BT.cnt] at h1 h2;have w1:=wi (n+1) (by omega) (by omega);have w2:=wi (n+1+l.cnt) (by omega) (by omega);have hr:(xs.length+1)*8≤140737488355328∧xs.length≤140737488355327:=by omega
  have l1:=Zbi l (n+1) n;have l2:=Zbi r (n+1+l.cnt) n;have k1:=JH l (n+1) n;have k2:=JH r (n+1+l.cnt) n;have es:=Wi l.plan;rw[XA] at es;have hz:=Ql 255 l;have e4:Zu 255 (some l)=(l.cnt:Int):=by omega
  rw[e4] at es;have t1:=Y2 l (by omega);have t2:=Y2 r (by omega);have hd:(Z9 d=2∨Z9 d=3)=True:=eq_true (by cases d<;>simp[Z9]);obtain⟨q1,q2,q3,q4,q5,ag⟩:∃ a b c d e,l.plan=.mk a b c d e:=by cases hq:l.plan;exact⟨_,_,_,_,_,rfl⟩
  obtain⟨p1,p2,p3,p4,p5,ah⟩:∃ a b c d e,r.plan=.mk a b c d e:=by cases hq:r.plan;exact⟨_,_,_,_,_,rfl⟩
  by_cases h:X2 r<X2 l
  ·have e1:=Yl r (xs++[J n]) (n+1+l.cnt) (by omega) (by omega) (by simp only[Kp,Km,KI];omega);have e2:=Yl l (xs++[J n]++(Qw r (n+1+l.cnt)).map Qg) (n+1) (by omega) (by omega) (by simp only[Kp,Km,KI,Kv];omega);simp only[ag,ah,Ze.enc_mk] at es t1 t2 e1 e2;simp only[BT.plan,Ze.enc_mk,ag,ah,Ko,Kz,abV,Qw,h,Kk];rcases YG r with ad | ⟨aa,ae⟩
   ·rw[Jz ad] at e1;rcases YG l with hl | ⟨ab,af⟩
    ·rw[Jz hl] at e2;refine cE ?_;simp +contextual -implicitDefEqProofs (maxSteps:=10^7) only[go_sem,seval,↓gZ,ZX,Zr,hd,hr,w1,w2,es,t1,t2,h,e1,e2];try (simp[Qg];done)
    ·rw[af] at e2;rw[ab];refine cE ?_;simp +contextual -implicitDefEqProofs (maxSteps:=10^7) only[go_sem,seval,↓gZ,ZX,Zr,hd,hr,w1,w2,es,t1,t2,h,e1,e2];try (simp[Qg];done)
   ·rw[ae] at e1;rw[aa,Kz,KJ] at e2;rw[aa];rcases YG l with hl | ⟨ab,af⟩
    ·rw[Jz hl] at e2;refine cE ?_;simp +contextual -implicitDefEqProofs (maxSteps:=10^7) only[go_sem,seval,↓gZ,ZX,Zr,hd,hr,w1,w2,es,t1,t2,h,e1,e2];try (simp[Qg];done)
    ·rw[af] at e2;rw[ab];refine cE ?_;simp +contextual -implicitDefEqProofs (maxSteps:=10^7) only[go_sem,seval,↓gZ,ZX,Zr,hd,hr,w1,w2,es,t1,t2,h,e1,e2];try (simp[Qg];done)
  ·have e1:=Yl l (xs++[J n]) (n+1) (by omega) (by omega) (by simp only[Kp,Km,KI];omega);have e2:=Yl r (xs++[J n]++(Qw l (n+1)).map Qg) (n+1+l.cnt) (by omega) (by omega) (by simp only[Kp,Km,KI,Kv];omega);simp only[ag,ah,Ze.enc_mk] at es t1 t2 e1 e2;simp only[BT.plan,Ze.enc_mk,ag,ah,Ko,Kz,abV,Qw,h,Kj];rcases YG l with hl | ⟨ab,af⟩
   ·rw[Jz hl] at e1;rcases YG r with ad | ⟨aa,ae⟩
    ·rw[Jz ad] at e2;refine cE ?_;simp +contextual -implicitDefEqProofs (maxSteps:=10^7) only[go_sem,seval,↓gZ,ZX,Zr,hd,hr,w1,w2,es,t1,t2,h,e1,e2];try (simp[Qg];done)
    ·rw[ae] at e2;rw[aa];refine cE ?_;simp +contextual -implicitDefEqProofs (maxSteps:=10^7) only[go_sem,seval,↓gZ,ZX,Zr,hd,hr,w1,w2,es,t1,t2,h,e1,e2];try (simp[Qg];done)
   ·rw[af] at e1;rw[ab,Kz,KJ] at e2;rw[ab];rcases YG r with ad | ⟨aa,ae⟩
    ·rw[Jz ad] at e2;refine cE ?_;simp +contextual -implicitDefEqProofs (maxSteps:=10^7) only[go_sem,seval,↓gZ,ZX,Zr,hd,hr,w1,w2,es,t1,t2,h,e1,e2];try (simp[Qg];done)
    ·rw[ae] at e2;rw[aa];refine cE ?_;simp +contextual -implicitDefEqProofs (maxSteps:=10^7) only[go_sem,seval,↓gZ,ZX,Zr,hd,hr,w1,w2,es,t1,t2,h,e1,e2];try (simp[Qg];done)
theorem ZrA (b:BT) (h2:b.cnt≤255):Zd Xs Ms Qk [.nil,.d b.plan.enc,(.d (J 0))] []=some (.own 0,[.row 1 ((Qw b 0).map Qg) true false]):=by
 cases b with
 | waste=>
  simp only[BT.plan,Ze.enc_mk,Qw];refine cE ?_;simp +contextual -implicitDefEqProofs (maxSteps:=10^7) only[go_sem,seval,↓gZ,ZX,Zr]
 | pane i t=>
  simp only[BT.plan,Ze.enc_mk,Qw];refine cE ?_;simp +contextual -implicitDefEqProofs (maxSteps:=10^7) only[go_sem,seval,↓gZ,ZX,Zr]
 | cut d c l r=>
  simp only[BT.cnt] at h2;have hr:1*8≤ZI∧1≤ZI:=by unfold ZI;omega
  have w2:=wi (1+(l.cnt:Int)) (by omega) (by omega);have l1:=Zbi l 1 0;have l2:=Zbi r (1+l.cnt) 0;have k1:=JH l 1 0;have k2:=JH r (1+l.cnt) 0;have es:=Wi l.plan;rw[XA] at es;have hz:=Ql 255 l;have e4:Zu 255 (some l)=(l.cnt:Int):=by omega
  rw[e4] at es;have t1:=Y2 l (by omega);have t2:=Y2 r (by omega);have hd:(Z9 d=2∨Z9 d=3)=True:=eq_true (by cases d<;>simp[Z9]);obtain⟨q1,q2,q3,q4,q5,ag⟩:∃ a b c d e,l.plan=.mk a b c d e:=by cases hq:l.plan;exact⟨_,_,_,_,_,rfl⟩
  obtain⟨p1,p2,p3,p4,p5,ah⟩:∃ a b c d e,r.plan=.mk a b c d e:=by cases hq:r.plan;exact⟨_,_,_,_,_,rfl⟩
  by_cases h:X2 r<X2 l
  ·have e1:=Yl r [J 0] (1+l.cnt) (by omega) (by omega) (by simp only[Km,KI];omega);have e2:=Yl l (J 0 :: (Qw r (1+l.cnt)).map Qg) 1 (by omega) (by omega) (by simp only[Km,Kv];omega);simp only[ag,ah,Ze.enc_mk] at es t1 t2 e1 e2;simp only[BT.plan,Ze.enc_mk,ag,ah,Ko,Kz,Qw,h,Kk,Int.zero_add];rcases YG r with ad | ⟨aa,ae⟩
   ·rw[Jz ad] at e1;rcases YG l with hl | ⟨ab,af⟩
    ·rw[Jz hl] at e2;refine cE ?_;simp +contextual -implicitDefEqProofs (maxSteps:=10^7) only[go_sem,seval,↓gZ,ZX,Zr,hd,hr,w2,es,t1,t2,h,e1,e2];try (simp[Qg];done)
    ·rw[af] at e2;rw[ab];refine cE ?_;simp +contextual -implicitDefEqProofs (maxSteps:=10^7) only[go_sem,seval,↓gZ,ZX,Zr,hd,hr,w2,es,t1,t2,h,e1,e2];try (simp[Qg];done)
   ·rw[ae] at e1;rw[aa,Kz] at e2;rw[aa];rcases YG l with hl | ⟨ab,af⟩
    ·rw[Jz hl] at e2;refine cE ?_;simp +contextual -implicitDefEqProofs (maxSteps:=10^7) only[go_sem,seval,↓gZ,ZX,Zr,hd,hr,w2,es,t1,t2,h,e1,e2];try (simp[Qg];done)
    ·rw[af] at e2;rw[ab];refine cE ?_;simp +contextual -implicitDefEqProofs (maxSteps:=10^7) only[go_sem,seval,↓gZ,ZX,Zr,hd,hr,w2,es,t1,t2,h,e1,e2];try (simp[Qg];done)
  ·have e1:=Yl l [J 0] 1 (by omega) (by omega) (by simp only[Km,KI];omega);have e2:=Yl r (J 0 :: (Qw l 1).map Qg) (1+l.cnt) (by omega) (by omega) (by simp only[Km,Kv];omega);simp only[ag,ah,Ze.enc_mk] at es t1 t2 e1 e2;simp only[BT.plan,Ze.enc_mk,ag,ah,Ko,Kz,Qw,h,Kj,Int.zero_add];rcases YG l with hl | ⟨ab,af⟩
   ·rw[Jz hl] at e1;rcases YG r with ad | ⟨aa,ae⟩
    ·rw[Jz ad] at e2;refine cE ?_;simp +contextual -implicitDefEqProofs (maxSteps:=10^7) only[go_sem,seval,↓gZ,ZX,Zr,hd,hr,w2,es,t1,t2,h,e1,e2];try (simp[Qg];done)
    ·rw[ae] at e2;rw[aa];refine cE ?_;simp +contextual -implicitDefEqProofs (maxSteps:=10^7) only[go_sem,seval,↓gZ,ZX,Zr,hd,hr,w2,es,t1,t2,h,e1,e2];try (simp[Qg];done)
   ·rw[af] at e1;rw[ab,Kz] at e2;rw[ab];rcases YG r with ad | ⟨aa,ae⟩
    ·rw[Jz ad] at e2;refine cE ?_;simp +contextual -implicitDefEqProofs (maxSteps:=10^7) only[go_sem,seval,↓gZ,ZX,Zr,hd,hr,w2,es,t1,t2,h,e1,e2];try (simp[Qg];done)
    ·rw[ae] at e2;rw[aa];refine cE ?_;simp +contextual -implicitDefEqProofs (maxSteps:=10^7) only[go_sem,seval,↓gZ,ZX,Zr,hd,hr,w2,es,t1,t2,h,e1,e2];try (simp[Qg];done)
theorem ZoW (b:BT) (hc:b.cnt≤255):Zd Xs Ms U9 [.d b.plan.enc] []=some (.own 0,[.row 1 ((Qw b 0).map Qg) true false]):=by
 have hs:=Wi b.plan;rw[XA] at hs;have hz:=Ql 255 b;have e4:Zu 255 (some b)=(b.cnt:Int):=by omega
 have h0:¬(b.cnt:Int)<0:=by omega
 rw[e4] at hs;have e1:=ZrA b hc;obtain⟨q1,q2,q3,q4,q5,aa⟩:∃ a b' c d e,b.plan=.mk a b' c d e:=by cases hq:b.plan;exact⟨_,_,_,_,_,rfl⟩
 rw[aa,Ze.enc_mk] at hs e1 ⊢;refine cE ?_;simp +contextual -implicitDefEqProofs (maxSteps:=10^7) only[go_sem,seval,↓gZ,Zev,hs,h0,e1]
theorem ZgO (p:Ze) (s:List Int) (hs:s.length≤1048576):Zd Xs Ms Vt [.d p.enc,.d (.sl (s.map Qg))] []=some ((.d (.bool (wfP p&&(decide (s.length=(Zg6 p).length)&&okS (Zg6 p) [] s)))),[]):=by
 have e1:=Zct p;have hk:(∀ q∈Zg6 p,0≤q.1∧q.1<255∧q.2<255)∧(Zg6 p).length≤255:=by
  unfold Zg6;split
  ·rename_i b _;split
   ·rename_i hc;exact⟨ZvF hc,Kt (JH b 0 (-1)) hc⟩
   ·exact⟨fun q hq=>(by cases hq),Kai _⟩
  ·exact⟨fun q hq=>(by cases hq),Kai _⟩
 have e2:=Zfb (Zg6 p) s hk.1 hk.2 hs;obtain⟨o,a,q,t,ks⟩:=p;rw[Ze.enc_mk] at e1 ⊢;generalize Zg6 (.mk o a q t ks)=K at *;cases hw:wfP (.mk o a q t ks) with
 | false=>
  rw[hw] at e1;refine cE ?_;simp +contextual -implicitDefEqProofs (maxSteps:=10^7) only[go_sem,seval,↓gZ,W8,e1]
 | true=>
  rw[hw] at e1;by_cases hl:s.length=K.length
  ·have aa : (s.length:Int)=(K.length:Int):=by omega
   rw[Ke hl,Lf,Lf];refine cE ?_;simp +contextual -implicitDefEqProofs (maxSteps:=10^7) only[go_sem,seval,↓gZ,W8,e1,aa,e2,hl]
  ·have aa : ¬(s.length:Int)=(K.length:Int):=by omega
   rw[Kh hl,Lf,LU];refine cE ?_;simp +contextual -implicitDefEqProofs (maxSteps:=10^7) only[go_sem,seval,↓gZ,W8,e1,aa,hl]
theorem ZoX (a b:List Box) (h:∀ x∈a,x∈b) (hl:a.length=b.length) (hb:b.length≤1048576):Zd Xs Ms Ja [(.d (.sl (a.map Box.enc))),(.d (.sl (b.map Box.enc)))] []=some ((.d (.bool true)),[]):=by
 refine cE ?_;simp +contextual -implicitDefEqProofs (maxSteps:=10^7) only[go_sem,seval,↓gZ,Zex];refine LO (α:=Nat) (fun i=>[(5,.d (J (i:Int)))]) (fun _=>[]) (fun i=>i≤a.length) (fun i=>a.length-i) 0 (by omega) ?_;intro i hi ih;by_cases aa:i<a.length
 ·obtain⟨x,hx⟩:=Zl aa;have hw:=Zh (k:=i) (by omega);have af:=h x (Kb hx);obtain⟨X,Y,W,H⟩:=x;simp +contextual -implicitDefEqProofs (maxSteps:=10^7) only[go_sem,seval,↓gZ,hx,aa,hw];refine XP Xs Ms (st0:=?st1) (α:=Nat) (fun j=>[(7,.d (J (j:Int))),(6,(.d (.bool (decide ((⟨X,Y,W,H⟩:Box)∈b.take j)))))]) (fun _=>[]) (fun j=>j≤b.length) (fun j=>b.length-j) 0 ?hc2 (by omega) ?h02 ?step2
  case hc2=>simp +contextual -implicitDefEqProofs (maxSteps:=10^7) only[go_sem,seval,↓gZ]<;>exact rfl
  case h02=>simp only[Kaj,Ln,decide_false];rfl
  case step2=>
   intro j hj ad;by_cases ab:j<b.length
   ·obtain⟨y,hy⟩:=Zl ab;have ae:=Zh (k:=j) (by omega);have ht:decide ((⟨X,Y,W,H⟩:Box)∈b.take (j+1))=(decide ((⟨X,Y,W,H⟩:Box)∈b.take j) || decide ((⟨X,Y,W,H⟩:Box)=y)):=by
     rw[← K5];apply decide_eq_decide.2;rw[Kw,hy];simp
    obtain⟨X',Y',W',H'⟩:=y;simp only[Box.mk.injEq] at ht;by_cases hm:(⟨X,Y,W,H⟩:Box)∈b.take j
    ·rw[Ke hm,Kau] at ht;rw[Ke hm] at *;simp +contextual -implicitDefEqProofs (maxSteps:=10^7) only[go_sem,seval,↓gZ,hy,ab,ae,hx,aa];refine ad (j+1) _ (by omega) (by omega) ?_;simp +contextual -implicitDefEqProofs (maxSteps:=10^7) only[go_sem,seval,↓gZ,ht]
    ·rw[Kh hm,Lv] at ht;rw[Kh hm] at *;simp +contextual -implicitDefEqProofs (maxSteps:=10^7) only[go_sem,seval,↓gZ,hy,ab,ae,hx,aa];refine ad (j+1) _ (by omega) (by omega) ?_;simp +contextual -implicitDefEqProofs (maxSteps:=10^7) only[go_sem,seval,↓gZ,ht,← KV]
   ·have:j=b.length:=by omega
    subst this;rw[Lo,Ke af];simp +contextual -implicitDefEqProofs (maxSteps:=10^7) only[go_sem,seval,↓gZ,hw];refine ih (i+1) _ (by omega) (by omega) ?_;simp +contextual -implicitDefEqProofs (maxSteps:=10^7) only[go_sem,seval,↓gZ]
 ·have:i=a.length:=by omega
  subst this;have ag : (a.length:Int)=(b.length:Int):=by omega
  simp +contextual -implicitDefEqProofs (maxSteps:=10^7) only[go_sem,seval,↓gZ,ag]
end Go.Proofs.YtbpekaejmjlmfaaGreat
