/- Own text. -/
import Derived.Test.YtbpekaejmjlmfaaGreatACode
import Derived.Test.YtbpekaejmjlmfaaGreatAbsParts
import Derived.Test.YtbpekaejmjlmfaaGreatAC1
namespace Go.Proofs.YtbpekaejmjlmfaaGreat
open Go Go.Abs Go.Abs.E Go.Abs.L
open Nat (reduceMul reduceSub reduceLeDiff reduceEqDiff)
open Int (reduceLE reduceEq reduceToNat reduceNeg)
set_option linter.unusedSimpArgs false
set_option linter.unusedVariables false
set_option maxRecDepth 20000
set_option maxHeartbeats 4000000
theorem ZnG (a b:List Box) (ha:a.length<4611686018427387904):Zd Xs Ms W1 [(.d (.sl (a.map Box.enc))),(.d (.sl (b.map Box.enc)))] []=some ((.d (.bool (decide (a=b)))),[]):=by
 refine cE ?_;by_cases hl:a.length=b.length
 ·simp +contextual -implicitDefEqProofs (maxSteps:=10^7) only[go_sem,seval,↓gZ,ZaJ,hl];refine XP Xs Ms (st0:=?st0) (α:=Nat) (fun k=>[(5,.d (J (k:Int)))]) (fun _=>[]) (fun k=>k≤b.length∧a.take k=b.take k) (fun k=>b.length-k) 0 ?hc ⟨by omega,rfl⟩ ?h0 ?step
  case hc=>simp +contextual -implicitDefEqProofs (maxSteps:=10^7) only[go_sem,seval,↓gZ,hl];exact rfl
  case h0=>rfl
  case step=>
   intro k ⟨hk,hp⟩ ih;by_cases aa:k<b.length
   ·obtain⟨x,hx⟩:∃ x,a[k]?=some x:=Zl (by omega);obtain⟨y,hy⟩:∃ y,b[k]?=some y:=Zl aa;have hw:=Zh (k:=k) (by omega);have ht:=ZkU hx hy hp;by_cases he:x=y
    ·subst he;obtain⟨X,Y,W,H⟩:=x;simp +contextual -implicitDefEqProofs (maxSteps:=10^7) only[go_sem,seval,↓gZ,hx,hy,aa,hl,hw];refine ih (k+1) _ ⟨by omega,ht.2 rfl⟩ (by omega) ?_;simp +contextual -implicitDefEqProofs (maxSteps:=10^7) only[go_sem,seval,↓gZ,hl]
    ·have ab:¬a=b:=fun e=>he (ht.1 (by rw[e]));obtain⟨X,Y,W,H⟩:=x;obtain⟨X',Y',W',H'⟩:=y;simp only[Box.mk.injEq] at he;simp +contextual -implicitDefEqProofs (maxSteps:=10^7) only[go_sem,seval,↓gZ,hx,hy,aa,hl,hw,he,ab]
   ·have:a=b:=by
     have h1:=hp;rw[KB (by omega),KB (by omega)] at h1;exact h1
    simp +contextual -implicitDefEqProofs (maxSteps:=10^7) only[go_sem,seval,↓gZ,aa,hl,this]
 ·have ab:¬a=b:=fun e=>hl (by rw[e]);simp +contextual -implicitDefEqProofs (maxSteps:=10^7) only[go_sem,seval,↓gZ,ZaJ,hl,ab]
theorem ZgS (aL aW aH:Int) (aF:List Box) (bL bW bH:Int) (bF:List Box) (hl:aF.length<4611686018427387904):Zd Xs Ms WZ [(.d (.agg [J aL,J aW,J aH,.sl (aF.map Box.enc)])),(.d (.agg [J bL,J bW,J bH,.sl (bF.map Box.enc)]))] []=some ((.d (.bool (decide ((Zb.mk aL aW aH aF)=(Zb.mk bL bW bH bF))))),[]):=by
 refine cE ?_;simp +contextual -implicitDefEqProofs (maxSteps:=10^7) only[go_sem,seval,↓gZ,Zdn,ZnG aF bF hl];exact Zcn (by simp only[Zb.mk.injEq,and_assoc])
theorem ZnH (a b:List Zb) (ha:a.length<4611686018427387904) (hb:∀ x∈a,x.Flaws.length<4611686018427387904):Zd Xs Ms WX [(.d (.sl (a.map Zb.enc))),(.d (.sl (b.map Zb.enc)))] []=some ((.d (.bool (decide (a=b)))),[]):=by
 refine cE ?_;by_cases hl:a.length=b.length
 ·simp +contextual -implicitDefEqProofs (maxSteps:=10^7) only[go_sem,seval,↓gZ,ZaC,hl];refine XP Xs Ms (st0:=?st0) (α:=Nat) (fun k=>[(5,.d (J (k:Int)))]) (fun _=>[]) (fun k=>k≤b.length∧a.take k=b.take k) (fun k=>b.length-k) 0 ?hc ⟨by omega,rfl⟩ ?h0 ?step
  case hc=>simp +contextual -implicitDefEqProofs (maxSteps:=10^7) only[go_sem,seval,↓gZ,hl];exact rfl
  case h0=>rfl
  case step=>
   intro k ⟨hk,hp⟩ ih;by_cases aa:k<b.length
   ·obtain⟨x,hx⟩:∃ x,a[k]?=some x:=Zl (by omega);obtain⟨y,hy⟩:∃ y,b[k]?=some y:=Zl aa;have hw:=Zh (k:=k) (by omega);have ht:=ZkU hx hy hp;by_cases he:x=y
    ·subst he;have he:=ZgS x.Label x.W x.H x.Flaws x.Label x.W x.H x.Flaws (hb x (Kb hx));obtain⟨L,W,H,F⟩:=x;simp +contextual -implicitDefEqProofs (maxSteps:=10^7) only[go_sem,seval,↓gZ,hx,hy,aa,hl,hw,he];refine ih (k+1) _ ⟨by omega,ht.2 rfl⟩ (by omega) ?_;simp +contextual -implicitDefEqProofs (maxSteps:=10^7) only[go_sem,seval,↓gZ,hl]
    ·have ab:¬a=b:=fun e=>he (ht.1 (by rw[e]));have hq:=ZgS x.Label x.W x.H x.Flaws y.Label y.W y.H y.Flaws (hb x (Kb hx));obtain⟨L,W,H,F⟩:=x;obtain⟨L',W',H',F'⟩:=y;simp +contextual -implicitDefEqProofs (maxSteps:=10^7) only[go_sem,seval,↓gZ,hx,hy,aa,hl,hw,hq,he,ab]
   ·have:a=b:=by
     have h1:=hp;rw[KB (by omega),KB (by omega)] at h1;exact h1
    simp +contextual -implicitDefEqProofs (maxSteps:=10^7) only[go_sem,seval,↓gZ,aa,hl,this]
 ·have ab:¬a=b:=fun e=>hl (by rw[e]);simp +contextual -implicitDefEqProofs (maxSteps:=10^7) only[go_sem,seval,↓gZ,ZaC,hl,ab]
theorem Zxu {L:List Box} {i:Nat} {x:Box} (hx:L[i]?=some x):QT (L.take (i+1))=QT (L.take i)+x.W*x.H:=by
 rw[Kw,hx,UP];simp[QT]
theorem ZzQ (L:List Box) (hb:∀ b∈L,VB b) (hl:L.length≤1048576):Zd Xs Ms Zhn [(.d (.sl (L.map Box.enc)))] []=some ((.d (J (QT L))),[]):=by
 refine cE ?_;simp +contextual -implicitDefEqProofs (maxSteps:=10^7) only[go_sem,seval,↓gZ,Zpr];refine LO (α:=Nat) (fun i=>[(4,.d (J (i:Int))),(3,.d (J (QT (L.take i))))]) (fun _=>[]) (fun i=>i≤L.length) (fun i=>L.length-i) 0 (by omega) ?_;intro i hi ih;by_cases aa:i<L.length
 ·obtain⟨x,hx⟩:=Zl aa;have hw:=Zh (k:=i) (by omega);have hm:=Zxu hx;have ha:=ZdN (l:=L.take i) (fun c hc=>hb c (K8 hc));have ad:(L.take i).length≤i:=by simp;omega
  have ab:=JF (hb x (Kb hx));obtain⟨X,Y,W,H⟩:=x;simp only at ab hm;have w0:=wi (W*H) (by omega) (by omega);have w1:=wi (QT (L.take i)+W*H) (by omega) (by omega);simp +contextual -implicitDefEqProofs (maxSteps:=10^7) only[go_sem,seval,↓gZ,hx,aa,hw,w0,w1];refine ih (i+1) _ (by omega) (by omega) ?_;simp +contextual -implicitDefEqProofs (maxSteps:=10^7) only[go_sem,seval,↓gZ,hm]
 ·have:i=L.length:=by omega
  subst this;simp +contextual -implicitDefEqProofs (maxSteps:=10^7) only[go_sem,seval,↓gZ];try simp
theorem Zkj (bs:List UInt8) (hb:bs.length≤2000) (p:Nat) (hp:p<900000000) (w h:Int):∃ X Y W H:Int,
  Zd Xs Ms ZbV [.ptr 0 0,(.d (J w)),(.d (J h))] [.box [.d (.sl (bs.map ZaU)),(.d (J p))]]=some (.d (.agg [J X,J Y,J W,J H]),[.box [.d (.sl (bs.map ZaU)),(.d (J ((p+4:Nat))))]]):=by
 have p1:=Qp bs p w hb (by omega);generalize Q1 bs p w=a1 at p1;have p2:=Qp bs (p+1) h hb (by omega);generalize Q1 bs (p+1) h=a2 at p2;have p3:=Qp bs (p+2) (IntKind.i64.wrap (IntKind.i64.wrap (w-IntKind.i64.wrap (1+a1))+1)) hb (by omega);generalize Q1 bs (p+2) (IntKind.i64.wrap (IntKind.i64.wrap (w-IntKind.i64.wrap (1+a1))+1))=a3 at p3;have p4:=Qp bs (p+3) (IntKind.i64.wrap (IntKind.i64.wrap (h-IntKind.i64.wrap (1+a2))+1)) hb (by omega);generalize Q1 bs (p+3) (IntKind.i64.wrap (IntKind.i64.wrap (h-IntKind.i64.wrap (1+a2))+1))=a4 at p4;refine⟨a3,a4,IntKind.i64.wrap (1+a1),IntKind.i64.wrap (1+a2),?_⟩
 refine cE ?_;simp +contextual -implicitDefEqProofs (maxSteps:=10^7) only[go_sem,seval,↓gZ,Zhw,p1,p2,p3,p4]
def Vg:List Zb→Int
 | []=>0
 | x :: l=>x.W*x.H+Vg l
theorem Zt9 (a b:List Zb):Vg (a++b)=Vg a+Vg b:=by
 induction a with
 | nil=>simp[Vg]
 | cons c l ih=>simp only[KK,Vg,ih];omega
theorem Zo2 {L:List Zb} {i:Nat} {x:Zb} (hx:L[i]?=some x):Vg (L.take (i+1))=Vg (L.take i)+x.W*x.H:=by
 rw[Kw,hx,Zt9];simp[Vg]
theorem ZvM (q:Zb):∀ (n:Int) (l:List Box) (i:Nat) (x:Zb),(JO q n l)[i]?=some x→∃ b,l[i]?=some b∧x=Zmk q b (n+i)
 | n,[],i,x,h=>by simp[JO] at h
 | n,b :: l,0,x,h=>by
  simp only[JO,K3,Option.some.injEq] at h;exact⟨b,rfl,by rw[← h];simp⟩
 | n,b :: l,i+1,x,h=>by
  simp only[JO,KF] at h;obtain⟨c,h1,h2⟩:=ZvM q (n+1) l i x h;refine⟨c,by simpa using h1,?_⟩;rw[h2];congr 1;omega
theorem Zcv:∀ {l:List Zb},(∀ x∈l,1≤x.W∧x.W≤200∧1≤x.H∧x.H≤200)→0≤Vg l∧Vg l≤40000*l.length
 | [],_=>by simp[Vg]
 | x :: l,h=>by
  have h1:=h x (by simp);have h2:=Zcv (l:=l) fun y hy=>h y (by simp[hy]);have h3:0≤x.W*x.H:=L8 (by omega) (by omega);have h4:x.W*x.H≤200*200:=L9 (by omega) (by omega) (by omega) (by omega);simp only[Vg,Km];omega
end Go.Proofs.YtbpekaejmjlmfaaGreat
